/-
  Texts joined: ShI, ShJ, EvG, OrcG. Conditions: none.
-/
import Derived.Test.YtmoipmnhgdmkpaaGreatJC10
import Derived.Test.YtmoipmnhgdmkpaaGreatJC7
import Derived.Test.YtmoipmnhgdmkpaaGreatJC8
import Derived.Test.YtmoipmnhgdmkpaaGreatJC12
section
namespace Go.Proofs.YtmoipmnhgdmkpaaGreat.Aw
set_option linter.unusedSimpArgs false
set_option linter.unusedVariables false
set_option linter.unusedSectionVars false
open Go.RowKit Go.Proofs
variable {P : Program} [IsP P]

theorem indexI_pf (l : List Int) (p : Int) : Pure P 82 [eL eI l, eI p] (eI (firstAt (fun x => decide (x = p)) l)) := by
  refine zc4 (by rw [IsP.eq (P := P)]; exact Tryz.func82) rfl rfl rfl rfl rfl (by repeat' (first | exact Lo.s _ | exact zaj | refine zae ?_ ?_ | refine zak ?_ | refine Lo.cells ?_ | refine Lo.agg _ ?_ | refine Lo.ref _ ?_ | refine Lo.tup _ ?_ | refine Lo.fn _ _ ?_ | refine Lo.sl _ ?_ | intro _)) (by repeat' (first | exact Lo.s _ | exact zaj | refine zae ?_ ?_ | refine zak ?_ | refine Lo.cells ?_ | refine Lo.agg _ ?_ | refine Lo.ref _ ?_ | refine Lo.tup _ ?_ | refine Lo.fn _ _ ?_ | refine Lo.sl _ ?_ | intro _)) (by simp only [argF]; rfl) ?_
  repeat (first | refine zag ?_ | refine zar ?_ | refine zad ?_ | refine zas ?_ | refine zac ?_)
  refine zc5 (d := 0) rfl (fun hmx => ?_)
  unfold maxLen at hmx
  refine zaf ?_
  refine zab rfl rfl (zaa rfl) (mv_s (.inr rfl) rfl) ?_
  refine zan ?_
  repeat (first | refine zag ?_ | refine zar ?_ | refine zad ?_ | refine zas ?_ | refine zac ?_)
  refine zaf ?_
  first | refine zab rfl rfl (zaa rfl) (za6 (.inl rfl) rfl) ?_ | refine zab rfl rfl (zaa rfl) (zbg (.inl rfl) rfl) ?_ | refine zab rfl rfl (zaa rfl) (mv_s (.inl rfl) rfl) ?_ | refine zab rfl rfl (zaa rfl) (za7 (.inl rfl) rfl) ?_
  first | refine zab rfl rfl (zaa rfl) (za4 rfl ts22 rfl) ?_ | refine zab rfl rfl (zaa rfl) (za8 rfl ts22 rfl) ?_ | refine zab rfl rfl (zaa rfl) (za2 rfl ts22 rfl) ?_ | refine zab rfl rfl (zaa rfl) (zbc rfl ts22 rfl) ?_ | refine zab rfl rfl (zaa rfl) (za3 rfl ts22 rfl) ?_
  refine zab rfl rfl (zaa rfl) (mv_s (.inl rfl) rfl) ?_
  refine zan ?_
  repeat (first | refine zag ?_ | refine zar ?_ | refine zad ?_ | refine zas ?_ | refine zac ?_)
  refine zcc (S := Nat) (fun k => [(0, eL eI l), (1, eI p), (7, eI l.length), (8, eI k)]) (fun _ => []) (fun k => k ≤ l.length ∧ ∀ j, j < k → gti l j ≠ p) (fun k => l.length - k) 0 (wk_sub _ ⟨rfl, rfl, rfl, rfl, trivial⟩) ⟨by omega, fun j hj => by omega⟩ (fun k hk => ?_)
  obtain ⟨hk, hall⟩ := hk
  have hno : ∀ j a, j < k → l[j]? = some a → decide (a = p) = false := fun j a hj ha => by
    have := hall j hj
    unfold gti at this
    rw [ha] at this
    exact decide_eq_false this
  repeat (first | refine zag ?_ | refine zar ?_ | refine zad ?_ | refine zas ?_ | refine zac ?_)
  all_goals refine zaf ?_
  all_goals (first | refine zbh rfl rfl (zaa rfl) (zbb rfl rfl rfl) (fun h9 => ?_) (fun h9 => ?_) | refine zbi rfl rfl (zaa rfl) (zbb rfl rfl rfl) (fun h9 => ?_) (fun h9 => ?_))
  all_goals refine zan ?_
  all_goals (repeat (first | refine zag ?_ | refine zar ?_ | refine zad ?_ | refine zas ?_ | refine zac ?_))
  all_goals (first | refine zbp rfl ?_ | refine zbm rfl ?_)
  all_goals (repeat (first | refine zag ?_ | refine zar ?_ | refine zad ?_ | refine zas ?_ | refine zac ?_))
  · have hlt : k < l.length := by omega
    refine zaf ?_
    refine zab rfl rfl (zaa rfl) (mv_s (.inl rfl) rfl) ?_
    refine zab rfl rfl (zaa rfl) (mv_s (.inr rfl) rfl) ?_
    refine zan ?_
    repeat (first | refine zag ?_ | refine zar ?_ | refine zad ?_ | refine zas ?_ | refine zac ?_)
    all_goals refine zaf ?_
    all_goals refine zab rfl rfl (zaa rfl) (mv_s (.inl rfl) rfl) ?_
    all_goals (first | refine zab rfl rfl (zaa rfl) (za6 (.inl rfl) rfl) ?_ | refine zab rfl rfl (zaa rfl) (zbg (.inl rfl) rfl) ?_ | refine zab rfl rfl (zaa rfl) (mv_s (.inl rfl) rfl) ?_ | refine zab rfl rfl (zaa rfl) (za7 (.inl rfl) rfl) ?_)
    all_goals refine zab rfl rfl (zaa rfl) (mv_s (.inl rfl) rfl) ?_
    all_goals (first | refine zab rfl rfl (zaa rfl) (za1 rfl ts22 ti3 rfl rfl rfl (zb5 (by omega)) rfl) ?_ | refine zab rfl rfl (zaa rfl) (zay rfl ts22 ti3 rfl rfl rfl (by omega)) ?_)
    all_goals (first | refine zab rfl rfl (zaa rfl) (zam rfl ta3 rfl) ?_ | refine zab rfl rfl (zaa rfl) (zap rfl ta3 rfl rfl rfl rfl rfl) ?_)
    all_goals (first | refine zbh rfl rfl (zaa rfl) (zcr rfl rfl rfl) (fun h16 => ?_) (fun h16 => ?_) | refine zbi rfl rfl (zaa rfl) (zcr rfl rfl rfl) (fun h16 => ?_) (fun h16 => ?_))
    all_goals refine zan ?_
    all_goals (repeat (first | refine zag ?_ | refine zar ?_ | refine zad ?_ | refine zas ?_ | refine zac ?_))
    all_goals (first | refine zbp rfl ?_ | refine zbm rfl ?_)
    all_goals (repeat (first | refine zag ?_ | refine zar ?_ | refine zad ?_ | refine zas ?_ | refine zac ?_))
    · skip
      refine zaf ?_
      refine zab rfl rfl (zaa rfl) (mv_s (.inl rfl) rfl) ?_
      refine zab rfl rfl (zaa rfl) (mv_s (.inr rfl) rfl) ?_
      refine zan ?_
      repeat (first | refine zag ?_ | refine zar ?_ | refine zad ?_ | refine zas ?_ | refine zac ?_)
      (refine zbs ?_; repeat (first | refine zb8 ?_ | refine zb9 ?_))
      exact zcm (.inr rfl) rfl (congrArg eI (firstAt_some (zdj hlt) (decide_eq_true h16.symm) hno).symm)
    · skip
      refine zaf ?_
      refine zab rfl rfl (zaa rfl) (zb2 rfl rfl rfl (IntWalk.i64_in _ (by omega))) ?_
      refine zab rfl rfl (zaa rfl) (mv_s (.inl rfl) rfl) ?_
      refine zan ?_
      repeat (first | refine zag ?_ | refine zar ?_ | refine zad ?_ | refine zas ?_ | refine zac ?_)
      refine ⟨k + 1, ⟨by omega, fun j hj => ?_⟩, by omega, wk_sub _ ⟨rfl, rfl, rfl, rfl, trivial⟩⟩
      by_cases e : j = k
      · subst e; exact fun h => h16 h.symm
      · exact hall j (by omega)
  · have e : k = l.length := by omega
    subst e
    (refine zcl ?_; repeat (first | refine ath_x ?_ | refine zci ?_ | refine zcb rfl ?_ | refine zas ?_ | refine zar ?_ | refine zag ?_ | refine zad ?_ | refine zac ?_))
    refine zaf ?_
    refine zab rfl rfl (zaa rfl) (mv_s (.inr rfl) rfl) ?_
    refine zan ?_
    repeat (first | refine zag ?_ | refine zar ?_ | refine zad ?_ | refine zas ?_ | refine zac ?_)
    (refine zbs ?_; repeat (first | refine zb8 ?_ | refine zb9 ?_))
    exact zcm (.inr rfl) rfl (congrArg eI (firstAt_none hno).symm)
theorem containsI_pf (l : List Int) (p : Int) : Pure P 71 [eL eI l, eI p] (eB (inB l p)) := by
  have hi := indexI_pf (P := P) l p
  have ha : decide (0 ≤ firstAt (fun x => decide (x = p)) l) = inB l p := firstAt_any _ _
  generalize firstAt (fun x => decide (x = p)) l = k at hi ha
  refine zc4 (by rw [IsP.eq (P := P)]; exact Tryz.func71) rfl rfl rfl rfl rfl (by repeat' (first | exact Lo.s _ | exact zaj | refine zae ?_ ?_ | refine zak ?_ | refine Lo.cells ?_ | refine Lo.agg _ ?_ | refine Lo.ref _ ?_ | refine Lo.tup _ ?_ | refine Lo.fn _ _ ?_ | refine Lo.sl _ ?_ | intro _)) (by repeat' (first | exact Lo.s _ | exact zaj | refine zae ?_ ?_ | refine zak ?_ | refine Lo.cells ?_ | refine Lo.agg _ ?_ | refine Lo.ref _ ?_ | refine Lo.tup _ ?_ | refine Lo.fn _ _ ?_ | refine Lo.sl _ ?_ | intro _)) (by simp only [argF]; rfl) ?_
  repeat (first | refine zag ?_ | refine zar ?_ | refine zad ?_ | refine zas ?_ | refine zac ?_)
  refine zaf ?_
  refine zab rfl rfl (zaa rfl) (mv_s (.inr rfl) rfl) ?_
  refine zan ?_
  repeat (first | refine zag ?_ | refine zar ?_ | refine zad ?_ | refine zas ?_ | refine zac ?_)
  refine zaf ?_
  first | refine zab rfl rfl (zaa rfl) (za6 (.inl rfl) rfl) ?_ | refine zab rfl rfl (zaa rfl) (zbg (.inl rfl) rfl) ?_ | refine zab rfl rfl (zaa rfl) (mv_s (.inl rfl) rfl) ?_ | refine zab rfl rfl (zaa rfl) (za7 (.inl rfl) rfl) ?_
  refine zab rfl rfl (zaa rfl) (mv_s (.inl rfl) rfl) ?_
  refine zab rfl rfl (zaa rfl) (za5 rfl rfl (hi) (zau rfl (zau rfl zbj))) ?_
  refine zab rfl rfl (zaa rfl) (zcp rfl rfl rfl) ?_
  refine zab rfl rfl (zaa rfl) (mv_s (.inr rfl) rfl) ?_
  refine zan ?_
  repeat (first | refine zag ?_ | refine zar ?_ | refine zad ?_ | refine zas ?_ | refine zac ?_)
  (refine zbs ?_; repeat (first | refine zb8 ?_ | refine zb9 ?_))
  exact zcm (.inr rfl) rfl (congrArg eB ha)
/-- a row with 1 at the places that a function tells -/
def unitL (n : Nat) (f : Nat → Bool) : List Fr := (List.range n).map fun i => Fr.of (if f i = true then 1 else 0)
theorem unitL_len (n : Nat) (f : Nat → Bool) : (unitL n f).length = n := by simp [unitL]
theorem unitL_gti {n : Nat} {f : Nat → Bool} {k : Nat} (h : k < n) : gti (unitL n f) k = Fr.of (if f k = true then 1 else 0) := by
  have h1 : (unitL n f)[k]? = some (Fr.of (if f k = true then 1 else 0)) := by
    unfold unitL
    rw [List.getElem?_map, List.getElem?_range h]; rfl
  unfold gti
  rw [h1]; rfl
set_option maxHeartbeats 1000000 in
theorem unit_pf (n : Nat) (hn : n ≤ 12) (f : FuncId) (caps : List AV) (p : Nat → Bool) (hlc : Lo 0 (.fn f caps)) (hf : ∀ i, i < n → Pure P f ([eI i] ++ caps) (eB (p i))) : Pure P 69 [eI n, .fn f caps] (eL eF (unitL n p)) := by
  refine zc4 (by rw [IsP.eq (P := P)]; exact Tryz.func69) rfl rfl rfl rfl rfl (zae (.s _) (zae hlc zaj)) (by repeat' (first | exact Lo.s _ | exact zaj | refine zae ?_ ?_ | refine zak ?_ | refine Lo.cells ?_ | refine Lo.agg _ ?_ | refine Lo.ref _ ?_ | refine Lo.tup _ ?_ | refine Lo.fn _ _ ?_ | refine Lo.sl _ ?_ | intro _)) (by simp only [argF]; rfl) ?_
  repeat (first | refine zag ?_ | refine zar ?_ | refine zad ?_ | refine zas ?_ | refine zac ?_)
  refine zaf ?_
  first | refine zab rfl rfl (zaa rfl) (za6 (.inr rfl) rfl) ?_ | refine zab rfl rfl (zaa rfl) (zbg (.inr rfl) rfl) ?_ | refine zab rfl rfl (zaa rfl) (mv_s (.inr rfl) rfl) ?_ | refine zab rfl rfl (zaa rfl) (za7 (.inr rfl) rfl) ?_
  refine zan ?_
  repeat (first | refine zag ?_ | refine zar ?_ | refine zad ?_ | refine zas ?_ | refine zac ?_)
  refine zaf ?_
  refine zab rfl rfl (zaa rfl) (does_lit0 rfl rfl ts27 ti41) ?_
  first | refine zab rfl rfl (zaa rfl) (za6 (.inr rfl) rfl) ?_ | refine zab rfl rfl (zaa rfl) (zbg (.inr rfl) rfl) ?_ | refine zab rfl rfl (zaa rfl) (mv_s (.inr rfl) rfl) ?_ | refine zab rfl rfl (zaa rfl) (za7 (.inr rfl) rfl) ?_
  refine zan ?_
  repeat (first | refine zag ?_ | refine zar ?_ | refine zad ?_ | refine zas ?_ | refine zac ?_)
  refine zaf ?_
  refine zab rfl rfl (zaa rfl) (mv_s (.inl rfl) rfl) ?_
  refine zab rfl rfl (zaa rfl) (mv_s (.inl rfl) rfl) ?_
  refine zan ?_
  repeat (first | refine zag ?_ | refine zar ?_ | refine zad ?_ | refine zas ?_ | refine zac ?_)
  refine zca (wk_own (d := 5) 2 rfl (.inl rfl)) ?_
  refine zcc (S := Nat) (fun k => [(1, .fn f caps), (8, eI n), (9, eI k), (5, .own 0 2 k)]) (fun k => [.row 2 (((unitL n p).take k).map eF)]) (fun k => k ≤ n) (fun k => n - k) 0 (zck [0] (by decide) ⟨⟨_, rfl, .rowE (by repeat' (first | exact Lo.s _ | exact zaj | exact zbn | refine zae ?_ ?_ | refine zbe ?_ ?_ | refine zak ?_ | refine zbo ?_ | refine Lo.cells ?_ | refine Lo.agg _ ?_ | refine Lo.sl _ ?_ | intro _)) rfl⟩, trivial⟩ ⟨.lo _ hlc, .lo _ (by repeat' (first | exact Lo.s _ | exact zaj | refine zae ?_ ?_ | refine zak ?_ | refine Lo.cells ?_ | refine Lo.agg _ ?_ | refine Lo.ref _ ?_ | refine Lo.tup _ ?_ | refine Lo.fn _ _ ?_ | refine Lo.sl _ ?_ | intro _)), .lo _ (by repeat' (first | exact Lo.s _ | exact zaj | refine zae ?_ ?_ | refine zak ?_ | refine Lo.cells ?_ | refine Lo.agg _ ?_ | refine Lo.ref _ ?_ | refine Lo.tup _ ?_ | refine Lo.fn _ _ ?_ | refine Lo.sl _ ?_ | intro _)), .own 0 0 2 _ _ rfl rfl, trivial⟩) (Nat.zero_le _) (fun k hk => ?_)
  have hcl := unitL_len n p
  repeat (first | refine zag ?_ | refine zar ?_ | refine zad ?_ | refine zas ?_ | refine zac ?_)
  all_goals refine zaf ?_
  all_goals (first | refine zbh rfl rfl (zaa rfl) (zbb rfl rfl rfl) (fun h10 => ?_) (fun h10 => ?_) | refine zbi rfl rfl (zaa rfl) (zbb rfl rfl rfl) (fun h10 => ?_) (fun h10 => ?_))
  all_goals refine zan ?_
  all_goals (repeat (first | refine zag ?_ | refine zar ?_ | refine zad ?_ | refine zas ?_ | refine zac ?_))
  all_goals (first | refine zbp rfl ?_ | refine zbm rfl ?_)
  all_goals (repeat (first | refine zag ?_ | refine zar ?_ | refine zad ?_ | refine zas ?_ | refine zac ?_))
  · have hlt : k < n := by omega
    have htk : (((unitL n p).take k).map eF).length = k := by simp; omega
    have hrow : ((unitL n p).take (k + 1)).map eF = ((unitL n p).take k).map eF ++ [eF (Fr.of (if p k = true then 1 else 0))] := by
      rw [take_snoc (by omega), List.map_append, unitL_gti hlt]; rfl
    have hp := hf k hlt
    generalize p k = z at hp hrow
    refine zaf ?_
    refine zab rfl rfl (zaa rfl) (mv_s (.inl rfl) rfl) ?_
    refine zab rfl rfl (zaa rfl) (mv_s (.inr rfl) rfl) ?_
    refine zan ?_
    repeat (first | refine zag ?_ | refine zar ?_ | refine zad ?_ | refine zas ?_ | refine zac ?_)
    cases z with
    | true =>
      refine zaf ?_
      first | refine zab rfl rfl (zaa rfl) (mv_fn (.inl rfl) rfl) ?_ | refine zab rfl rfl (zaa rfl) (mv_s (.inl rfl) rfl) ?_
      refine zab rfl rfl (zaa rfl) (mv_s (.inl rfl) rfl) ?_
      refine zab rfl rfl (zaa rfl) (za5 rfl rfl (hp) (zau rfl zbj)) ?_
      refine zan ?_
      repeat (first | refine zag ?_ | refine zar ?_ | refine zad ?_ | refine zas ?_ | refine zac ?_)
      refine zbp rfl ?_
      repeat (first | refine zag ?_ | refine zar ?_ | refine zad ?_ | refine zas ?_ | refine zac ?_)
      rw [if_pos rfl] at hrow
      refine zaf ?_
      first | refine zab rfl rfl (zaa rfl) (za6 (.inl rfl) rfl) ?_ | refine zab rfl rfl (zaa rfl) (zbg (.inl rfl) rfl) ?_ | refine zab rfl rfl (zaa rfl) (mv_s (.inl rfl) rfl) ?_ | refine zab rfl rfl (zaa rfl) (za7 (.inl rfl) rfl) ?_
      refine zab rfl rfl (zaa rfl) (za5 rfl rfl ((whole_pf _)) (zau rfl zbj)) ?_
      first | refine zab rfl rfl (zaa rfl) (lit1_sF rfl ts27 ti41 rfl rfl rfl rfl) ?_ | refine zab rfl rfl (zaa rfl) (lit1_slF rfl ts27 ti41 rfl rfl rfl rfl (by repeat' (first | exact Lo.s _ | exact zaj | refine zae ?_ ?_ | refine zak ?_ | refine Lo.cells ?_ | refine Lo.agg _ ?_ | refine Lo.ref _ ?_ | refine Lo.tup _ ?_ | refine Lo.fn _ _ ?_ | refine Lo.sl _ ?_ | intro _))) ?_ | refine zab rfl rfl (zaa rfl) (zdl rfl ts27 ti41 rfl rfl (by decide) (by decide) rfl rfl rfl (by repeat' (first | exact Lo.s _ | exact zaj | refine zae ?_ ?_ | refine zak ?_ | refine Lo.cells ?_ | refine Lo.agg _ ?_ | refine Lo.ref _ ?_ | refine Lo.tup _ ?_ | refine Lo.fn _ _ ?_ | refine Lo.sl _ ?_ | intro _))) ?_
      first | refine zab rfl rfl (zaa rfl) (zcx rfl ts27 ti41 rfl (by decide) rfl rfl (by first | rfl | (simp; done) | (simp; omega)) rfl (by first | exact .own _ _ _ rfl rfl _ (by first | rfl | simp) | exact .emp | exact .nil | exact .sl _ (by first | simp; done | intro e he; simp at he; obtain ⟨_, _, rfl⟩ := he; rfl)) (by first | omega | (simp; omega) | (unfold maxLen; simp; omega)) (by first | omega | (simp; omega) | (unfold maxLen; simp; omega))) ?_ | refine zab rfl rfl (zaa rfl) (zb1 rfl ts27 ti41 rfl (by decide) rfl (.inl rfl) rfl (by first | exact .own _ _ _ rfl rfl _ (by first | rfl | simp) | exact .emp | exact .nil | exact .sl _ (by first | simp; done | intro e he; simp at he; obtain ⟨_, _, rfl⟩ := he; rfl)) (by first | omega | (simp; omega) | (unfold maxLen; simp; omega)) (by first | omega | (simp; omega) | (unfold maxLen; simp; omega))) ?_ | refine zab rfl rfl (zaa rfl) (zb1 rfl ts27 ti41 rfl (by decide) rfl (.inr rfl) rfl (by first | exact .own _ _ _ rfl rfl _ (by first | rfl | simp) | exact .emp | exact .nil | exact .sl _ (by first | simp; done | intro e he; simp at he; obtain ⟨_, _, rfl⟩ := he; rfl)) (by first | omega | (simp; omega) | (unfold maxLen; simp; omega)) (by first | omega | (simp; omega) | (unfold maxLen; simp; omega))) ?_
      first | refine zab rfl rfl (zaa rfl) (za6 (.inr rfl) rfl) ?_ | refine zab rfl rfl (zaa rfl) (zbg (.inr rfl) rfl) ?_ | refine zab rfl rfl (zaa rfl) (mv_s (.inr rfl) rfl) ?_ | refine zab rfl rfl (zaa rfl) (za7 (.inr rfl) rfl) ?_
      refine zan ?_
      repeat (first | refine zag ?_ | refine zar ?_ | refine zad ?_ | refine zas ?_ | refine zac ?_)
      refine zaf ?_
      refine zab rfl rfl (zaa rfl) (zb2 rfl rfl rfl (IntWalk.i64_in _ (by omega))) ?_
      refine zab rfl rfl (zaa rfl) (mv_s (.inl rfl) rfl) ?_
      refine zan ?_
      repeat (first | refine zag ?_ | refine zar ?_ | refine zad ?_ | refine zas ?_ | refine zac ?_)
      exact ⟨k + 1, by omega, by omega, zck [1] (by decide) ⟨⟨_, rfl, .rowE (by repeat' (first | exact Lo.s _ | exact zaj | exact zbn | refine zae ?_ ?_ | refine zbe ?_ ?_ | refine zak ?_ | refine zbo ?_ | refine Lo.cells ?_ | refine Lo.agg _ ?_ | refine Lo.sl _ ?_ | intro _)) (Eq.trans (b := ((unitL n p).take k).map eF ++ [eF (Fr.of 1)]) rfl hrow.symm)⟩, trivial⟩ ⟨.lo _ hlc, .lo _ (by repeat' (first | exact Lo.s _ | exact zaj | refine zae ?_ ?_ | refine zak ?_ | refine Lo.cells ?_ | refine Lo.agg _ ?_ | refine Lo.ref _ ?_ | refine Lo.tup _ ?_ | refine Lo.fn _ _ ?_ | refine Lo.sl _ ?_ | intro _)), .lo _ (by repeat' (first | exact Lo.s _ | exact zaj | refine zae ?_ ?_ | refine zak ?_ | refine Lo.cells ?_ | refine Lo.agg _ ?_ | refine Lo.ref _ ?_ | refine Lo.tup _ ?_ | refine Lo.fn _ _ ?_ | refine Lo.sl _ ?_ | intro _)), .own 1 0 2 _ _ rfl (by simp; omega), trivial⟩⟩
    | false =>
      refine zaf ?_
      first | refine zab rfl rfl (zaa rfl) (mv_fn (.inl rfl) rfl) ?_ | refine zab rfl rfl (zaa rfl) (mv_s (.inl rfl) rfl) ?_
      refine zab rfl rfl (zaa rfl) (mv_s (.inl rfl) rfl) ?_
      refine zab rfl rfl (zaa rfl) (za5 rfl rfl (hp) (zau rfl zbj)) ?_
      refine zan ?_
      repeat (first | refine zag ?_ | refine zar ?_ | refine zad ?_ | refine zas ?_ | refine zac ?_)
      refine zbm rfl ?_
      repeat (first | refine zag ?_ | refine zar ?_ | refine zad ?_ | refine zas ?_ | refine zac ?_)
      rw [if_neg (by simp)] at hrow
      refine zaf ?_
      first | refine zab rfl rfl (zaa rfl) (za6 (.inl rfl) rfl) ?_ | refine zab rfl rfl (zaa rfl) (zbg (.inl rfl) rfl) ?_ | refine zab rfl rfl (zaa rfl) (mv_s (.inl rfl) rfl) ?_ | refine zab rfl rfl (zaa rfl) (za7 (.inl rfl) rfl) ?_
      refine zab rfl rfl (zaa rfl) (za5 rfl rfl ((whole_pf _)) (zau rfl zbj)) ?_
      first | refine zab rfl rfl (zaa rfl) (lit1_sF rfl ts27 ti41 rfl rfl rfl rfl) ?_ | refine zab rfl rfl (zaa rfl) (lit1_slF rfl ts27 ti41 rfl rfl rfl rfl (by repeat' (first | exact Lo.s _ | exact zaj | refine zae ?_ ?_ | refine zak ?_ | refine Lo.cells ?_ | refine Lo.agg _ ?_ | refine Lo.ref _ ?_ | refine Lo.tup _ ?_ | refine Lo.fn _ _ ?_ | refine Lo.sl _ ?_ | intro _))) ?_ | refine zab rfl rfl (zaa rfl) (zdl rfl ts27 ti41 rfl rfl (by decide) (by decide) rfl rfl rfl (by repeat' (first | exact Lo.s _ | exact zaj | refine zae ?_ ?_ | refine zak ?_ | refine Lo.cells ?_ | refine Lo.agg _ ?_ | refine Lo.ref _ ?_ | refine Lo.tup _ ?_ | refine Lo.fn _ _ ?_ | refine Lo.sl _ ?_ | intro _))) ?_
      first | refine zab rfl rfl (zaa rfl) (zcx rfl ts27 ti41 rfl (by decide) rfl rfl (by first | rfl | (simp; done) | (simp; omega)) rfl (by first | exact .own _ _ _ rfl rfl _ (by first | rfl | simp) | exact .emp | exact .nil | exact .sl _ (by first | simp; done | intro e he; simp at he; obtain ⟨_, _, rfl⟩ := he; rfl)) (by first | omega | (simp; omega) | (unfold maxLen; simp; omega)) (by first | omega | (simp; omega) | (unfold maxLen; simp; omega))) ?_ | refine zab rfl rfl (zaa rfl) (zb1 rfl ts27 ti41 rfl (by decide) rfl (.inl rfl) rfl (by first | exact .own _ _ _ rfl rfl _ (by first | rfl | simp) | exact .emp | exact .nil | exact .sl _ (by first | simp; done | intro e he; simp at he; obtain ⟨_, _, rfl⟩ := he; rfl)) (by first | omega | (simp; omega) | (unfold maxLen; simp; omega)) (by first | omega | (simp; omega) | (unfold maxLen; simp; omega))) ?_ | refine zab rfl rfl (zaa rfl) (zb1 rfl ts27 ti41 rfl (by decide) rfl (.inr rfl) rfl (by first | exact .own _ _ _ rfl rfl _ (by first | rfl | simp) | exact .emp | exact .nil | exact .sl _ (by first | simp; done | intro e he; simp at he; obtain ⟨_, _, rfl⟩ := he; rfl)) (by first | omega | (simp; omega) | (unfold maxLen; simp; omega)) (by first | omega | (simp; omega) | (unfold maxLen; simp; omega))) ?_
      first | refine zab rfl rfl (zaa rfl) (za6 (.inr rfl) rfl) ?_ | refine zab rfl rfl (zaa rfl) (zbg (.inr rfl) rfl) ?_ | refine zab rfl rfl (zaa rfl) (mv_s (.inr rfl) rfl) ?_ | refine zab rfl rfl (zaa rfl) (za7 (.inr rfl) rfl) ?_
      refine zan ?_
      repeat (first | refine zag ?_ | refine zar ?_ | refine zad ?_ | refine zas ?_ | refine zac ?_)
      refine zaf ?_
      refine zab rfl rfl (zaa rfl) (zb2 rfl rfl rfl (IntWalk.i64_in _ (by omega))) ?_
      refine zab rfl rfl (zaa rfl) (mv_s (.inl rfl) rfl) ?_
      refine zan ?_
      repeat (first | refine zag ?_ | refine zar ?_ | refine zad ?_ | refine zas ?_ | refine zac ?_)
      exact ⟨k + 1, by omega, by omega, zck [1] (by decide) ⟨⟨_, rfl, .rowE (by repeat' (first | exact Lo.s _ | exact zaj | exact zbn | refine zae ?_ ?_ | refine zbe ?_ ?_ | refine zak ?_ | refine zbo ?_ | refine Lo.cells ?_ | refine Lo.agg _ ?_ | refine Lo.sl _ ?_ | intro _)) (Eq.trans (b := ((unitL n p).take k).map eF ++ [eF (Fr.of 0)]) rfl hrow.symm)⟩, trivial⟩ ⟨.lo _ hlc, .lo _ (by repeat' (first | exact Lo.s _ | exact zaj | refine zae ?_ ?_ | refine zak ?_ | refine Lo.cells ?_ | refine Lo.agg _ ?_ | refine Lo.ref _ ?_ | refine Lo.tup _ ?_ | refine Lo.fn _ _ ?_ | refine Lo.sl _ ?_ | intro _)), .lo _ (by repeat' (first | exact Lo.s _ | exact zaj | refine zae ?_ ?_ | refine zak ?_ | refine Lo.cells ?_ | refine Lo.agg _ ?_ | refine Lo.ref _ ?_ | refine Lo.tup _ ?_ | refine Lo.fn _ _ ?_ | refine Lo.sl _ ?_ | intro _)), .own 1 0 2 _ _ rfl (by simp; omega), trivial⟩⟩
  · (refine zcl ?_; repeat (first | refine ath_x ?_ | refine zci ?_ | refine zcb rfl ?_ | refine zas ?_ | refine zar ?_ | refine zag ?_ | refine zad ?_ | refine zac ?_))
    refine zaf ?_
    first | refine zab rfl rfl (zaa rfl) (za6 (.inl rfl) rfl) ?_ | refine zab rfl rfl (zaa rfl) (zbg (.inl rfl) rfl) ?_ | refine zab rfl rfl (zaa rfl) (mv_s (.inl rfl) rfl) ?_ | refine zab rfl rfl (zaa rfl) (za7 (.inl rfl) rfl) ?_
    first | refine zab rfl rfl (zaa rfl) (za6 (.inr rfl) rfl) ?_ | refine zab rfl rfl (zaa rfl) (zbg (.inr rfl) rfl) ?_ | refine zab rfl rfl (zaa rfl) (mv_s (.inr rfl) rfl) ?_ | refine zab rfl rfl (zaa rfl) (za7 (.inr rfl) rfl) ?_
    refine zan ?_
    repeat (first | refine zag ?_ | refine zar ?_ | refine zad ?_ | refine zas ?_ | refine zac ?_)
    (refine zbs ?_; repeat (first | refine zb8 ?_ | refine zb9 ?_))
    have e : (unitL n p).take k = unitL n p := List.take_of_length_le (by omega)
    refine post1f (.inr rfl) rfl ?_
    rw [e]
    exact .own _ _ _ _ _ rfl rfl (by simp; omega)
theorem prog2_pf (l : List Sft) (k i : Nat) (hi : i < l.length) : Pure P 70 [eI i, .ref [eL eSh l], .ref [eI k]] (eB (inB (gti l i).pd k)) := by
  have hc := containsI_pf (P := P) (gti l i).pd k
  refine zc4 (by rw [IsP.eq (P := P)]; exact Tryz.func70) rfl rfl rfl rfl rfl (by repeat' (first | exact Lo.s _ | exact zaj | refine zae ?_ ?_ | refine zak ?_ | refine Lo.cells ?_ | refine Lo.agg _ ?_ | refine Lo.ref _ ?_ | refine Lo.tup _ ?_ | refine Lo.fn _ _ ?_ | refine Lo.sl _ ?_ | intro _)) (by repeat' (first | exact Lo.s _ | exact zaj | refine zae ?_ ?_ | refine zak ?_ | refine Lo.cells ?_ | refine Lo.agg _ ?_ | refine Lo.ref _ ?_ | refine Lo.tup _ ?_ | refine Lo.fn _ _ ?_ | refine Lo.sl _ ?_ | intro _)) (by simp only [argF]; rfl) ?_
  repeat (first | refine zag ?_ | refine zar ?_ | refine zad ?_ | refine zas ?_ | refine zac ?_)
  refine zaf ?_
  refine zab rfl rfl (zaa rfl) (mv_s (.inr rfl) rfl) ?_
  refine zan ?_
  repeat (first | refine zag ?_ | refine zar ?_ | refine zad ?_ | refine zas ?_ | refine zac ?_)
  all_goals refine zch hmix ?_
  all_goals refine zda ?_
  all_goals (first | refine zao rfl rfl (zaa rfl) (fun _ => (zam rfl ta23 rfl)) ?_ | refine zbz rfl rfl (zaa rfl) (zc9 rfl ta23 rfl rfl rfl rfl rfl) ?_)
  all_goals refine zao rfl rfl (zaa rfl) (fun _ => (mv_s (.inl rfl) rfl)) ?_
  all_goals (first | refine zao rfl rfl (zaa rfl) (fun _ => (za1 rfl ts23 ti36 rfl rfl rfl (zb5 (by omega)) rfl)) ?_ | refine zao rfl rfl (zaa rfl) (fun _ => (zay rfl ts23 ti36 rfl rfl rfl (by omega))) ?_)
  all_goals (first | refine zao rfl rfl (zaa rfl) (fun _ => (zal rfl zc0 (by decide) rfl)) ?_ | refine zao rfl rfl (zaa rfl) (fun _ => (zai rfl zc0 (by decide) rfl)) ?_)
  all_goals (first | refine zao rfl rfl (zaa rfl) (fun _ => (zam rfl ta22 rfl)) ?_ | refine zbz rfl rfl (zaa rfl) (zc9 rfl ta22 rfl rfl rfl rfl rfl) ?_)
  all_goals (first | refine zao rfl rfl (zaa rfl) (fun _ => (zam rfl ta3 rfl)) ?_ | refine zbz rfl rfl (zaa rfl) (zc9 rfl ta3 rfl rfl rfl rfl rfl) ?_)
  all_goals refine zao rfl rfl (zaa rfl) (fun _ => (za5 rfl rfl (hc) (zau rfl (zau rfl zbj)))) ?_
  all_goals refine zao rfl rfl (zaa rfl) (fun _ => (mv_s (.inr rfl) rfl)) ?_
  all_goals refine ex_nil (by kernel_rfl) ?_
  all_goals (repeat (first | refine zag ?_ | refine zar ?_ | refine zad ?_ | refine zas ?_ | refine zac ?_))
  (refine zbs ?_; repeat (first | refine zb8 ?_ | refine zb9 ?_))
  exact zcm (.inr rfl) rfl rfl
theorem prog3_pf (k i : Nat) : Pure P 72 [eI i, .ref [eI k]] (eB (decide (i = k))) := by
  refine zc4 (by rw [IsP.eq (P := P)]; exact Tryz.func72) rfl rfl rfl rfl rfl (by repeat' (first | exact Lo.s _ | exact zaj | refine zae ?_ ?_ | refine zak ?_ | refine Lo.cells ?_ | refine Lo.agg _ ?_ | refine Lo.ref _ ?_ | refine Lo.tup _ ?_ | refine Lo.fn _ _ ?_ | refine Lo.sl _ ?_ | intro _)) (by repeat' (first | exact Lo.s _ | exact zaj | refine zae ?_ ?_ | refine zak ?_ | refine Lo.cells ?_ | refine Lo.agg _ ?_ | refine Lo.ref _ ?_ | refine Lo.tup _ ?_ | refine Lo.fn _ _ ?_ | refine Lo.sl _ ?_ | intro _)) (by simp only [argF]; rfl) ?_
  repeat (first | refine zag ?_ | refine zar ?_ | refine zad ?_ | refine zas ?_ | refine zac ?_)
  refine zaf ?_
  refine zab rfl rfl (zaa rfl) (mv_s (.inr rfl) rfl) ?_
  refine zan ?_
  repeat (first | refine zag ?_ | refine zar ?_ | refine zad ?_ | refine zas ?_ | refine zac ?_)
  refine zaf ?_
  refine zab rfl rfl (zaa rfl) (mv_s (.inl rfl) rfl) ?_
  first | refine zab rfl rfl (zaa rfl) (zam rfl ta3 rfl) ?_ | refine zab rfl rfl (zaa rfl) (zap rfl ta3 rfl rfl rfl rfl rfl) ?_
  refine zab rfl rfl (zaa rfl) (zcr rfl rfl rfl) ?_
  refine zab rfl rfl (zaa rfl) (mv_s (.inr rfl) rfl) ?_
  refine zan ?_
  repeat (first | refine zag ?_ | refine zar ?_ | refine zad ?_ | refine zas ?_ | refine zac ?_)
  (refine zbs ?_; repeat (first | refine zb8 ?_ | refine zb9 ?_))
  exact zcm (.inr rfl) rfl (congrArg eB (by by_cases h : i = k <;> simp [h]; omega))
theorem prog4_pf (k i : Nat) : Pure P 73 [eI i, .ref [eI k]] (eB (decide (i = k))) := by
  refine zc4 (by rw [IsP.eq (P := P)]; exact Tryz.func73) rfl rfl rfl rfl rfl (by repeat' (first | exact Lo.s _ | exact zaj | refine zae ?_ ?_ | refine zak ?_ | refine Lo.cells ?_ | refine Lo.agg _ ?_ | refine Lo.ref _ ?_ | refine Lo.tup _ ?_ | refine Lo.fn _ _ ?_ | refine Lo.sl _ ?_ | intro _)) (by repeat' (first | exact Lo.s _ | exact zaj | refine zae ?_ ?_ | refine zak ?_ | refine Lo.cells ?_ | refine Lo.agg _ ?_ | refine Lo.ref _ ?_ | refine Lo.tup _ ?_ | refine Lo.fn _ _ ?_ | refine Lo.sl _ ?_ | intro _)) (by simp only [argF]; rfl) ?_
  repeat (first | refine zag ?_ | refine zar ?_ | refine zad ?_ | refine zas ?_ | refine zac ?_)
  refine zaf ?_
  refine zab rfl rfl (zaa rfl) (mv_s (.inr rfl) rfl) ?_
  refine zan ?_
  repeat (first | refine zag ?_ | refine zar ?_ | refine zad ?_ | refine zas ?_ | refine zac ?_)
  refine zaf ?_
  refine zab rfl rfl (zaa rfl) (mv_s (.inl rfl) rfl) ?_
  first | refine zab rfl rfl (zaa rfl) (zam rfl ta3 rfl) ?_ | refine zab rfl rfl (zaa rfl) (zap rfl ta3 rfl rfl rfl rfl rfl) ?_
  refine zab rfl rfl (zaa rfl) (zcr rfl rfl rfl) ?_
  refine zab rfl rfl (zaa rfl) (mv_s (.inr rfl) rfl) ?_
  refine zan ?_
  repeat (first | refine zag ?_ | refine zar ?_ | refine zad ?_ | refine zas ?_ | refine zac ?_)
  (refine zbs ?_; repeat (first | refine zb8 ?_ | refine zb9 ?_))
  exact zcm (.inr rfl) rfl (congrArg eB (by by_cases h : i = k <;> simp [h]; omega))
/-! ## the closure that adds a row -/
theorem edraw_ex {N : Nat} {l : List Oper} {F : Frm} {σ : List Ob} {Q : Exit → Frm → List Ob → Prop} (h : EX P N l.toArray l [] l F σ (fun F' σ' => Q .normal F' σ')) : EDraw P N l F σ Q := by
  obtain ⟨F', σ', out, ks, sts, h1, h2, h3⟩ := h
  exact edraw_steps h1 (by simpa using h2) h3
/-- the program while it grows: the struct, and its four rows -/
def pgS (a b c d : Nat) (C : List Fr) (A : List (List Fr)) (R : List Int) (B : List Fr) : AV := .agg [.own a 2 (C.map eF).length, .own b 1 (A.map (eL eF)).length, .own c 1 (R.map eI).length, .own d 2 (B.map eF).length]
set_option maxHeartbeats 2000000 in
theorem prog1_call (n : Nat) (hn : n ≤ 12) (l : List Sft) (hl : l.length = n) (C : List Fr) (A : List (List Fr)) (R : List Int) (B : List Fr) (hA : A.length ≤ 60) (hR : R.length ≤ 60) (hB : B.length ≤ 60) (X Y : Ob) (f : FuncId) (caps : List AV) (p : Nat → Bool) (hlc : Lo 0 (.fn f caps)) (hf : ∀ i, i < n → Pure P f ([eI i] ++ caps) (eB (p i))) (rel v : Int) :
    CallE P 68 [.fn f caps, eI rel, eI v, .ptr 0 4 0 0, .ref [eL eSh l]] [.row 4 [pgS 1 2 3 4 C A R B], .row 2 (C.map eF), .row 1 (A.map (eL eF)), .row 1 (R.map eI), .row 2 (B.map eF), X, Y] (.tup [])
      [.row 4 [pgS 1 7 8 9 C (A ++ [unitL n p]) (R ++ [rel]) (B ++ [Fr.of v])], .row 2 (C.map eF), .dead, .dead, .dead, X, Y, .row 1 ((A ++ [unitL n p]).map (eL eF)), .row 1 ((R ++ [rel]).map eI), .row 2 ((B ++ [Fr.of v]).map eF)] := by
  subst hl
  have hu := unit_pf (P := P) l.length hn f caps p hlc hf
  generalize unitL l.length p = u at hu ⊢
  have e1 : (A ++ [u]).map (eL eF) = A.map (eL eF) ++ [eL eF u] := by simp
  have e2 : (R ++ [rel]).map eI = R.map eI ++ [eI rel] := by simp
  have e3 : (B ++ [Fr.of v]).map eF = B.map eF ++ [eF (Fr.of v)] := by simp
  have l1 : (A.map (eL eF) ++ [eL eF u]).length = (A.map (eL eF)).length + 1 := by simp
  have l2 : (R.map eI ++ [eI rel]).length = (R.map eI).length + 1 := by simp
  have l3 : (B.map eF ++ [eF (Fr.of v)]).length = (B.map eF).length + 1 := by simp
  unfold pgS
  rw [e1, e2, e3, l1, l2, l3]
  refine callE_fn (by rw [IsP.eq (P := P)]; exact Tryz.func68) rfl rfl (Nat.le_of_ble_eq_true rfl) ?_
  simp only [argF]
  refine ew_seq ?_
  all_goals refine ew_draw hmix ?_
  all_goals refine edraw_ex ?_
  all_goals (first | refine zao rfl rfl (zaa rfl) (fun _ => (zal rfl tf94_1 (by decide) rfl)) ?_ | refine zao rfl rfl (zaa rfl) (fun _ => (zai rfl tf94_1 (by decide) rfl)) ?_)
  all_goals (first | refine zao rfl rfl (zaa rfl) (fun _ => (zam rfl ta92 rfl)) ?_ | refine zbz rfl rfl (zaa rfl) (zc9 rfl ta92 rfl rfl rfl rfl rfl) ?_)
  all_goals (first | refine zao rfl rfl (zaa rfl) (fun _ => (zam rfl ta23 rfl)) ?_ | refine zbz rfl rfl (zaa rfl) (zc9 rfl ta23 rfl rfl rfl rfl rfl) ?_)
  all_goals (first | refine zao rfl rfl (zaa rfl) (fun _ => (za4 rfl ts23 rfl)) ?_ | refine zao rfl rfl (zaa rfl) (fun _ => (za8 rfl ts23 rfl)) ?_ | refine zao rfl rfl (zaa rfl) (fun _ => (za2 rfl ts23 rfl)) ?_ | refine zao rfl rfl (zaa rfl) (fun _ => (zbc rfl ts23 rfl)) ?_ | refine zao rfl rfl (zaa rfl) (fun _ => (za3 rfl ts23 rfl)) ?_)
  all_goals (first | refine zao rfl rfl (zaa rfl) (fun _ => (mv_fn (.inl rfl) rfl)) ?_ | refine zao rfl rfl (zaa rfl) (fun _ => (mv_s (.inl rfl) rfl)) ?_)
  all_goals refine zao rfl rfl (zaa rfl) (fun _ => (za5 rfl rfl (hu) (zau rfl (zau rfl zbj)))) ?_
  all_goals (first | refine zao rfl rfl (zaa rfl) (fun _ => (lit1_sF rfl ts92 ti27 rfl rfl rfl rfl)) ?_ | refine zao rfl rfl (zaa rfl) (fun _ => (lit1_slF rfl ts92 ti27 rfl rfl rfl rfl (by repeat' (first | exact Lo.s _ | exact zaj | refine zae ?_ ?_ | refine zak ?_ | refine Lo.cells ?_ | refine Lo.agg _ ?_ | refine Lo.ref _ ?_ | refine Lo.tup _ ?_ | refine Lo.fn _ _ ?_ | refine Lo.sl _ ?_ | intro _)))) ?_ | refine zao rfl rfl (zaa rfl) (fun _ => (zdl rfl ts92 ti27 rfl rfl (by decide) (by decide) rfl rfl rfl (by repeat' (first | exact Lo.s _ | exact zaj | refine zae ?_ ?_ | refine zak ?_ | refine Lo.cells ?_ | refine Lo.agg _ ?_ | refine Lo.ref _ ?_ | refine Lo.tup _ ?_ | refine Lo.fn _ _ ?_ | refine Lo.sl _ ?_ | intro _)))) ?_)
  all_goals (first | refine ex_eff rfl rfl (zaa rfl) (zcx rfl ts92 ti27 rfl (by decide) rfl rfl (by first | rfl | (simp; done) | (simp; omega)) rfl (by first | exact .own _ _ _ rfl rfl _ (by first | rfl | simp) | exact .emp | exact .nil | exact .sl _ (by first | simp; done | intro e he; simp at he; obtain ⟨_, _, rfl⟩ := he; rfl)) (by first | omega | (simp; omega) | (unfold maxLen; simp; omega)) (by first | omega | (simp; omega) | (unfold maxLen; simp; omega))) (fun _ h => app2_other h) ?_ | refine ex_eff rfl rfl (zaa rfl) (zb1 rfl ts92 ti27 rfl (by decide) rfl (.inl rfl) rfl (by first | exact .own _ _ _ rfl rfl _ (by first | rfl | simp) | exact .emp | exact .nil | exact .sl _ (by first | simp; done | intro e he; simp at he; obtain ⟨_, _, rfl⟩ := he; rfl)) (by first | omega | (simp; omega) | (unfold maxLen; simp; omega)) (by first | omega | (simp; omega) | (unfold maxLen; simp; omega))) (fun _ h => zc7 h) ?_ | refine ex_eff rfl rfl (zaa rfl) (zb1 rfl ts92 ti27 rfl (by decide) rfl (.inr rfl) rfl (by first | exact .own _ _ _ rfl rfl _ (by first | rfl | simp) | exact .emp | exact .nil | exact .sl _ (by first | simp; done | intro e he; simp at he; obtain ⟨_, _, rfl⟩ := he; rfl)) (by first | omega | (simp; omega) | (unfold maxLen; simp; omega)) (by first | omega | (simp; omega) | (unfold maxLen; simp; omega))) (fun _ h => zc7 h) ?_)
  all_goals (first | refine zao rfl rfl (zaa rfl) (fun _ => (zal rfl tf94_1 (by decide) rfl)) ?_ | refine zao rfl rfl (zaa rfl) (fun _ => (zai rfl tf94_1 (by decide) rfl)) ?_)
  all_goals refine ex_eff0 rfl (zaa rfl) (zbd rfl ti92 rfl rfl rfl rfl rfl rfl (by decide) (by decide)) (fun _ h => zcq h) ?_
  all_goals refine ex_nil (by kernel_rfl) ?_
  all_goals (repeat (first | refine ew_seq ?_ | refine zar ?_ | refine ew_skip ?_ | refine zas ?_ | refine ew_block ?_))
  refine ew_region ?_
  first | refine zdk rfl rfl (zaa rfl) (zal rfl tf94_2 (by decide) rfl) ?_ | refine zdk rfl rfl (zaa rfl) (zai rfl tf94_2 (by decide) rfl) ?_
  first | refine zdk rfl rfl (zaa rfl) (zam rfl ta22 rfl) ?_ | refine zdk rfl rfl (zaa rfl) (zap rfl ta22 rfl rfl rfl rfl rfl) ?_
  refine zdk rfl rfl (zaa rfl) (mv_s (.inl rfl) rfl) ?_
  first | refine zdk rfl rfl (zaa rfl) (lit1_sF rfl ts22 ti3 rfl rfl rfl rfl) ?_ | refine zdk rfl rfl (zaa rfl) (lit1_slF rfl ts22 ti3 rfl rfl rfl rfl (by repeat' (first | exact Lo.s _ | exact zaj | refine zae ?_ ?_ | refine zak ?_ | refine Lo.cells ?_ | refine Lo.agg _ ?_ | refine Lo.ref _ ?_ | refine Lo.tup _ ?_ | refine Lo.fn _ _ ?_ | refine Lo.sl _ ?_ | intro _))) ?_ | refine zdk rfl rfl (zaa rfl) (zdl rfl ts22 ti3 rfl rfl (by decide) (by decide) rfl rfl rfl (by repeat' (first | exact Lo.s _ | exact zaj | refine zae ?_ ?_ | refine zak ?_ | refine Lo.cells ?_ | refine Lo.agg _ ?_ | refine Lo.ref _ ?_ | refine Lo.tup _ ?_ | refine Lo.fn _ _ ?_ | refine Lo.sl _ ?_ | intro _))) ?_
  first | refine zdk rfl rfl (zaa rfl) (zcx rfl ts22 ti3 rfl (by decide) rfl rfl (by first | rfl | (simp; done) | (simp; omega)) rfl (by first | exact .own _ _ _ rfl rfl _ (by first | rfl | simp) | exact .emp | exact .nil | exact .sl _ (by first | simp; done | intro e he; simp at he; obtain ⟨_, _, rfl⟩ := he; rfl)) (by first | omega | (simp; omega) | (unfold maxLen; simp; omega)) (by first | omega | (simp; omega) | (unfold maxLen; simp; omega))) ?_ | refine zdk rfl rfl (zaa rfl) (zb1 rfl ts22 ti3 rfl (by decide) rfl (.inl rfl) rfl (by first | exact .own _ _ _ rfl rfl _ (by first | rfl | simp) | exact .emp | exact .nil | exact .sl _ (by first | simp; done | intro e he; simp at he; obtain ⟨_, _, rfl⟩ := he; rfl)) (by first | omega | (simp; omega) | (unfold maxLen; simp; omega)) (by first | omega | (simp; omega) | (unfold maxLen; simp; omega))) ?_ | refine zdk rfl rfl (zaa rfl) (zb1 rfl ts22 ti3 rfl (by decide) rfl (.inr rfl) rfl (by first | exact .own _ _ _ rfl rfl _ (by first | rfl | simp) | exact .emp | exact .nil | exact .sl _ (by first | simp; done | intro e he; simp at he; obtain ⟨_, _, rfl⟩ := he; rfl)) (by first | omega | (simp; omega) | (unfold maxLen; simp; omega)) (by first | omega | (simp; omega) | (unfold maxLen; simp; omega))) ?_
  first | refine zdk rfl rfl (zaa rfl) (zal rfl tf94_2 (by decide) rfl) ?_ | refine zdk rfl rfl (zaa rfl) (zai rfl tf94_2 (by decide) rfl) ?_
  refine eops_eff rfl (zaa rfl) (zbd rfl ti22 rfl rfl rfl rfl rfl rfl (by decide) (by decide)) ?_
  refine eops_nil ?_
  repeat (first | refine ew_seq ?_ | refine zar ?_ | refine ew_skip ?_ | refine zas ?_ | refine ew_block ?_)
  all_goals refine ew_draw hmix ?_
  all_goals refine edraw_ex ?_
  all_goals (first | refine zao rfl rfl (zaa rfl) (fun _ => (zal rfl tf94_3 (by decide) rfl)) ?_ | refine zao rfl rfl (zaa rfl) (fun _ => (zai rfl tf94_3 (by decide) rfl)) ?_)
  all_goals (first | refine zao rfl rfl (zaa rfl) (fun _ => (zam rfl ta27 rfl)) ?_ | refine zbz rfl rfl (zaa rfl) (zc9 rfl ta27 rfl rfl rfl rfl rfl) ?_)
  all_goals refine zao rfl rfl (zaa rfl) (fun _ => (mv_s (.inl rfl) rfl)) ?_
  all_goals refine zao rfl rfl (zaa rfl) (fun _ => (za5 rfl rfl ((whole_pf _)) (zau rfl zbj))) ?_
  all_goals (first | refine zao rfl rfl (zaa rfl) (fun _ => (lit1_sF rfl ts27 ti41 rfl rfl rfl rfl)) ?_ | refine zao rfl rfl (zaa rfl) (fun _ => (lit1_slF rfl ts27 ti41 rfl rfl rfl rfl (by repeat' (first | exact Lo.s _ | exact zaj | refine zae ?_ ?_ | refine zak ?_ | refine Lo.cells ?_ | refine Lo.agg _ ?_ | refine Lo.ref _ ?_ | refine Lo.tup _ ?_ | refine Lo.fn _ _ ?_ | refine Lo.sl _ ?_ | intro _)))) ?_ | refine zao rfl rfl (zaa rfl) (fun _ => (zdl rfl ts27 ti41 rfl rfl (by decide) (by decide) rfl rfl rfl (by repeat' (first | exact Lo.s _ | exact zaj | refine zae ?_ ?_ | refine zak ?_ | refine Lo.cells ?_ | refine Lo.agg _ ?_ | refine Lo.ref _ ?_ | refine Lo.tup _ ?_ | refine Lo.fn _ _ ?_ | refine Lo.sl _ ?_ | intro _)))) ?_)
  all_goals (first | refine ex_eff rfl rfl (zaa rfl) (zcx rfl ts27 ti41 rfl (by decide) rfl rfl (by first | rfl | (simp; done) | (simp; omega)) rfl (by first | exact .own _ _ _ rfl rfl _ (by first | rfl | simp) | exact .emp | exact .nil | exact .sl _ (by first | simp; done | intro e he; simp at he; obtain ⟨_, _, rfl⟩ := he; rfl)) (by first | omega | (simp; omega) | (unfold maxLen; simp; omega)) (by first | omega | (simp; omega) | (unfold maxLen; simp; omega))) (fun _ h => app2_other h) ?_ | refine ex_eff rfl rfl (zaa rfl) (zb1 rfl ts27 ti41 rfl (by decide) rfl (.inl rfl) rfl (by first | exact .own _ _ _ rfl rfl _ (by first | rfl | simp) | exact .emp | exact .nil | exact .sl _ (by first | simp; done | intro e he; simp at he; obtain ⟨_, _, rfl⟩ := he; rfl)) (by first | omega | (simp; omega) | (unfold maxLen; simp; omega)) (by first | omega | (simp; omega) | (unfold maxLen; simp; omega))) (fun _ h => zc7 h) ?_ | refine ex_eff rfl rfl (zaa rfl) (zb1 rfl ts27 ti41 rfl (by decide) rfl (.inr rfl) rfl (by first | exact .own _ _ _ rfl rfl _ (by first | rfl | simp) | exact .emp | exact .nil | exact .sl _ (by first | simp; done | intro e he; simp at he; obtain ⟨_, _, rfl⟩ := he; rfl)) (by first | omega | (simp; omega) | (unfold maxLen; simp; omega)) (by first | omega | (simp; omega) | (unfold maxLen; simp; omega))) (fun _ h => zc7 h) ?_)
  all_goals (first | refine zao rfl rfl (zaa rfl) (fun _ => (zal rfl tf94_3 (by decide) rfl)) ?_ | refine zao rfl rfl (zaa rfl) (fun _ => (zai rfl tf94_3 (by decide) rfl)) ?_)
  all_goals refine ex_eff0 rfl (zaa rfl) (zbd rfl ti27 rfl rfl rfl rfl rfl rfl (by decide) (by decide)) (fun _ h => zcq h) ?_
  all_goals refine ex_nil (by kernel_rfl) ?_
  all_goals (repeat (first | refine ew_seq ?_ | refine zar ?_ | refine ew_skip ?_ | refine zas ?_ | refine ew_block ?_))
  exact ⟨.inl rfl, rfl, _, .nil, rfl⟩
end Go.Proofs.YtmoipmnhgdmkpaaGreat.Aw
end
section
namespace Go.Proofs.YtmoipmnhgdmkpaaGreat.Aw
set_option linter.unusedSimpArgs false
set_option linter.unusedVariables false
set_option linter.unusedSectionVars false
open Go.RowKit Go.Proofs
variable {P : Program} [IsP P]

abbrev Tr := List Fr × Int × Int
def tA (T : List Tr) : List (List Fr) := T.map Prod.fst
def tR (T : List Tr) : List Int := T.map fun t => t.2.1
def tB (T : List Tr) : List Fr := T.map fun t => Fr.of t.2.2
theorem tA_snoc (T : List Tr) (u : List Fr) (r v : Int) : tA (T ++ [(u, r, v)]) = tA T ++ [u] := by simp [tA]
theorem tR_snoc (T : List Tr) (u : List Fr) (r v : Int) : tR (T ++ [(u, r, v)]) = tR T ++ [r] := by simp [tR]
theorem tB_snoc (T : List Tr) (u : List Fr) (r v : Int) : tB (T ++ [(u, r, v)]) = tB T ++ [Fr.of v] := by simp [tB]
def uD (l : List Sft) (k : Nat) : List Fr := unitL l.length fun i => inB (gti l i).pd k
def uK (l : List Sft) (k : Nat) : List Fr := unitL l.length fun i => decide (i = k)
def t1 (d : List Int) (l : List Sft) : Nat → List Tr
  | 0 => []
  | n + 1 => t1 d l n ++ if 0 < gti d n then [(uD l n, 2, gti d n)] else []
def pe1 (d : List Int) : Nat → List Int
  | 0 => []
  | n + 1 => pe1 d n ++ if 0 < gti d n then [(n : Int)] else []
def t2 (d : List Int) (l : List Sft) (lo hi : List Int) : Nat → List Tr
  | 0 => t1 d l d.length
  | n + 1 => (t2 d l lo hi n ++ [(uK l n, 1, gti hi n)]) ++ if 0 < gti lo n then [(uK l n, 2, gti lo n)] else []
theorem t1_len (d : List Int) (l : List Sft) : ∀ n, (t1 d l n).length ≤ n
  | 0 => by simp [t1]
  | n + 1 => by
    have := t1_len d l n
    unfold t1
    split <;> simp <;> omega
theorem t2_len (d : List Int) (l : List Sft) (lo hi : List Int) : ∀ n, (t2 d l lo hi n).length ≤ d.length + 2 * n
  | 0 => by have := t1_len d l d.length; simpa [t2] using this
  | n + 1 => by
    have := t2_len d l lo hi n
    unfold t2
    split <;> simp <;> omega
theorem pe1_len (d : List Int) : ∀ n, (pe1 d n).length ≤ n
  | 0 => by simp [pe1]
  | n + 1 => by
    have := pe1_len d n
    unfold pe1
    split <;> simp <;> omega
def costL (l : List Sft) : List Fr := l.map fun s => Fr.of s.cost
theorem costL_len (l : List Sft) : (costL l).length = l.length := by simp [costL]
theorem costL_gti {l : List Sft} {k : Nat} (h : k < l.length) : gti (costL l) k = Fr.of (gti l k).cost := by
  have h1 : (costL l)[k]? = some (Fr.of (gti l k).cost) := by
    unfold costL
    rw [List.getElem?_map, zdj h]; rfl
  unfold gti at *
  rw [h1]; rfl
def prgE (d : List Int) (l : List Sft) (lo hi : List Int) : LP := ⟨costL l, tA (t2 d l lo hi l.length), tR (t2 d l lo hi l.length), tB (t2 d l lo hi l.length)⟩
theorem post_cs {N : Nat} {F : Frm} {σ : List Ob} {ad u : Nat} {ty : TypeId} {id sz k n bt : Nat} {z : Option Value} {ob : Ob} {cs : List AV} {e1 r1 y r2 : AV} {e : Exit} (he : e = .normal ∨ e = .ret) (ha : tyAgg P ty = some true) (hi : zb3 P ty = some (z, n, bt)) (hp : F.get ad = .ptr id sz k 0) (hs : σ[id]? = some ob) (ho : rowOf ob = some (sz, cs)) (hk : cs[k]? = some e1) (hn : e1.cells.length = n) (hu : F.get u = y) (hr1 : Fini σ (.agg e1.cells) r1) (hr2 : Fini σ y r2) : APost P [.cell ad ty, .tmp u] (.tup [r1, r2]) e F σ :=
  ⟨he, [.agg e1.cells, y], .cons _ _ _ _ (.cells ad ty id sz k n bt z ob cs e1 ha hi hp hs ho hk hn) (.cons _ _ _ _ (.tmp u y hu) .nil), .tup _ _ rfl (zdm.cons hr1 (zdm.cons hr2 zdm.nil)).2⟩
def zP : AV := .agg [.s (.slice none 0 0), .s (.slice none 0 0), .s (.slice none 0 0), .s (.slice none 0 0)]
theorem zP_lo : ∀ e ∈ [zP], ∀ c ∈ e.cells, Lo 0 c := by
  intro e he c hc
  simp at he; subst he
  simp [zP, AV.cells] at hc; subst hc; exact .s _
/-- the store while a program is made -/
def stP (C : List Fr) (T : List Tr) (pe : List Int) : List Ob := [.row 4 [pgS 1 2 3 4 C (tA T) (tR T) (tB T)], .row 2 (C.map eF), .row 1 ((tA T).map (eL eF)), .row 1 ((tR T).map eI), .row 2 ((tB T).map eF), .row 4 [zP], .row 1 (pe.map eI)]
/-- the store after a row was added -/
def stQ (C : List Fr) (T : List Tr) (pe : List Int) : List Ob := [.row 4 [pgS 1 7 8 9 C (tA T) (tR T) (tB T)], .row 2 (C.map eF), .dead, .dead, .dead, .row 4 [zP], .row 1 (pe.map eI), .row 1 ((tA T).map (eL eF)), .row 1 ((tR T).map eI), .row 2 ((tB T).map eF)]
theorem prog1T (l : List Sft) (hl : l.length ≤ 12) (C : List Fr) (T : List Tr) (hT : T.length ≤ 60) (pe : List Int) (f : FuncId) (caps : List AV) (p : Nat → Bool) (hlc : Lo 0 (.fn f caps)) (hf : ∀ i, i < l.length → Pure P f ([eI i] ++ caps) (eB (p i))) (rel v : Int) :
    CallE P 68 [.fn f caps, eI rel, eI v, .ptr 0 4 0 0, .ref [eL eSh l]] (stP C T pe) (.tup []) (stQ C (T ++ [(unitL l.length p, rel, v)]) pe) := by
  have h := prog1_call (P := P) l.length hl l rfl C (tA T) (tR T) (tB T) (by simpa [tA] using hT) (by simpa [tR] using hT) (by simpa [tB] using hT) (.row 4 [zP]) (.row 1 (pe.map eI)) f caps p hlc hf rel v
  unfold stQ stP
  rw [tA_snoc, tR_snoc, tB_snoc]
  exact h
set_option maxHeartbeats 8000000 in
theorem program_pf (d : List Int) (l : List Sft) (lo hi : List Int) (hv : zde d l = true) (hlo : lo.length = l.length) (hhi : hi.length = l.length) : Pure P 55 [eL eI d, eL eSh l, eBx lo hi] (.tup [eP (prgE d l lo hi), eL eI (pe1 d d.length)]) := by
  obtain ⟨⟨q1, q2, q3⟩, qd, ql⟩ := zcz hv
  have hlL : Lo 0 (.ref [eL eSh l]) := (by repeat' (first | exact Lo.s _ | exact zaj | refine zae ?_ ?_ | refine zak ?_ | refine Lo.cells ?_ | refine Lo.agg _ ?_ | refine Lo.ref _ ?_ | refine Lo.tup _ ?_ | refine Lo.fn _ _ ?_ | refine Lo.sl _ ?_ | intro _))
  refine zc4 (by rw [IsP.eq (P := P)]; exact Tryz.func55) rfl rfl rfl rfl rfl (by repeat' (first | exact Lo.s _ | exact zaj | refine zae ?_ ?_ | refine zak ?_ | refine Lo.cells ?_ | refine Lo.agg _ ?_ | refine Lo.ref _ ?_ | refine Lo.tup _ ?_ | refine Lo.fn _ _ ?_ | refine Lo.sl _ ?_ | intro _)) (by repeat' (first | exact Lo.s _ | exact zaj | refine zae ?_ ?_ | refine zak ?_ | refine Lo.cells ?_ | refine Lo.agg _ ?_ | refine Lo.ref _ ?_ | refine Lo.tup _ ?_ | refine Lo.fn _ _ ?_ | refine Lo.sl _ ?_ | intro _)) (by simp only [argF]; rfl) ?_
  repeat (first | refine zag ?_ | refine zar ?_ | refine zad ?_ | refine zas ?_ | refine zac ?_)
  refine zaf ?_
  refine zab rfl rfl (zaa rfl) (zcv rfl rfl rfl rfl) ?_
  refine zbq (zcd (id := 0) rfl) (zbq (zcy (d := 4) rfl rfl rfl) ?_)
  refine zab rfl rfl (zaa rfl) (zcv rfl rfl rfl rfl) ?_
  refine zbq (zcd (id := 1) rfl) (zbq (zcy (d := 5) rfl rfl rfl) ?_)
  refine zab rfl rfl (zaa rfl) (zbr rfl ti94 rfl rfl) ?_
  first | refine zab rfl rfl (zaa rfl) (za6 (.inr rfl) rfl) ?_ | refine zab rfl rfl (zaa rfl) (zbg (.inr rfl) rfl) ?_ | refine zab rfl rfl (zaa rfl) (mv_s (.inr rfl) rfl) ?_ | refine zab rfl rfl (zaa rfl) (za7 (.inr rfl) rfl) ?_
  refine zan ?_
  repeat (first | refine zag ?_ | refine zar ?_ | refine zad ?_ | refine zas ?_ | refine zac ?_)
  refine zaf ?_
  refine zab rfl rfl (zaa rfl) (zbr rfl ti94 rfl rfl) ?_
  refine zan ?_
  repeat (first | refine zag ?_ | refine zar ?_ | refine zad ?_ | refine zas ?_ | refine zac ?_)
  refine zaf ?_
  first | refine zab rfl rfl (zaa rfl) (za6 (.inr rfl) rfl) ?_ | refine zab rfl rfl (zaa rfl) (zbg (.inr rfl) rfl) ?_ | refine zab rfl rfl (zaa rfl) (mv_s (.inr rfl) rfl) ?_ | refine zab rfl rfl (zaa rfl) (za7 (.inr rfl) rfl) ?_
  refine zan ?_
  repeat (first | refine zag ?_ | refine zar ?_ | refine zad ?_ | refine zas ?_ | refine zac ?_)
  refine zaf ?_
  first | refine zab rfl rfl (zaa rfl) (zam rfl ta23 rfl) ?_ | refine zab rfl rfl (zaa rfl) (zap rfl ta23 rfl rfl rfl rfl rfl) ?_
  first | refine zab rfl rfl (zaa rfl) (za4 rfl ts23 rfl) ?_ | refine zab rfl rfl (zaa rfl) (za8 rfl ts23 rfl) ?_ | refine zab rfl rfl (zaa rfl) (za2 rfl ts23 rfl) ?_ | refine zab rfl rfl (zaa rfl) (zbc rfl ts23 rfl) ?_ | refine zab rfl rfl (zaa rfl) (za3 rfl ts23 rfl) ?_
  refine zab rfl rfl (zaa rfl) (mv_s (.inl rfl) rfl) ?_
  refine zan ?_
  repeat (first | refine zag ?_ | refine zar ?_ | refine zad ?_ | refine zas ?_ | refine zac ?_)
  refine zca (wk_ownC (id := 3) (sz2 := 2) (e' := .agg [.own 4 2 0, .s (.slice none 0 0), .s (.slice none 0 0), .s (.slice none 0 0)]) (pre := []) (post := [.s (.slice none 0 0), .s (.slice none 0 0), .s (.slice none 0 0)]) rfl rfl rfl) ?_
  refine zca (wk_ownC (id := 3) (sz2 := 1) (e' := .agg [.own 4 2 0, .own 5 1 0, .s (.slice none 0 0), .s (.slice none 0 0)]) (pre := [.own 4 2 0]) (post := [.s (.slice none 0 0), .s (.slice none 0 0)]) rfl rfl rfl) ?_
  refine zca (wk_ownC (id := 3) (sz2 := 1) (e' := .agg [.own 4 2 0, .own 5 1 0, .own 6 1 0, .s (.slice none 0 0)]) (pre := [.own 4 2 0, .own 5 1 0]) (post := [.s (.slice none 0 0)]) rfl rfl rfl) ?_
  refine zca (wk_ownC (id := 3) (sz2 := 2) (e' := .agg [.own 4 2 0, .own 5 1 0, .own 6 1 0, .own 7 2 0]) (pre := [.own 4 2 0, .own 5 1 0, .own 6 1 0]) (post := []) rfl rfl rfl) ?_
  refine zca (wk_own (d := 9) 1 rfl (.inr rfl)) ?_
  refine zcc (S := Nat) (fun k => [(0, eL eI d), (4, .ref [eL eSh l]), (5, .ref (eBx lo hi).cells), (6, .ptr 5 4 0 0), (8, .ptr 0 4 0 0), (9, .own 6 1 0), (16, eL eSh l), (17, eI l.length), (18, eI k)]) (fun k => stP ((costL l).take k) [] []) (fun k => k ≤ l.length) (fun k => l.length - k) 0
    (zck [3, 4, 5, 6, 7, 2, 8] (by decide) ⟨⟨_, rfl, obRn_agg (.cons (.own _ _ _ _ _ rfl rfl) (.cons (.own _ _ _ _ _ rfl rfl) (.cons (.own _ _ _ _ _ rfl rfl) (.cons (.own _ _ _ _ _ rfl rfl) .nil))))⟩, ⟨_, rfl, .rowE (by repeat' (first | exact Lo.s _ | exact zaj | exact zbn | refine zae ?_ ?_ | refine zbe ?_ ?_ | refine zak ?_ | refine zbo ?_ | refine Lo.cells ?_ | refine Lo.agg _ ?_ | refine Lo.sl _ ?_ | intro _)) rfl⟩, ⟨_, rfl, .rowE (by repeat' (first | exact Lo.s _ | exact zaj | exact zbn | refine zae ?_ ?_ | refine zbe ?_ ?_ | refine zak ?_ | refine zbo ?_ | refine Lo.cells ?_ | refine Lo.agg _ ?_ | refine Lo.sl _ ?_ | intro _)) rfl⟩, ⟨_, rfl, .rowE (by repeat' (first | exact Lo.s _ | exact zaj | exact zbn | refine zae ?_ ?_ | refine zbe ?_ ?_ | refine zak ?_ | refine zbo ?_ | refine Lo.cells ?_ | refine Lo.agg _ ?_ | refine Lo.sl _ ?_ | intro _)) rfl⟩, ⟨_, rfl, .rowE (by repeat' (first | exact Lo.s _ | exact zaj | exact zbn | refine zae ?_ ?_ | refine zbe ?_ ?_ | refine zak ?_ | refine zbo ?_ | refine Lo.cells ?_ | refine Lo.agg _ ?_ | refine Lo.sl _ ?_ | intro _)) rfl⟩, ⟨_, rfl, .rowE zP_lo rfl⟩, ⟨_, rfl, .rowE (by repeat' (first | exact Lo.s _ | exact zaj | exact zbn | refine zae ?_ ?_ | refine zbe ?_ ?_ | refine zak ?_ | refine zbo ?_ | refine Lo.cells ?_ | refine Lo.agg _ ?_ | refine Lo.sl _ ?_ | intro _)) rfl⟩, trivial⟩ ⟨.lo _ (by repeat' (first | exact Lo.s _ | exact zaj | refine zae ?_ ?_ | refine zak ?_ | refine Lo.cells ?_ | refine Lo.agg _ ?_ | refine Lo.ref _ ?_ | refine Lo.tup _ ?_ | refine Lo.fn _ _ ?_ | refine Lo.sl _ ?_ | intro _)), .lo _ hlL, .lo _ (by repeat' (first | exact Lo.s _ | exact zaj | refine zae ?_ ?_ | refine zak ?_ | refine Lo.cells ?_ | refine Lo.agg _ ?_ | refine Lo.ref _ ?_ | refine Lo.tup _ ?_ | refine Lo.fn _ _ ?_ | refine Lo.sl _ ?_ | intro _)), .ptr 2 5 4 0 0 rfl, .ptr 3 0 4 0 0 rfl, .own 8 6 1 _ _ rfl rfl, .lo _ (by repeat' (first | exact Lo.s _ | exact zaj | refine zae ?_ ?_ | refine zak ?_ | refine Lo.cells ?_ | refine Lo.agg _ ?_ | refine Lo.ref _ ?_ | refine Lo.tup _ ?_ | refine Lo.fn _ _ ?_ | refine Lo.sl _ ?_ | intro _)), .lo _ (by repeat' (first | exact Lo.s _ | exact zaj | refine zae ?_ ?_ | refine zak ?_ | refine Lo.cells ?_ | refine Lo.agg _ ?_ | refine Lo.ref _ ?_ | refine Lo.tup _ ?_ | refine Lo.fn _ _ ?_ | refine Lo.sl _ ?_ | intro _)), .lo _ (by repeat' (first | exact Lo.s _ | exact zaj | refine zae ?_ ?_ | refine zak ?_ | refine Lo.cells ?_ | refine Lo.agg _ ?_ | refine Lo.ref _ ?_ | refine Lo.tup _ ?_ | refine Lo.fn _ _ ?_ | refine Lo.sl _ ?_ | intro _)), trivial⟩) (Nat.zero_le _) (fun k hk => ?_)
  have hcl := costL_len l
  repeat (first | refine zag ?_ | refine zar ?_ | refine zad ?_ | refine zas ?_ | refine zac ?_)
  all_goals refine zaf ?_
  all_goals (first | refine zbh rfl rfl (zaa rfl) (zbb rfl rfl rfl) (fun h19 => ?_) (fun h19 => ?_) | refine zbi rfl rfl (zaa rfl) (zbb rfl rfl rfl) (fun h19 => ?_) (fun h19 => ?_))
  all_goals refine zan ?_
  all_goals (repeat (first | refine zag ?_ | refine zar ?_ | refine zad ?_ | refine zas ?_ | refine zac ?_))
  all_goals (first | refine zbp rfl ?_ | refine zbm rfl ?_)
  all_goals (repeat (first | refine zag ?_ | refine zar ?_ | refine zad ?_ | refine zas ?_ | refine zac ?_))
  · have hlt : k < l.length := by omega
    have htk : (((costL l).take k).map eF).length = k := by simp; omega
    have hrow : ((costL l).take (k + 1)).map eF = ((costL l).take k).map eF ++ [eF (Fr.of (gti l k).cost)] := by
      rw [take_snoc (by omega), List.map_append, costL_gti hlt]; rfl
    have hrl : (((costL l).take (k + 1)).map eF).length = (((costL l).take k).map eF).length + 1 := by rw [hrow]; simp
    refine zaf ?_
    first | refine zab rfl rfl (zaa rfl) (za1 rfl ts23 ti36 rfl rfl rfl (zb5 (by omega)) rfl) ?_ | refine zab rfl rfl (zaa rfl) (zay rfl ts23 ti36 rfl rfl rfl (by omega)) ?_
    first | refine zab rfl rfl (zaa rfl) (za0 rfl ta36 ti36 rfl rfl) ?_ | refine zab rfl rfl (zaa rfl) (za9 rfl ta36 ti36 rfl rfl rfl rfl rfl) ?_ | refine zab rfl rfl (zaa rfl) (zaz rfl ta36 ti36 rfl (Nat.le_of_ble_eq_true rfl)) ?_ | refine zab rfl rfl (zaa rfl) (zba rfl ta36 ti36 rfl rfl rfl rfl (Nat.le_of_ble_eq_true rfl)) ?_
    refine zab rfl rfl (zaa rfl) (zbr rfl ti36 rfl rfl) ?_
    refine zb0 rfl (zaa rfl) (zbd rfl ti36 rfl rfl rfl rfl rfl rfl (by decide) (by decide)) ?_
    refine zan ?_
    repeat (first | refine zag ?_ | refine zar ?_ | refine zad ?_ | refine zas ?_ | refine zac ?_)
    refine zca (zcd (id := 7) rfl) ?_
    refine zca (zcy (d := 11) rfl rfl rfl) ?_
    all_goals refine zch hmix ?_
    all_goals refine zda ?_
    all_goals (first | refine zao rfl rfl (zaa rfl) (fun _ => (zal rfl tf94_0 (by decide) rfl)) ?_ | refine zao rfl rfl (zaa rfl) (fun _ => (zai rfl tf94_0 (by decide) rfl)) ?_)
    all_goals (first | refine zao rfl rfl (zaa rfl) (fun _ => (zam rfl ta27 rfl)) ?_ | refine zbz rfl rfl (zaa rfl) (zc9 rfl ta27 rfl rfl rfl rfl rfl) ?_)
    all_goals (first | refine zao rfl rfl (zaa rfl) (fun _ => (zal rfl tf36_1 (by decide) rfl)) ?_ | refine zao rfl rfl (zaa rfl) (fun _ => (zai rfl tf36_1 (by decide) rfl)) ?_)
    all_goals (first | refine zao rfl rfl (zaa rfl) (fun _ => (zam rfl ta3 rfl)) ?_ | refine zbz rfl rfl (zaa rfl) (zc9 rfl ta3 rfl rfl rfl rfl rfl) ?_)
    all_goals refine zao rfl rfl (zaa rfl) (fun _ => (za5 rfl rfl ((whole_pf _)) (zau rfl zbj))) ?_
    all_goals (first | refine zao rfl rfl (zaa rfl) (fun _ => (lit1_sF rfl ts27 ti41 rfl rfl rfl rfl)) ?_ | refine zao rfl rfl (zaa rfl) (fun _ => (lit1_slF rfl ts27 ti41 rfl rfl rfl rfl (by repeat' (first | exact Lo.s _ | exact zaj | refine zae ?_ ?_ | refine zak ?_ | refine Lo.cells ?_ | refine Lo.agg _ ?_ | refine Lo.ref _ ?_ | refine Lo.tup _ ?_ | refine Lo.fn _ _ ?_ | refine Lo.sl _ ?_ | intro _)))) ?_ | refine zao rfl rfl (zaa rfl) (fun _ => (zdl rfl ts27 ti41 rfl rfl (by decide) (by decide) rfl rfl rfl (by repeat' (first | exact Lo.s _ | exact zaj | refine zae ?_ ?_ | refine zak ?_ | refine Lo.cells ?_ | refine Lo.agg _ ?_ | refine Lo.ref _ ?_ | refine Lo.tup _ ?_ | refine Lo.fn _ _ ?_ | refine Lo.sl _ ?_ | intro _)))) ?_)
    all_goals (first | refine ex_eff rfl rfl (zaa rfl) (zcx rfl ts27 ti41 rfl (by decide) rfl rfl (by first | rfl | (simp; done) | (simp; omega)) rfl (by first | exact .own _ _ _ rfl rfl _ (by first | rfl | simp) | exact .emp | exact .nil | exact .sl _ (by first | simp; done | intro e he; simp at he; obtain ⟨_, _, rfl⟩ := he; rfl)) (by first | omega | (simp; omega) | (unfold maxLen; simp; omega)) (by first | omega | (simp; omega) | (unfold maxLen; simp; omega))) (fun _ h => app2_other h) ?_ | refine ex_eff rfl rfl (zaa rfl) (zb1 rfl ts27 ti41 rfl (by decide) rfl (.inl rfl) rfl (by first | exact .own _ _ _ rfl rfl _ (by first | rfl | simp) | exact .emp | exact .nil | exact .sl _ (by first | simp; done | intro e he; simp at he; obtain ⟨_, _, rfl⟩ := he; rfl)) (by first | omega | (simp; omega) | (unfold maxLen; simp; omega)) (by first | omega | (simp; omega) | (unfold maxLen; simp; omega))) (fun _ h => zc7 h) ?_ | refine ex_eff rfl rfl (zaa rfl) (zb1 rfl ts27 ti41 rfl (by decide) rfl (.inr rfl) rfl (by first | exact .own _ _ _ rfl rfl _ (by first | rfl | simp) | exact .emp | exact .nil | exact .sl _ (by first | simp; done | intro e he; simp at he; obtain ⟨_, _, rfl⟩ := he; rfl)) (by first | omega | (simp; omega) | (unfold maxLen; simp; omega)) (by first | omega | (simp; omega) | (unfold maxLen; simp; omega))) (fun _ h => zc7 h) ?_)
    all_goals (first | refine zao rfl rfl (zaa rfl) (fun _ => (zal rfl tf94_0 (by decide) rfl)) ?_ | refine zao rfl rfl (zaa rfl) (fun _ => (zai rfl tf94_0 (by decide) rfl)) ?_)
    all_goals refine ex_eff0 rfl (zaa rfl) (zbd rfl ti27 rfl rfl rfl rfl rfl rfl (by decide) (by decide)) (fun _ h => zcq h) ?_
    all_goals refine ex_nil (by kernel_rfl) ?_
    all_goals (repeat (first | refine zag ?_ | refine zar ?_ | refine zad ?_ | refine zas ?_ | refine zac ?_))
    refine zaf ?_
    refine zab rfl rfl (zaa rfl) (zb2 rfl rfl rfl (IntWalk.i64_in _ (by omega))) ?_
    refine zab rfl rfl (zaa rfl) (mv_s (.inl rfl) rfl) ?_
    refine zan ?_
    repeat (first | refine zag ?_ | refine zar ?_ | refine zad ?_ | refine zas ?_ | refine zac ?_)
    exact ⟨k + 1, by omega, by omega, zck [0, 8, 2, 3, 4, 5, 6] (by decide) ⟨⟨_, rfl, obRn_agg (.cons (.own _ _ _ _ _ rfl hrl.symm) (.cons (.own _ _ _ _ _ rfl rfl) (.cons (.own _ _ _ _ _ rfl rfl) (.cons (.own _ _ _ _ _ rfl rfl) .nil))))⟩, ⟨_, rfl, .rowE (by repeat' (first | exact Lo.s _ | exact zaj | exact zbn | refine zae ?_ ?_ | refine zbe ?_ ?_ | refine zak ?_ | refine zbo ?_ | refine Lo.cells ?_ | refine Lo.agg _ ?_ | refine Lo.sl _ ?_ | intro _)) (Eq.trans (b := ((costL l).take k).map eF ++ [eF (Fr.of (gti l k).cost)]) rfl hrow.symm)⟩, ⟨_, rfl, .rowE (by repeat' (first | exact Lo.s _ | exact zaj | exact zbn | refine zae ?_ ?_ | refine zbe ?_ ?_ | refine zak ?_ | refine zbo ?_ | refine Lo.cells ?_ | refine Lo.agg _ ?_ | refine Lo.sl _ ?_ | intro _)) rfl⟩, ⟨_, rfl, .rowE (by repeat' (first | exact Lo.s _ | exact zaj | exact zbn | refine zae ?_ ?_ | refine zbe ?_ ?_ | refine zak ?_ | refine zbo ?_ | refine Lo.cells ?_ | refine Lo.agg _ ?_ | refine Lo.sl _ ?_ | intro _)) rfl⟩, ⟨_, rfl, .rowE (by repeat' (first | exact Lo.s _ | exact zaj | exact zbn | refine zae ?_ ?_ | refine zbe ?_ ?_ | refine zak ?_ | refine zbo ?_ | refine Lo.cells ?_ | refine Lo.agg _ ?_ | refine Lo.sl _ ?_ | intro _)) rfl⟩, ⟨_, rfl, .rowE zP_lo rfl⟩, ⟨_, rfl, .rowE (by repeat' (first | exact Lo.s _ | exact zaj | exact zbn | refine zae ?_ ?_ | refine zbe ?_ ?_ | refine zak ?_ | refine zbo ?_ | refine Lo.cells ?_ | refine Lo.agg _ ?_ | refine Lo.sl _ ?_ | intro _)) rfl⟩, trivial⟩ ⟨.lo _ (by repeat' (first | exact Lo.s _ | exact zaj | refine zae ?_ ?_ | refine zak ?_ | refine Lo.cells ?_ | refine Lo.agg _ ?_ | refine Lo.ref _ ?_ | refine Lo.tup _ ?_ | refine Lo.fn _ _ ?_ | refine Lo.sl _ ?_ | intro _)), .lo _ hlL, .lo _ (by repeat' (first | exact Lo.s _ | exact zaj | refine zae ?_ ?_ | refine zak ?_ | refine Lo.cells ?_ | refine Lo.agg _ ?_ | refine Lo.ref _ ?_ | refine Lo.tup _ ?_ | refine Lo.fn _ _ ?_ | refine Lo.sl _ ?_ | intro _)), .ptr 5 5 4 0 0 rfl, .ptr 0 0 4 0 0 rfl, .own 6 6 1 _ _ rfl rfl, .lo _ (by repeat' (first | exact Lo.s _ | exact zaj | refine zae ?_ ?_ | refine zak ?_ | refine Lo.cells ?_ | refine Lo.agg _ ?_ | refine Lo.ref _ ?_ | refine Lo.tup _ ?_ | refine Lo.fn _ _ ?_ | refine Lo.sl _ ?_ | intro _)), .lo _ (by repeat' (first | exact Lo.s _ | exact zaj | refine zae ?_ ?_ | refine zak ?_ | refine Lo.cells ?_ | refine Lo.agg _ ?_ | refine Lo.ref _ ?_ | refine Lo.tup _ ?_ | refine Lo.fn _ _ ?_ | refine Lo.sl _ ?_ | intro _)), .lo _ (by repeat' (first | exact Lo.s _ | exact zaj | refine zae ?_ ?_ | refine zak ?_ | refine Lo.cells ?_ | refine Lo.agg _ ?_ | refine Lo.ref _ ?_ | refine Lo.tup _ ?_ | refine Lo.fn _ _ ?_ | refine Lo.sl _ ?_ | intro _)), trivial⟩⟩
  (refine zcl ?_; repeat (first | refine ath_x ?_ | refine zci ?_ | refine zcb rfl ?_ | refine zas ?_ | refine zar ?_ | refine zag ?_ | refine zad ?_ | refine zac ?_))
  have e : (costL l).take k = costL l := List.take_of_length_le (by omega)
  rw [e]
  refine zaf ?_
  refine zab rfl rfl (zaa rfl) (does_func rfl rfl) ?_
  first | refine zab rfl rfl (zaa rfl) (mv_fn (.inr rfl) rfl) ?_ | refine zab rfl rfl (zaa rfl) (mv_s (.inr rfl) rfl) ?_
  refine zan ?_
  repeat (first | refine zag ?_ | refine zar ?_ | refine zad ?_ | refine zas ?_ | refine zac ?_)
  refine zaf ?_
  first | refine zab rfl rfl (zaa rfl) (za6 (.inl rfl) rfl) ?_ | refine zab rfl rfl (zaa rfl) (zbg (.inl rfl) rfl) ?_ | refine zab rfl rfl (zaa rfl) (mv_s (.inl rfl) rfl) ?_ | refine zab rfl rfl (zaa rfl) (za7 (.inl rfl) rfl) ?_
  first | refine zab rfl rfl (zaa rfl) (za4 rfl ts22 rfl) ?_ | refine zab rfl rfl (zaa rfl) (za8 rfl ts22 rfl) ?_ | refine zab rfl rfl (zaa rfl) (za2 rfl ts22 rfl) ?_ | refine zab rfl rfl (zaa rfl) (zbc rfl ts22 rfl) ?_ | refine zab rfl rfl (zaa rfl) (za3 rfl ts22 rfl) ?_
  refine zab rfl rfl (zaa rfl) (mv_s (.inl rfl) rfl) ?_
  refine zan ?_
  repeat (first | refine zag ?_ | refine zar ?_ | refine zad ?_ | refine zas ?_ | refine zac ?_)
  refine zcc (S := Nat) (fun n => [(4, .ref [eL eSh l]), (5, .ref (eBx lo hi).cells), (6, .ptr 5 4 0 0), (8, .ptr 0 4 0 0), (9, .own 6 1 (pe1 d n).length), (12, .fn 68 [.ptr 0 4 0 0, .ref [eL eSh l]]), (32, eL eI d), (33, eI d.length), (34, eI n)]) (fun n => stP (costL l) (t1 d l n) (pe1 d n)) (fun n => n ≤ d.length) (fun n => d.length - n) 0
    (zck [0, 1, 2, 3, 4, 5, 6] (by decide) ⟨⟨_, rfl, obRn_agg (.cons (.own _ _ _ _ _ rfl rfl) (.cons (.own _ _ _ _ _ rfl rfl) (.cons (.own _ _ _ _ _ rfl rfl) (.cons (.own _ _ _ _ _ rfl rfl) .nil))))⟩, ⟨_, rfl, .rowE (by repeat' (first | exact Lo.s _ | exact zaj | exact zbn | refine zae ?_ ?_ | refine zbe ?_ ?_ | refine zak ?_ | refine zbo ?_ | refine Lo.cells ?_ | refine Lo.agg _ ?_ | refine Lo.sl _ ?_ | intro _)) rfl⟩, ⟨_, rfl, .rowE (by repeat' (first | exact Lo.s _ | exact zaj | exact zbn | refine zae ?_ ?_ | refine zbe ?_ ?_ | refine zak ?_ | refine zbo ?_ | refine Lo.cells ?_ | refine Lo.agg _ ?_ | refine Lo.sl _ ?_ | intro _)) rfl⟩, ⟨_, rfl, .rowE (by repeat' (first | exact Lo.s _ | exact zaj | exact zbn | refine zae ?_ ?_ | refine zbe ?_ ?_ | refine zak ?_ | refine zbo ?_ | refine Lo.cells ?_ | refine Lo.agg _ ?_ | refine Lo.sl _ ?_ | intro _)) rfl⟩, ⟨_, rfl, .rowE (by repeat' (first | exact Lo.s _ | exact zaj | exact zbn | refine zae ?_ ?_ | refine zbe ?_ ?_ | refine zak ?_ | refine zbo ?_ | refine Lo.cells ?_ | refine Lo.agg _ ?_ | refine Lo.sl _ ?_ | intro _)) rfl⟩, ⟨_, rfl, .rowE zP_lo rfl⟩, ⟨_, rfl, .rowE (by repeat' (first | exact Lo.s _ | exact zaj | exact zbn | refine zae ?_ ?_ | refine zbe ?_ ?_ | refine zak ?_ | refine zbo ?_ | refine Lo.cells ?_ | refine Lo.agg _ ?_ | refine Lo.sl _ ?_ | intro _)) rfl⟩, trivial⟩ ⟨.lo _ hlL, .lo _ (by repeat' (first | exact Lo.s _ | exact zaj | refine zae ?_ ?_ | refine zak ?_ | refine Lo.cells ?_ | refine Lo.agg _ ?_ | refine Lo.ref _ ?_ | refine Lo.tup _ ?_ | refine Lo.fn _ _ ?_ | refine Lo.sl _ ?_ | intro _)), .ptr 5 5 4 0 0 rfl, .ptr 0 0 4 0 0 rfl, .own 6 6 1 _ _ rfl rfl, .fn _ _ _ rfl (RnL.cons (.ptr 0 0 4 0 0 rfl) (RnL.cons (.lo _ hlL) RnL.nil)).2, .lo _ (by repeat' (first | exact Lo.s _ | exact zaj | refine zae ?_ ?_ | refine zak ?_ | refine Lo.cells ?_ | refine Lo.agg _ ?_ | refine Lo.ref _ ?_ | refine Lo.tup _ ?_ | refine Lo.fn _ _ ?_ | refine Lo.sl _ ?_ | intro _)), .lo _ (by repeat' (first | exact Lo.s _ | exact zaj | refine zae ?_ ?_ | refine zak ?_ | refine Lo.cells ?_ | refine Lo.agg _ ?_ | refine Lo.ref _ ?_ | refine Lo.tup _ ?_ | refine Lo.fn _ _ ?_ | refine Lo.sl _ ?_ | intro _)), .lo _ (by repeat' (first | exact Lo.s _ | exact zaj | refine zae ?_ ?_ | refine zak ?_ | refine Lo.cells ?_ | refine Lo.agg _ ?_ | refine Lo.ref _ ?_ | refine Lo.tup _ ?_ | refine Lo.fn _ _ ?_ | refine Lo.sl _ ?_ | intro _)), trivial⟩) (Nat.zero_le _) (fun n hn => ?_)
  have hpl := pe1_len d n
  have htl := t1_len d l n
  repeat (first | refine zag ?_ | refine zar ?_ | refine zad ?_ | refine zas ?_ | refine zac ?_)
  all_goals refine zaf ?_
  all_goals (first | refine zbh rfl rfl (zaa rfl) (zbb rfl rfl rfl) (fun h35 => ?_) (fun h35 => ?_) | refine zbi rfl rfl (zaa rfl) (zbb rfl rfl rfl) (fun h35 => ?_) (fun h35 => ?_))
  all_goals refine zan ?_
  all_goals (repeat (first | refine zag ?_ | refine zar ?_ | refine zad ?_ | refine zas ?_ | refine zac ?_))
  all_goals (first | refine zbp rfl ?_ | refine zbm rfl ?_)
  all_goals (repeat (first | refine zag ?_ | refine zar ?_ | refine zad ?_ | refine zas ?_ | refine zac ?_))
  · have hlt : n < d.length := by omega
    have hT : t1 d l (n + 1) = t1 d l n ++ if 0 < gti d n then [(uD l n, 2, gti d n)] else [] := rfl
    have hp : pe1 d (n + 1) = pe1 d n ++ if 0 < gti d n then [(n : Int)] else [] := rfl
    refine zaf ?_
    refine zab rfl rfl (zaa rfl) (mv_s (.inl rfl) rfl) ?_
    first | refine zab rfl rfl (zaa rfl) (za1 rfl ts22 ti3 rfl rfl rfl (zb5 (by omega)) rfl) ?_ | refine zab rfl rfl (zaa rfl) (zay rfl ts22 ti3 rfl rfl rfl (by omega)) ?_
    first | refine zab rfl rfl (zaa rfl) (zam rfl ta3 rfl) ?_ | refine zab rfl rfl (zaa rfl) (zap rfl ta3 rfl rfl rfl rfl rfl) ?_
    refine zab rfl rfl (zaa rfl) (zbr rfl ti3 rfl rfl) ?_
    refine zb0 rfl (zaa rfl) (zbd rfl ti3 rfl rfl rfl rfl rfl rfl (by decide) (by decide)) ?_
    refine zab rfl rfl (zaa rfl) (mv_s (.inr rfl) rfl) ?_
    refine zan ?_
    repeat (first | refine zag ?_ | refine zar ?_ | refine zad ?_ | refine zas ?_ | refine zac ?_)
    all_goals refine zaf ?_
    all_goals refine zab rfl rfl (zaa rfl) (mv_s (.inl rfl) rfl) ?_
    all_goals (first | refine zbh rfl rfl (zaa rfl) (zbw rfl rfl rfl) (fun h40 => ?_) (fun h40 => ?_) | refine zbi rfl rfl (zaa rfl) (zbw rfl rfl rfl) (fun h40 => ?_) (fun h40 => ?_))
    all_goals refine zan ?_
    all_goals (repeat (first | refine zag ?_ | refine zar ?_ | refine zad ?_ | refine zas ?_ | refine zac ?_))
    all_goals (first | refine zbp rfl ?_ | refine zbm rfl ?_)
    all_goals (repeat (first | refine zag ?_ | refine zar ?_ | refine zad ?_ | refine zas ?_ | refine zac ?_))
    · rw [if_pos h40] at hT hp
      have hpr : (pe1 d (n + 1)).map eI = (pe1 d n).map eI ++ [eI n] := by rw [hp]; simp
      have hpn : (pe1 d (n + 1)).length = (pe1 d n).length + 1 := by rw [hp]; simp
      have hml : ((pe1 d n).map eI).length = (pe1 d n).length := by simp
      refine zaf ?_
      first | refine zab rfl rfl (zaa rfl) (za6 (.inl rfl) rfl) ?_ | refine zab rfl rfl (zaa rfl) (zbg (.inl rfl) rfl) ?_ | refine zab rfl rfl (zaa rfl) (mv_s (.inl rfl) rfl) ?_ | refine zab rfl rfl (zaa rfl) (za7 (.inl rfl) rfl) ?_
      first | refine zab rfl rfl (zaa rfl) (zam rfl ta3 rfl) ?_ | refine zab rfl rfl (zaa rfl) (zap rfl ta3 rfl rfl rfl rfl rfl) ?_
      first | refine zab rfl rfl (zaa rfl) (lit1_sF rfl ts22 ti3 rfl rfl rfl rfl) ?_ | refine zab rfl rfl (zaa rfl) (lit1_slF rfl ts22 ti3 rfl rfl rfl rfl (by repeat' (first | exact Lo.s _ | exact zaj | refine zae ?_ ?_ | refine zak ?_ | refine Lo.cells ?_ | refine Lo.agg _ ?_ | refine Lo.ref _ ?_ | refine Lo.tup _ ?_ | refine Lo.fn _ _ ?_ | refine Lo.sl _ ?_ | intro _))) ?_ | refine zab rfl rfl (zaa rfl) (zdl rfl ts22 ti3 rfl rfl (by decide) (by decide) rfl rfl rfl (by repeat' (first | exact Lo.s _ | exact zaj | refine zae ?_ ?_ | refine zak ?_ | refine Lo.cells ?_ | refine Lo.agg _ ?_ | refine Lo.ref _ ?_ | refine Lo.tup _ ?_ | refine Lo.fn _ _ ?_ | refine Lo.sl _ ?_ | intro _))) ?_
      first | refine zab rfl rfl (zaa rfl) (zcx rfl ts22 ti3 rfl (by decide) rfl rfl (by first | rfl | (simp; done) | (simp; omega)) rfl (by first | exact .own _ _ _ rfl rfl _ (by first | rfl | simp) | exact .emp | exact .nil | exact .sl _ (by first | simp; done | intro e he; simp at he; obtain ⟨_, _, rfl⟩ := he; rfl)) (by first | omega | (simp; omega) | (unfold maxLen; simp; omega)) (by first | omega | (simp; omega) | (unfold maxLen; simp; omega))) ?_ | refine zab rfl rfl (zaa rfl) (zb1 rfl ts22 ti3 rfl (by decide) rfl (.inl rfl) rfl (by first | exact .own _ _ _ rfl rfl _ (by first | rfl | simp) | exact .emp | exact .nil | exact .sl _ (by first | simp; done | intro e he; simp at he; obtain ⟨_, _, rfl⟩ := he; rfl)) (by first | omega | (simp; omega) | (unfold maxLen; simp; omega)) (by first | omega | (simp; omega) | (unfold maxLen; simp; omega))) ?_ | refine zab rfl rfl (zaa rfl) (zb1 rfl ts22 ti3 rfl (by decide) rfl (.inr rfl) rfl (by first | exact .own _ _ _ rfl rfl _ (by first | rfl | simp) | exact .emp | exact .nil | exact .sl _ (by first | simp; done | intro e he; simp at he; obtain ⟨_, _, rfl⟩ := he; rfl)) (by first | omega | (simp; omega) | (unfold maxLen; simp; omega)) (by first | omega | (simp; omega) | (unfold maxLen; simp; omega))) ?_
      first | refine zab rfl rfl (zaa rfl) (za6 (.inr rfl) rfl) ?_ | refine zab rfl rfl (zaa rfl) (zbg (.inr rfl) rfl) ?_ | refine zab rfl rfl (zaa rfl) (mv_s (.inr rfl) rfl) ?_ | refine zab rfl rfl (zaa rfl) (za7 (.inr rfl) rfl) ?_
      refine zan ?_
      repeat (first | refine zag ?_ | refine zar ?_ | refine zad ?_ | refine zas ?_ | refine zac ?_)
      refine zca (zcd (id := 7) rfl) ?_
      refine zca (zcy (d := 13) rfl rfl rfl) ?_
      refine zca (F' := [(4, .ref [eL eSh l]), (5, .ref (eBx lo hi).cells), (6, .ptr 5 4 0 0), (8, .ptr 0 4 0 0), (9, .own 6 1 (pe1 d (n + 1)).length), (12, .fn 68 [.ptr 0 4 0 0, .ref [eL eSh l]]), (13, .ref [eI n]), (14, eI (gti d n)), (32, eL eI d), (33, eI d.length), (34, eI n)]) (σ' := stP (costL l) (t1 d l n) (pe1 d (n + 1))) (zck [0, 1, 2, 3, 4, 5, 8] (by decide) ⟨⟨_, rfl, obRn_agg (.cons (.own _ _ _ _ _ rfl rfl) (.cons (.own _ _ _ _ _ rfl rfl) (.cons (.own _ _ _ _ _ rfl rfl) (.cons (.own _ _ _ _ _ rfl rfl) .nil))))⟩, ⟨_, rfl, .rowE (by repeat' (first | exact Lo.s _ | exact zaj | exact zbn | refine zae ?_ ?_ | refine zbe ?_ ?_ | refine zak ?_ | refine zbo ?_ | refine Lo.cells ?_ | refine Lo.agg _ ?_ | refine Lo.sl _ ?_ | intro _)) rfl⟩, ⟨_, rfl, .rowE (by repeat' (first | exact Lo.s _ | exact zaj | exact zbn | refine zae ?_ ?_ | refine zbe ?_ ?_ | refine zak ?_ | refine zbo ?_ | refine Lo.cells ?_ | refine Lo.agg _ ?_ | refine Lo.sl _ ?_ | intro _)) rfl⟩, ⟨_, rfl, .rowE (by repeat' (first | exact Lo.s _ | exact zaj | exact zbn | refine zae ?_ ?_ | refine zbe ?_ ?_ | refine zak ?_ | refine zbo ?_ | refine Lo.cells ?_ | refine Lo.agg _ ?_ | refine Lo.sl _ ?_ | intro _)) rfl⟩, ⟨_, rfl, .rowE (by repeat' (first | exact Lo.s _ | exact zaj | exact zbn | refine zae ?_ ?_ | refine zbe ?_ ?_ | refine zak ?_ | refine zbo ?_ | refine Lo.cells ?_ | refine Lo.agg _ ?_ | refine Lo.sl _ ?_ | intro _)) rfl⟩, ⟨_, rfl, .rowE zP_lo rfl⟩, ⟨_, rfl, .rowE (by repeat' (first | exact Lo.s _ | exact zaj | exact zbn | refine zae ?_ ?_ | refine zbe ?_ ?_ | refine zak ?_ | refine zbo ?_ | refine Lo.cells ?_ | refine Lo.agg _ ?_ | refine Lo.sl _ ?_ | intro _)) (Eq.trans (b := (pe1 d n).map eI ++ [eI n]) rfl hpr.symm)⟩, trivial⟩ ⟨.lo _ hlL, .lo _ (by repeat' (first | exact Lo.s _ | exact zaj | refine zae ?_ ?_ | refine zak ?_ | refine Lo.cells ?_ | refine Lo.agg _ ?_ | refine Lo.ref _ ?_ | refine Lo.tup _ ?_ | refine Lo.fn _ _ ?_ | refine Lo.sl _ ?_ | intro _)), .ptr 5 5 4 0 0 rfl, .ptr 0 0 4 0 0 rfl, .own 8 6 1 _ _ rfl (by rw [hpn]; simp), .fn _ _ _ rfl (RnL.cons (.ptr 0 0 4 0 0 rfl) (RnL.cons (.lo _ hlL) RnL.nil)).2, .lo _ (by repeat' (first | exact Lo.s _ | exact zaj | refine zae ?_ ?_ | refine zak ?_ | refine Lo.cells ?_ | refine Lo.agg _ ?_ | refine Lo.ref _ ?_ | refine Lo.tup _ ?_ | refine Lo.fn _ _ ?_ | refine Lo.sl _ ?_ | intro _)), .lo _ (by repeat' (first | exact Lo.s _ | exact zaj | refine zae ?_ ?_ | refine zak ?_ | refine Lo.cells ?_ | refine Lo.agg _ ?_ | refine Lo.ref _ ?_ | refine Lo.tup _ ?_ | refine Lo.fn _ _ ?_ | refine Lo.sl _ ?_ | intro _)), .lo _ (by repeat' (first | exact Lo.s _ | exact zaj | refine zae ?_ ?_ | refine zak ?_ | refine Lo.cells ?_ | refine Lo.agg _ ?_ | refine Lo.ref _ ?_ | refine Lo.tup _ ?_ | refine Lo.fn _ _ ?_ | refine Lo.sl _ ?_ | intro _)), .lo _ (by repeat' (first | exact Lo.s _ | exact zaj | refine zae ?_ ?_ | refine zak ?_ | refine Lo.cells ?_ | refine Lo.agg _ ?_ | refine Lo.ref _ ?_ | refine Lo.tup _ ?_ | refine Lo.fn _ _ ?_ | refine Lo.sl _ ?_ | intro _)), .lo _ (by repeat' (first | exact Lo.s _ | exact zaj | refine zae ?_ ?_ | refine zak ?_ | refine Lo.cells ?_ | refine Lo.agg _ ?_ | refine Lo.ref _ ?_ | refine Lo.tup _ ?_ | refine Lo.fn _ _ ?_ | refine Lo.sl _ ?_ | intro _)), trivial⟩) ?_
      have hcall := prog1T (P := P) l q3 (costL l) (t1 d l n) (by omega) (pe1 d (n + 1)) 70 [.ref [eL eSh l], .ref [eI n]] (fun i => inB (gti l i).pd n) (by repeat' (first | exact Lo.s _ | exact zaj | refine zae ?_ ?_ | refine zak ?_ | refine Lo.cells ?_ | refine Lo.agg _ ?_ | refine Lo.ref _ ?_ | refine Lo.tup _ ?_ | refine Lo.fn _ _ ?_ | refine Lo.sl _ ?_ | intro _)) (fun i hi => prog2_pf l n i hi) 2 (gti d n)
      rw [show t1 d l n ++ [(unitL l.length (fun i => inB (gti l i).pd n), 2, gti d n)] = t1 d l (n + 1) from hT.symm] at hcall
      refine zaf ?_
      first | refine zab rfl rfl (zaa rfl) (mv_fn (.inl rfl) rfl) ?_ | refine zab rfl rfl (zaa rfl) (mv_s (.inl rfl) rfl) ?_
      refine zab rfl rfl (zaa rfl) (does_func rfl rfl) ?_
      refine zab rfl rfl (zaa rfl) (mv_s (.inl rfl) rfl) ?_
      refine zab rfl rfl (zaa rfl) (does_callE rfl rfl hcall rfl) ?_
      refine zan ?_
      repeat (first | refine zag ?_ | refine zar ?_ | refine zad ?_ | refine zas ?_ | refine zac ?_)
      refine zaf ?_
      refine zab rfl rfl (zaa rfl) (zb2 rfl rfl rfl (IntWalk.i64_in _ (by omega))) ?_
      refine zab rfl rfl (zaa rfl) (mv_s (.inl rfl) rfl) ?_
      refine zan ?_
      repeat (first | refine zag ?_ | refine zar ?_ | refine zad ?_ | refine zas ?_ | refine zac ?_)
      exact ⟨n + 1, by omega, by omega, zck [0, 1, 7, 8, 9, 5, 6] (by decide) ⟨⟨_, rfl, obRn_agg (.cons (.own _ _ _ _ _ rfl rfl) (.cons (.own _ _ _ _ _ rfl rfl) (.cons (.own _ _ _ _ _ rfl rfl) (.cons (.own _ _ _ _ _ rfl rfl) .nil))))⟩, ⟨_, rfl, .rowE (by repeat' (first | exact Lo.s _ | exact zaj | exact zbn | refine zae ?_ ?_ | refine zbe ?_ ?_ | refine zak ?_ | refine zbo ?_ | refine Lo.cells ?_ | refine Lo.agg _ ?_ | refine Lo.sl _ ?_ | intro _)) rfl⟩, ⟨_, rfl, .rowE (by repeat' (first | exact Lo.s _ | exact zaj | exact zbn | refine zae ?_ ?_ | refine zbe ?_ ?_ | refine zak ?_ | refine zbo ?_ | refine Lo.cells ?_ | refine Lo.agg _ ?_ | refine Lo.sl _ ?_ | intro _)) rfl⟩, ⟨_, rfl, .rowE (by repeat' (first | exact Lo.s _ | exact zaj | exact zbn | refine zae ?_ ?_ | refine zbe ?_ ?_ | refine zak ?_ | refine zbo ?_ | refine Lo.cells ?_ | refine Lo.agg _ ?_ | refine Lo.sl _ ?_ | intro _)) rfl⟩, ⟨_, rfl, .rowE (by repeat' (first | exact Lo.s _ | exact zaj | exact zbn | refine zae ?_ ?_ | refine zbe ?_ ?_ | refine zak ?_ | refine zbo ?_ | refine Lo.cells ?_ | refine Lo.agg _ ?_ | refine Lo.sl _ ?_ | intro _)) rfl⟩, ⟨_, rfl, .rowE zP_lo rfl⟩, ⟨_, rfl, .rowE (by repeat' (first | exact Lo.s _ | exact zaj | exact zbn | refine zae ?_ ?_ | refine zbe ?_ ?_ | refine zak ?_ | refine zbo ?_ | refine Lo.cells ?_ | refine Lo.agg _ ?_ | refine Lo.sl _ ?_ | intro _)) rfl⟩, trivial⟩ ⟨.lo _ hlL, .lo _ (by repeat' (first | exact Lo.s _ | exact zaj | refine zae ?_ ?_ | refine zak ?_ | refine Lo.cells ?_ | refine Lo.agg _ ?_ | refine Lo.ref _ ?_ | refine Lo.tup _ ?_ | refine Lo.fn _ _ ?_ | refine Lo.sl _ ?_ | intro _)), .ptr 5 5 4 0 0 rfl, .ptr 0 0 4 0 0 rfl, .own 6 6 1 _ _ rfl rfl, .fn _ _ _ rfl (RnL.cons (.ptr 0 0 4 0 0 rfl) (RnL.cons (.lo _ hlL) RnL.nil)).2, .lo _ (by repeat' (first | exact Lo.s _ | exact zaj | refine zae ?_ ?_ | refine zak ?_ | refine Lo.cells ?_ | refine Lo.agg _ ?_ | refine Lo.ref _ ?_ | refine Lo.tup _ ?_ | refine Lo.fn _ _ ?_ | refine Lo.sl _ ?_ | intro _)), .lo _ (by repeat' (first | exact Lo.s _ | exact zaj | refine zae ?_ ?_ | refine zak ?_ | refine Lo.cells ?_ | refine Lo.agg _ ?_ | refine Lo.ref _ ?_ | refine Lo.tup _ ?_ | refine Lo.fn _ _ ?_ | refine Lo.sl _ ?_ | intro _)), .lo _ (by repeat' (first | exact Lo.s _ | exact zaj | refine zae ?_ ?_ | refine zak ?_ | refine Lo.cells ?_ | refine Lo.agg _ ?_ | refine Lo.ref _ ?_ | refine Lo.tup _ ?_ | refine Lo.fn _ _ ?_ | refine Lo.sl _ ?_ | intro _)), trivial⟩⟩
    · rw [if_neg h40, List.append_nil] at hT hp
      refine zaf ?_
      refine zab rfl rfl (zaa rfl) (zb2 rfl rfl rfl (IntWalk.i64_in _ (by omega))) ?_
      refine zab rfl rfl (zaa rfl) (mv_s (.inl rfl) rfl) ?_
      refine zan ?_
      repeat (first | refine zag ?_ | refine zar ?_ | refine zad ?_ | refine zas ?_ | refine zac ?_)
      rw [← hT, ← hp]
      exact ⟨n + 1, by omega, by omega, zck [0, 1, 2, 3, 4, 5, 6] (by decide) ⟨⟨_, rfl, obRn_agg (.cons (.own _ _ _ _ _ rfl rfl) (.cons (.own _ _ _ _ _ rfl rfl) (.cons (.own _ _ _ _ _ rfl rfl) (.cons (.own _ _ _ _ _ rfl rfl) .nil))))⟩, ⟨_, rfl, .rowE (by repeat' (first | exact Lo.s _ | exact zaj | exact zbn | refine zae ?_ ?_ | refine zbe ?_ ?_ | refine zak ?_ | refine zbo ?_ | refine Lo.cells ?_ | refine Lo.agg _ ?_ | refine Lo.sl _ ?_ | intro _)) rfl⟩, ⟨_, rfl, .rowE (by repeat' (first | exact Lo.s _ | exact zaj | exact zbn | refine zae ?_ ?_ | refine zbe ?_ ?_ | refine zak ?_ | refine zbo ?_ | refine Lo.cells ?_ | refine Lo.agg _ ?_ | refine Lo.sl _ ?_ | intro _)) rfl⟩, ⟨_, rfl, .rowE (by repeat' (first | exact Lo.s _ | exact zaj | exact zbn | refine zae ?_ ?_ | refine zbe ?_ ?_ | refine zak ?_ | refine zbo ?_ | refine Lo.cells ?_ | refine Lo.agg _ ?_ | refine Lo.sl _ ?_ | intro _)) rfl⟩, ⟨_, rfl, .rowE (by repeat' (first | exact Lo.s _ | exact zaj | exact zbn | refine zae ?_ ?_ | refine zbe ?_ ?_ | refine zak ?_ | refine zbo ?_ | refine Lo.cells ?_ | refine Lo.agg _ ?_ | refine Lo.sl _ ?_ | intro _)) rfl⟩, ⟨_, rfl, .rowE zP_lo rfl⟩, ⟨_, rfl, .rowE (by repeat' (first | exact Lo.s _ | exact zaj | exact zbn | refine zae ?_ ?_ | refine zbe ?_ ?_ | refine zak ?_ | refine zbo ?_ | refine Lo.cells ?_ | refine Lo.agg _ ?_ | refine Lo.sl _ ?_ | intro _)) rfl⟩, trivial⟩ ⟨.lo _ hlL, .lo _ (by repeat' (first | exact Lo.s _ | exact zaj | refine zae ?_ ?_ | refine zak ?_ | refine Lo.cells ?_ | refine Lo.agg _ ?_ | refine Lo.ref _ ?_ | refine Lo.tup _ ?_ | refine Lo.fn _ _ ?_ | refine Lo.sl _ ?_ | intro _)), .ptr 5 5 4 0 0 rfl, .ptr 0 0 4 0 0 rfl, .own 6 6 1 _ _ rfl rfl, .fn _ _ _ rfl (RnL.cons (.ptr 0 0 4 0 0 rfl) (RnL.cons (.lo _ hlL) RnL.nil)).2, .lo _ (by repeat' (first | exact Lo.s _ | exact zaj | refine zae ?_ ?_ | refine zak ?_ | refine Lo.cells ?_ | refine Lo.agg _ ?_ | refine Lo.ref _ ?_ | refine Lo.tup _ ?_ | refine Lo.fn _ _ ?_ | refine Lo.sl _ ?_ | intro _)), .lo _ (by repeat' (first | exact Lo.s _ | exact zaj | refine zae ?_ ?_ | refine zak ?_ | refine Lo.cells ?_ | refine Lo.agg _ ?_ | refine Lo.ref _ ?_ | refine Lo.tup _ ?_ | refine Lo.fn _ _ ?_ | refine Lo.sl _ ?_ | intro _)), .lo _ (by repeat' (first | exact Lo.s _ | exact zaj | refine zae ?_ ?_ | refine zak ?_ | refine Lo.cells ?_ | refine Lo.agg _ ?_ | refine Lo.ref _ ?_ | refine Lo.tup _ ?_ | refine Lo.fn _ _ ?_ | refine Lo.sl _ ?_ | intro _)), trivial⟩⟩
  have e : n = d.length := by omega
  subst e
  (refine zcl ?_; repeat (first | refine ath_x ?_ | refine zci ?_ | refine zcb rfl ?_ | refine zas ?_ | refine zar ?_ | refine zag ?_ | refine zad ?_ | refine zac ?_))
  refine zaf ?_
  first | refine zab rfl rfl (zaa rfl) (zam rfl ta23 rfl) ?_ | refine zab rfl rfl (zaa rfl) (zap rfl ta23 rfl rfl rfl rfl rfl) ?_
  first | refine zab rfl rfl (zaa rfl) (za4 rfl ts23 rfl) ?_ | refine zab rfl rfl (zaa rfl) (za8 rfl ts23 rfl) ?_ | refine zab rfl rfl (zaa rfl) (za2 rfl ts23 rfl) ?_ | refine zab rfl rfl (zaa rfl) (zbc rfl ts23 rfl) ?_ | refine zab rfl rfl (zaa rfl) (za3 rfl ts23 rfl) ?_
  refine zab rfl rfl (zaa rfl) (mv_s (.inl rfl) rfl) ?_
  refine zan ?_
  repeat (first | refine zag ?_ | refine zar ?_ | refine zad ?_ | refine zas ?_ | refine zac ?_)
  refine zcc (S := Nat) (fun k => [(5, .ref (eBx lo hi).cells), (6, .ptr 5 4 0 0), (8, .ptr 0 4 0 0), (9, .own 6 1 (pe1 d d.length).length), (12, .fn 68 [.ptr 0 4 0 0, .ref [eL eSh l]]), (50, eL eSh l), (51, eI l.length), (52, eI k)]) (fun k => stP (costL l) (t2 d l lo hi k) (pe1 d d.length)) (fun k => k ≤ l.length) (fun k => l.length - k) 0
    (zck [0, 1, 2, 3, 4, 5, 6] (by decide) ⟨⟨_, rfl, obRn_agg (.cons (.own _ _ _ _ _ rfl rfl) (.cons (.own _ _ _ _ _ rfl rfl) (.cons (.own _ _ _ _ _ rfl rfl) (.cons (.own _ _ _ _ _ rfl rfl) .nil))))⟩, ⟨_, rfl, .rowE (by repeat' (first | exact Lo.s _ | exact zaj | exact zbn | refine zae ?_ ?_ | refine zbe ?_ ?_ | refine zak ?_ | refine zbo ?_ | refine Lo.cells ?_ | refine Lo.agg _ ?_ | refine Lo.sl _ ?_ | intro _)) rfl⟩, ⟨_, rfl, .rowE (by repeat' (first | exact Lo.s _ | exact zaj | exact zbn | refine zae ?_ ?_ | refine zbe ?_ ?_ | refine zak ?_ | refine zbo ?_ | refine Lo.cells ?_ | refine Lo.agg _ ?_ | refine Lo.sl _ ?_ | intro _)) rfl⟩, ⟨_, rfl, .rowE (by repeat' (first | exact Lo.s _ | exact zaj | exact zbn | refine zae ?_ ?_ | refine zbe ?_ ?_ | refine zak ?_ | refine zbo ?_ | refine Lo.cells ?_ | refine Lo.agg _ ?_ | refine Lo.sl _ ?_ | intro _)) rfl⟩, ⟨_, rfl, .rowE (by repeat' (first | exact Lo.s _ | exact zaj | exact zbn | refine zae ?_ ?_ | refine zbe ?_ ?_ | refine zak ?_ | refine zbo ?_ | refine Lo.cells ?_ | refine Lo.agg _ ?_ | refine Lo.sl _ ?_ | intro _)) rfl⟩, ⟨_, rfl, .rowE zP_lo rfl⟩, ⟨_, rfl, .rowE (by repeat' (first | exact Lo.s _ | exact zaj | exact zbn | refine zae ?_ ?_ | refine zbe ?_ ?_ | refine zak ?_ | refine zbo ?_ | refine Lo.cells ?_ | refine Lo.agg _ ?_ | refine Lo.sl _ ?_ | intro _)) rfl⟩, trivial⟩ ⟨.lo _ (by repeat' (first | exact Lo.s _ | exact zaj | refine zae ?_ ?_ | refine zak ?_ | refine Lo.cells ?_ | refine Lo.agg _ ?_ | refine Lo.ref _ ?_ | refine Lo.tup _ ?_ | refine Lo.fn _ _ ?_ | refine Lo.sl _ ?_ | intro _)), .ptr 5 5 4 0 0 rfl, .ptr 0 0 4 0 0 rfl, .own 6 6 1 _ _ rfl rfl, .fn _ _ _ rfl (RnL.cons (.ptr 0 0 4 0 0 rfl) (RnL.cons (.lo _ hlL) RnL.nil)).2, .lo _ (by repeat' (first | exact Lo.s _ | exact zaj | refine zae ?_ ?_ | refine zak ?_ | refine Lo.cells ?_ | refine Lo.agg _ ?_ | refine Lo.ref _ ?_ | refine Lo.tup _ ?_ | refine Lo.fn _ _ ?_ | refine Lo.sl _ ?_ | intro _)), .lo _ (by repeat' (first | exact Lo.s _ | exact zaj | refine zae ?_ ?_ | refine zak ?_ | refine Lo.cells ?_ | refine Lo.agg _ ?_ | refine Lo.ref _ ?_ | refine Lo.tup _ ?_ | refine Lo.fn _ _ ?_ | refine Lo.sl _ ?_ | intro _)), .lo _ (by repeat' (first | exact Lo.s _ | exact zaj | refine zae ?_ ?_ | refine zak ?_ | refine Lo.cells ?_ | refine Lo.agg _ ?_ | refine Lo.ref _ ?_ | refine Lo.tup _ ?_ | refine Lo.fn _ _ ?_ | refine Lo.sl _ ?_ | intro _)), trivial⟩) (Nat.zero_le _) (fun k hk => ?_)
  have htl := t2_len d l lo hi k
  repeat (first | refine zag ?_ | refine zar ?_ | refine zad ?_ | refine zas ?_ | refine zac ?_)
  all_goals refine zaf ?_
  all_goals (first | refine zbh rfl rfl (zaa rfl) (zbb rfl rfl rfl) (fun h53 => ?_) (fun h53 => ?_) | refine zbi rfl rfl (zaa rfl) (zbb rfl rfl rfl) (fun h53 => ?_) (fun h53 => ?_))
  all_goals refine zan ?_
  all_goals (repeat (first | refine zag ?_ | refine zar ?_ | refine zad ?_ | refine zas ?_ | refine zac ?_))
  all_goals (first | refine zbp rfl ?_ | refine zbm rfl ?_)
  all_goals (repeat (first | refine zag ?_ | refine zar ?_ | refine zad ?_ | refine zas ?_ | refine zac ?_))
  · have hlt : k < l.length := by omega
    have hT : t2 d l lo hi (k + 1) = (t2 d l lo hi k ++ [(uK l k, 1, gti hi k)]) ++ if 0 < gti lo k then [(uK l k, 2, gti lo k)] else [] := rfl
    refine zaf ?_
    refine zab rfl rfl (zaa rfl) (mv_s (.inl rfl) rfl) ?_
    refine zab rfl rfl (zaa rfl) (zbr rfl ti3 rfl rfl) ?_
    refine zb0 rfl (zaa rfl) (zbd rfl ti3 rfl rfl rfl rfl rfl rfl (by decide) (by decide)) ?_
    refine zan ?_
    repeat (first | refine zag ?_ | refine zar ?_ | refine zad ?_ | refine zas ?_ | refine zac ?_)
    refine zca (zcd (id := 7) rfl) ?_
    refine zca (zcy (d := 15) rfl rfl rfl) ?_
    refine zca (F' := [(5, .ref (eBx lo hi).cells), (6, .ptr 5 4 0 0), (8, .ptr 0 4 0 0), (9, .own 6 1 (pe1 d d.length).length), (12, .fn 68 [.ptr 0 4 0 0, .ref [eL eSh l]]), (15, .ref [eI k]), (50, eL eSh l), (51, eI l.length), (52, eI k)]) (σ' := stP (costL l) (t2 d l lo hi k) (pe1 d d.length)) (zck [0, 1, 2, 3, 4, 5, 6] (by decide) ⟨⟨_, rfl, obRn_agg (.cons (.own _ _ _ _ _ rfl rfl) (.cons (.own _ _ _ _ _ rfl rfl) (.cons (.own _ _ _ _ _ rfl rfl) (.cons (.own _ _ _ _ _ rfl rfl) .nil))))⟩, ⟨_, rfl, .rowE (by repeat' (first | exact Lo.s _ | exact zaj | exact zbn | refine zae ?_ ?_ | refine zbe ?_ ?_ | refine zak ?_ | refine zbo ?_ | refine Lo.cells ?_ | refine Lo.agg _ ?_ | refine Lo.sl _ ?_ | intro _)) rfl⟩, ⟨_, rfl, .rowE (by repeat' (first | exact Lo.s _ | exact zaj | exact zbn | refine zae ?_ ?_ | refine zbe ?_ ?_ | refine zak ?_ | refine zbo ?_ | refine Lo.cells ?_ | refine Lo.agg _ ?_ | refine Lo.sl _ ?_ | intro _)) rfl⟩, ⟨_, rfl, .rowE (by repeat' (first | exact Lo.s _ | exact zaj | exact zbn | refine zae ?_ ?_ | refine zbe ?_ ?_ | refine zak ?_ | refine zbo ?_ | refine Lo.cells ?_ | refine Lo.agg _ ?_ | refine Lo.sl _ ?_ | intro _)) rfl⟩, ⟨_, rfl, .rowE (by repeat' (first | exact Lo.s _ | exact zaj | exact zbn | refine zae ?_ ?_ | refine zbe ?_ ?_ | refine zak ?_ | refine zbo ?_ | refine Lo.cells ?_ | refine Lo.agg _ ?_ | refine Lo.sl _ ?_ | intro _)) rfl⟩, ⟨_, rfl, .rowE zP_lo rfl⟩, ⟨_, rfl, .rowE (by repeat' (first | exact Lo.s _ | exact zaj | exact zbn | refine zae ?_ ?_ | refine zbe ?_ ?_ | refine zak ?_ | refine zbo ?_ | refine Lo.cells ?_ | refine Lo.agg _ ?_ | refine Lo.sl _ ?_ | intro _)) rfl⟩, trivial⟩ ⟨.lo _ (by repeat' (first | exact Lo.s _ | exact zaj | refine zae ?_ ?_ | refine zak ?_ | refine Lo.cells ?_ | refine Lo.agg _ ?_ | refine Lo.ref _ ?_ | refine Lo.tup _ ?_ | refine Lo.fn _ _ ?_ | refine Lo.sl _ ?_ | intro _)), .ptr 5 5 4 0 0 rfl, .ptr 0 0 4 0 0 rfl, .own 6 6 1 _ _ rfl rfl, .fn _ _ _ rfl (RnL.cons (.ptr 0 0 4 0 0 rfl) (RnL.cons (.lo _ hlL) RnL.nil)).2, .lo _ (by repeat' (first | exact Lo.s _ | exact zaj | refine zae ?_ ?_ | refine zak ?_ | refine Lo.cells ?_ | refine Lo.agg _ ?_ | refine Lo.ref _ ?_ | refine Lo.tup _ ?_ | refine Lo.fn _ _ ?_ | refine Lo.sl _ ?_ | intro _)), .lo _ (by repeat' (first | exact Lo.s _ | exact zaj | refine zae ?_ ?_ | refine zak ?_ | refine Lo.cells ?_ | refine Lo.agg _ ?_ | refine Lo.ref _ ?_ | refine Lo.tup _ ?_ | refine Lo.fn _ _ ?_ | refine Lo.sl _ ?_ | intro _)), .lo _ (by repeat' (first | exact Lo.s _ | exact zaj | refine zae ?_ ?_ | refine zak ?_ | refine Lo.cells ?_ | refine Lo.agg _ ?_ | refine Lo.ref _ ?_ | refine Lo.tup _ ?_ | refine Lo.fn _ _ ?_ | refine Lo.sl _ ?_ | intro _)), .lo _ (by repeat' (first | exact Lo.s _ | exact zaj | refine zae ?_ ?_ | refine zak ?_ | refine Lo.cells ?_ | refine Lo.agg _ ?_ | refine Lo.ref _ ?_ | refine Lo.tup _ ?_ | refine Lo.fn _ _ ?_ | refine Lo.sl _ ?_ | intro _)), trivial⟩) ?_
    have hcall := prog1T (P := P) l q3 (costL l) (t2 d l lo hi k) (by omega) (pe1 d d.length) 72 [.ref [eI k]] (fun i => decide (i = k)) (by repeat' (first | exact Lo.s _ | exact zaj | refine zae ?_ ?_ | refine zak ?_ | refine Lo.cells ?_ | refine Lo.agg _ ?_ | refine Lo.ref _ ?_ | refine Lo.tup _ ?_ | refine Lo.fn _ _ ?_ | refine Lo.sl _ ?_ | intro _)) (fun i hi => prog3_pf k i) 1 (gti hi k)
    refine zaf ?_
    first | refine zab rfl rfl (zaa rfl) (mv_fn (.inl rfl) rfl) ?_ | refine zab rfl rfl (zaa rfl) (mv_s (.inl rfl) rfl) ?_
    refine zab rfl rfl (zaa rfl) (does_func rfl rfl) ?_
    first | refine zab rfl rfl (zaa rfl) (zal rfl tf51_1 (by decide) rfl) ?_ | refine zab rfl rfl (zaa rfl) (zai rfl tf51_1 (by decide) rfl) ?_
    first | refine zab rfl rfl (zaa rfl) (zam rfl ta22 rfl) ?_ | refine zab rfl rfl (zaa rfl) (zap rfl ta22 rfl rfl rfl rfl rfl) ?_
    first | refine zab rfl rfl (zaa rfl) (zam rfl ta3 rfl) ?_ | refine zab rfl rfl (zaa rfl) (zap rfl ta3 rfl rfl rfl rfl rfl) ?_
    first | refine zab rfl rfl (zaa rfl) (za1 rfl ts22 ti3 rfl rfl rfl (zb5 (by omega)) rfl) ?_ | refine zab rfl rfl (zaa rfl) (zay rfl ts22 ti3 rfl rfl rfl (by omega)) ?_
    first | refine zab rfl rfl (zaa rfl) (zam rfl ta3 rfl) ?_ | refine zab rfl rfl (zaa rfl) (zap rfl ta3 rfl rfl rfl rfl rfl) ?_
    refine zab rfl rfl (zaa rfl) (does_callE rfl rfl hcall rfl) ?_
    refine zan ?_
    repeat (first | refine zag ?_ | refine zar ?_ | refine zad ?_ | refine zas ?_ | refine zac ?_)
    obtain ⟨T1, hT1⟩ : ∃ T1, T1 = t2 d l lo hi k ++ [(unitL l.length (fun i => decide (i = k)), 1, gti hi k)] := ⟨_, rfl⟩
    rw [← hT1]
    have hT1l : T1.length = (t2 d l lo hi k).length + 1 := by rw [hT1]; simp
    replace hT : t2 d l lo hi (k + 1) = T1 ++ if 0 < gti lo k then [(uK l k, 2, gti lo k)] else [] := by rw [hT, hT1]; rfl
    clear hT1 hcall
    refine zca (F' := [(5, .ref (eBx lo hi).cells), (6, .ptr 5 4 0 0), (8, .ptr 0 4 0 0), (9, .own 6 1 (pe1 d d.length).length), (12, .fn 68 [.ptr 0 4 0 0, .ref [eL eSh l]]), (15, .ref [eI k]), (50, eL eSh l), (51, eI l.length), (52, eI k)]) (σ' := stP (costL l) T1 (pe1 d d.length)) (zck [0, 1, 7, 8, 9, 5, 6] (by decide) ⟨⟨_, rfl, obRn_agg (.cons (.own _ _ _ _ _ rfl rfl) (.cons (.own _ _ _ _ _ rfl rfl) (.cons (.own _ _ _ _ _ rfl rfl) (.cons (.own _ _ _ _ _ rfl rfl) .nil))))⟩, ⟨_, rfl, .rowE (by repeat' (first | exact Lo.s _ | exact zaj | exact zbn | refine zae ?_ ?_ | refine zbe ?_ ?_ | refine zak ?_ | refine zbo ?_ | refine Lo.cells ?_ | refine Lo.agg _ ?_ | refine Lo.sl _ ?_ | intro _)) rfl⟩, ⟨_, rfl, .rowE (by repeat' (first | exact Lo.s _ | exact zaj | exact zbn | refine zae ?_ ?_ | refine zbe ?_ ?_ | refine zak ?_ | refine zbo ?_ | refine Lo.cells ?_ | refine Lo.agg _ ?_ | refine Lo.sl _ ?_ | intro _)) rfl⟩, ⟨_, rfl, .rowE (by repeat' (first | exact Lo.s _ | exact zaj | exact zbn | refine zae ?_ ?_ | refine zbe ?_ ?_ | refine zak ?_ | refine zbo ?_ | refine Lo.cells ?_ | refine Lo.agg _ ?_ | refine Lo.sl _ ?_ | intro _)) rfl⟩, ⟨_, rfl, .rowE (by repeat' (first | exact Lo.s _ | exact zaj | exact zbn | refine zae ?_ ?_ | refine zbe ?_ ?_ | refine zak ?_ | refine zbo ?_ | refine Lo.cells ?_ | refine Lo.agg _ ?_ | refine Lo.sl _ ?_ | intro _)) rfl⟩, ⟨_, rfl, .rowE zP_lo rfl⟩, ⟨_, rfl, .rowE (by repeat' (first | exact Lo.s _ | exact zaj | exact zbn | refine zae ?_ ?_ | refine zbe ?_ ?_ | refine zak ?_ | refine zbo ?_ | refine Lo.cells ?_ | refine Lo.agg _ ?_ | refine Lo.sl _ ?_ | intro _)) rfl⟩, trivial⟩ ⟨.lo _ (by repeat' (first | exact Lo.s _ | exact zaj | refine zae ?_ ?_ | refine zak ?_ | refine Lo.cells ?_ | refine Lo.agg _ ?_ | refine Lo.ref _ ?_ | refine Lo.tup _ ?_ | refine Lo.fn _ _ ?_ | refine Lo.sl _ ?_ | intro _)), .ptr 5 5 4 0 0 rfl, .ptr 0 0 4 0 0 rfl, .own 6 6 1 _ _ rfl rfl, .fn _ _ _ rfl (RnL.cons (.ptr 0 0 4 0 0 rfl) (RnL.cons (.lo _ hlL) RnL.nil)).2, .lo _ (by repeat' (first | exact Lo.s _ | exact zaj | refine zae ?_ ?_ | refine zak ?_ | refine Lo.cells ?_ | refine Lo.agg _ ?_ | refine Lo.ref _ ?_ | refine Lo.tup _ ?_ | refine Lo.fn _ _ ?_ | refine Lo.sl _ ?_ | intro _)), .lo _ (by repeat' (first | exact Lo.s _ | exact zaj | refine zae ?_ ?_ | refine zak ?_ | refine Lo.cells ?_ | refine Lo.agg _ ?_ | refine Lo.ref _ ?_ | refine Lo.tup _ ?_ | refine Lo.fn _ _ ?_ | refine Lo.sl _ ?_ | intro _)), .lo _ (by repeat' (first | exact Lo.s _ | exact zaj | refine zae ?_ ?_ | refine zak ?_ | refine Lo.cells ?_ | refine Lo.agg _ ?_ | refine Lo.ref _ ?_ | refine Lo.tup _ ?_ | refine Lo.fn _ _ ?_ | refine Lo.sl _ ?_ | intro _)), .lo _ (by repeat' (first | exact Lo.s _ | exact zaj | refine zae ?_ ?_ | refine zak ?_ | refine Lo.cells ?_ | refine Lo.agg _ ?_ | refine Lo.ref _ ?_ | refine Lo.tup _ ?_ | refine Lo.fn _ _ ?_ | refine Lo.sl _ ?_ | intro _)), trivial⟩) ?_
    all_goals refine zaf ?_
    all_goals (first | refine zab rfl rfl (zaa rfl) (zal rfl tf51_0 (by decide) rfl) ?_ | refine zab rfl rfl (zaa rfl) (zai rfl tf51_0 (by decide) rfl) ?_)
    all_goals (first | refine zab rfl rfl (zaa rfl) (zam rfl ta22 rfl) ?_ | refine zab rfl rfl (zaa rfl) (zap rfl ta22 rfl rfl rfl rfl rfl) ?_)
    all_goals (first | refine zab rfl rfl (zaa rfl) (zam rfl ta3 rfl) ?_ | refine zab rfl rfl (zaa rfl) (zap rfl ta3 rfl rfl rfl rfl rfl) ?_)
    all_goals (first | refine zab rfl rfl (zaa rfl) (za1 rfl ts22 ti3 rfl rfl rfl (zb5 (by omega)) rfl) ?_ | refine zab rfl rfl (zaa rfl) (zay rfl ts22 ti3 rfl rfl rfl (by omega)) ?_)
    all_goals (first | refine zab rfl rfl (zaa rfl) (zam rfl ta3 rfl) ?_ | refine zab rfl rfl (zaa rfl) (zap rfl ta3 rfl rfl rfl rfl rfl) ?_)
    all_goals (first | refine zbh rfl rfl (zaa rfl) (zbw rfl rfl rfl) (fun h68 => ?_) (fun h68 => ?_) | refine zbi rfl rfl (zaa rfl) (zbw rfl rfl rfl) (fun h68 => ?_) (fun h68 => ?_))
    all_goals refine zan ?_
    all_goals (repeat (first | refine zag ?_ | refine zar ?_ | refine zad ?_ | refine zas ?_ | refine zac ?_))
    all_goals (first | refine zbp rfl ?_ | refine zbm rfl ?_)
    all_goals (repeat (first | refine zag ?_ | refine zar ?_ | refine zad ?_ | refine zas ?_ | refine zac ?_))
    · rw [if_pos h68] at hT
      have hcall := prog1T (P := P) l q3 (costL l) T1 (by omega) (pe1 d d.length) 73 [.ref [eI k]] (fun i => decide (i = k)) (by repeat' (first | exact Lo.s _ | exact zaj | refine zae ?_ ?_ | refine zak ?_ | refine Lo.cells ?_ | refine Lo.agg _ ?_ | refine Lo.ref _ ?_ | refine Lo.tup _ ?_ | refine Lo.fn _ _ ?_ | refine Lo.sl _ ?_ | intro _)) (fun i hi => prog4_pf k i) 2 (gti lo k)
      rw [show T1 ++ [(unitL l.length (fun i => decide (i = k)), 2, gti lo k)] = t2 d l lo hi (k + 1) from hT.symm] at hcall
      refine zaf ?_
      first | refine zab rfl rfl (zaa rfl) (mv_fn (.inl rfl) rfl) ?_ | refine zab rfl rfl (zaa rfl) (mv_s (.inl rfl) rfl) ?_
      refine zab rfl rfl (zaa rfl) (does_func rfl rfl) ?_
      first | refine zab rfl rfl (zaa rfl) (zal rfl tf51_0 (by decide) rfl) ?_ | refine zab rfl rfl (zaa rfl) (zai rfl tf51_0 (by decide) rfl) ?_
      first | refine zab rfl rfl (zaa rfl) (zam rfl ta22 rfl) ?_ | refine zab rfl rfl (zaa rfl) (zap rfl ta22 rfl rfl rfl rfl rfl) ?_
      first | refine zab rfl rfl (zaa rfl) (zam rfl ta3 rfl) ?_ | refine zab rfl rfl (zaa rfl) (zap rfl ta3 rfl rfl rfl rfl rfl) ?_
      first | refine zab rfl rfl (zaa rfl) (za1 rfl ts22 ti3 rfl rfl rfl (zb5 (by omega)) rfl) ?_ | refine zab rfl rfl (zaa rfl) (zay rfl ts22 ti3 rfl rfl rfl (by omega)) ?_
      first | refine zab rfl rfl (zaa rfl) (zam rfl ta3 rfl) ?_ | refine zab rfl rfl (zaa rfl) (zap rfl ta3 rfl rfl rfl rfl rfl) ?_
      refine zab rfl rfl (zaa rfl) (does_callE rfl rfl hcall rfl) ?_
      refine zan ?_
      repeat (first | refine zag ?_ | refine zar ?_ | refine zad ?_ | refine zas ?_ | refine zac ?_)
      refine zaf ?_
      refine zab rfl rfl (zaa rfl) (zb2 rfl rfl rfl (IntWalk.i64_in _ (by omega))) ?_
      refine zab rfl rfl (zaa rfl) (mv_s (.inl rfl) rfl) ?_
      refine zan ?_
      repeat (first | refine zag ?_ | refine zar ?_ | refine zad ?_ | refine zas ?_ | refine zac ?_)
      exact ⟨k + 1, by omega, by omega, zck [0, 1, 7, 8, 9, 5, 6] (by decide) ⟨⟨_, rfl, obRn_agg (.cons (.own _ _ _ _ _ rfl rfl) (.cons (.own _ _ _ _ _ rfl rfl) (.cons (.own _ _ _ _ _ rfl rfl) (.cons (.own _ _ _ _ _ rfl rfl) .nil))))⟩, ⟨_, rfl, .rowE (by repeat' (first | exact Lo.s _ | exact zaj | exact zbn | refine zae ?_ ?_ | refine zbe ?_ ?_ | refine zak ?_ | refine zbo ?_ | refine Lo.cells ?_ | refine Lo.agg _ ?_ | refine Lo.sl _ ?_ | intro _)) rfl⟩, ⟨_, rfl, .rowE (by repeat' (first | exact Lo.s _ | exact zaj | exact zbn | refine zae ?_ ?_ | refine zbe ?_ ?_ | refine zak ?_ | refine zbo ?_ | refine Lo.cells ?_ | refine Lo.agg _ ?_ | refine Lo.sl _ ?_ | intro _)) rfl⟩, ⟨_, rfl, .rowE (by repeat' (first | exact Lo.s _ | exact zaj | exact zbn | refine zae ?_ ?_ | refine zbe ?_ ?_ | refine zak ?_ | refine zbo ?_ | refine Lo.cells ?_ | refine Lo.agg _ ?_ | refine Lo.sl _ ?_ | intro _)) rfl⟩, ⟨_, rfl, .rowE (by repeat' (first | exact Lo.s _ | exact zaj | exact zbn | refine zae ?_ ?_ | refine zbe ?_ ?_ | refine zak ?_ | refine zbo ?_ | refine Lo.cells ?_ | refine Lo.agg _ ?_ | refine Lo.sl _ ?_ | intro _)) rfl⟩, ⟨_, rfl, .rowE zP_lo rfl⟩, ⟨_, rfl, .rowE (by repeat' (first | exact Lo.s _ | exact zaj | exact zbn | refine zae ?_ ?_ | refine zbe ?_ ?_ | refine zak ?_ | refine zbo ?_ | refine Lo.cells ?_ | refine Lo.agg _ ?_ | refine Lo.sl _ ?_ | intro _)) rfl⟩, trivial⟩ ⟨.lo _ (by repeat' (first | exact Lo.s _ | exact zaj | refine zae ?_ ?_ | refine zak ?_ | refine Lo.cells ?_ | refine Lo.agg _ ?_ | refine Lo.ref _ ?_ | refine Lo.tup _ ?_ | refine Lo.fn _ _ ?_ | refine Lo.sl _ ?_ | intro _)), .ptr 5 5 4 0 0 rfl, .ptr 0 0 4 0 0 rfl, .own 6 6 1 _ _ rfl rfl, .fn _ _ _ rfl (RnL.cons (.ptr 0 0 4 0 0 rfl) (RnL.cons (.lo _ hlL) RnL.nil)).2, .lo _ (by repeat' (first | exact Lo.s _ | exact zaj | refine zae ?_ ?_ | refine zak ?_ | refine Lo.cells ?_ | refine Lo.agg _ ?_ | refine Lo.ref _ ?_ | refine Lo.tup _ ?_ | refine Lo.fn _ _ ?_ | refine Lo.sl _ ?_ | intro _)), .lo _ (by repeat' (first | exact Lo.s _ | exact zaj | refine zae ?_ ?_ | refine zak ?_ | refine Lo.cells ?_ | refine Lo.agg _ ?_ | refine Lo.ref _ ?_ | refine Lo.tup _ ?_ | refine Lo.fn _ _ ?_ | refine Lo.sl _ ?_ | intro _)), .lo _ (by repeat' (first | exact Lo.s _ | exact zaj | refine zae ?_ ?_ | refine zak ?_ | refine Lo.cells ?_ | refine Lo.agg _ ?_ | refine Lo.ref _ ?_ | refine Lo.tup _ ?_ | refine Lo.fn _ _ ?_ | refine Lo.sl _ ?_ | intro _)), trivial⟩⟩
    · rw [if_neg h68, List.append_nil] at hT
      subst hT
      refine zaf ?_
      refine zab rfl rfl (zaa rfl) (zb2 rfl rfl rfl (IntWalk.i64_in _ (by omega))) ?_
      refine zab rfl rfl (zaa rfl) (mv_s (.inl rfl) rfl) ?_
      refine zan ?_
      repeat (first | refine zag ?_ | refine zar ?_ | refine zad ?_ | refine zas ?_ | refine zac ?_)
      exact ⟨k + 1, by omega, by omega, zck [0, 1, 2, 3, 4, 5, 6] (by decide) ⟨⟨_, rfl, obRn_agg (.cons (.own _ _ _ _ _ rfl rfl) (.cons (.own _ _ _ _ _ rfl rfl) (.cons (.own _ _ _ _ _ rfl rfl) (.cons (.own _ _ _ _ _ rfl rfl) .nil))))⟩, ⟨_, rfl, .rowE (by repeat' (first | exact Lo.s _ | exact zaj | exact zbn | refine zae ?_ ?_ | refine zbe ?_ ?_ | refine zak ?_ | refine zbo ?_ | refine Lo.cells ?_ | refine Lo.agg _ ?_ | refine Lo.sl _ ?_ | intro _)) rfl⟩, ⟨_, rfl, .rowE (by repeat' (first | exact Lo.s _ | exact zaj | exact zbn | refine zae ?_ ?_ | refine zbe ?_ ?_ | refine zak ?_ | refine zbo ?_ | refine Lo.cells ?_ | refine Lo.agg _ ?_ | refine Lo.sl _ ?_ | intro _)) rfl⟩, ⟨_, rfl, .rowE (by repeat' (first | exact Lo.s _ | exact zaj | exact zbn | refine zae ?_ ?_ | refine zbe ?_ ?_ | refine zak ?_ | refine zbo ?_ | refine Lo.cells ?_ | refine Lo.agg _ ?_ | refine Lo.sl _ ?_ | intro _)) rfl⟩, ⟨_, rfl, .rowE (by repeat' (first | exact Lo.s _ | exact zaj | exact zbn | refine zae ?_ ?_ | refine zbe ?_ ?_ | refine zak ?_ | refine zbo ?_ | refine Lo.cells ?_ | refine Lo.agg _ ?_ | refine Lo.sl _ ?_ | intro _)) rfl⟩, ⟨_, rfl, .rowE zP_lo rfl⟩, ⟨_, rfl, .rowE (by repeat' (first | exact Lo.s _ | exact zaj | exact zbn | refine zae ?_ ?_ | refine zbe ?_ ?_ | refine zak ?_ | refine zbo ?_ | refine Lo.cells ?_ | refine Lo.agg _ ?_ | refine Lo.sl _ ?_ | intro _)) rfl⟩, trivial⟩ ⟨.lo _ (by repeat' (first | exact Lo.s _ | exact zaj | refine zae ?_ ?_ | refine zak ?_ | refine Lo.cells ?_ | refine Lo.agg _ ?_ | refine Lo.ref _ ?_ | refine Lo.tup _ ?_ | refine Lo.fn _ _ ?_ | refine Lo.sl _ ?_ | intro _)), .ptr 5 5 4 0 0 rfl, .ptr 0 0 4 0 0 rfl, .own 6 6 1 _ _ rfl rfl, .fn _ _ _ rfl (RnL.cons (.ptr 0 0 4 0 0 rfl) (RnL.cons (.lo _ hlL) RnL.nil)).2, .lo _ (by repeat' (first | exact Lo.s _ | exact zaj | refine zae ?_ ?_ | refine zak ?_ | refine Lo.cells ?_ | refine Lo.agg _ ?_ | refine Lo.ref _ ?_ | refine Lo.tup _ ?_ | refine Lo.fn _ _ ?_ | refine Lo.sl _ ?_ | intro _)), .lo _ (by repeat' (first | exact Lo.s _ | exact zaj | refine zae ?_ ?_ | refine zak ?_ | refine Lo.cells ?_ | refine Lo.agg _ ?_ | refine Lo.ref _ ?_ | refine Lo.tup _ ?_ | refine Lo.fn _ _ ?_ | refine Lo.sl _ ?_ | intro _)), .lo _ (by repeat' (first | exact Lo.s _ | exact zaj | refine zae ?_ ?_ | refine zak ?_ | refine Lo.cells ?_ | refine Lo.agg _ ?_ | refine Lo.ref _ ?_ | refine Lo.tup _ ?_ | refine Lo.fn _ _ ?_ | refine Lo.sl _ ?_ | intro _)), trivial⟩⟩
  · have e : k = l.length := by omega
    subst e
    (refine zcl ?_; repeat (first | refine ath_x ?_ | refine zci ?_ | refine zcb rfl ?_ | refine zas ?_ | refine zar ?_ | refine zag ?_ | refine zad ?_ | refine zac ?_))
    refine zaf ?_
    first | refine zab rfl rfl (zaa rfl) (za0 rfl ta94 ti94 rfl rfl) ?_ | refine zab rfl rfl (zaa rfl) (za9 rfl ta94 ti94 rfl rfl rfl rfl rfl) ?_ | refine zab rfl rfl (zaa rfl) (zaz rfl ta94 ti94 rfl (Nat.le_of_ble_eq_true rfl)) ?_ | refine zab rfl rfl (zaa rfl) (zba rfl ta94 ti94 rfl rfl rfl rfl (Nat.le_of_ble_eq_true rfl)) ?_
    first | refine zab rfl rfl (zaa rfl) (za6 (.inl rfl) rfl) ?_ | refine zab rfl rfl (zaa rfl) (zbg (.inl rfl) rfl) ?_ | refine zab rfl rfl (zaa rfl) (mv_s (.inl rfl) rfl) ?_ | refine zab rfl rfl (zaa rfl) (za7 (.inl rfl) rfl) ?_
    refine zb0 rfl (zaa rfl) (zbd rfl ti94 rfl rfl rfl rfl rfl rfl (by decide) (by decide)) ?_
    first | refine zab rfl rfl (zaa rfl) (za6 (.inr rfl) rfl) ?_ | refine zab rfl rfl (zaa rfl) (zbg (.inr rfl) rfl) ?_ | refine zab rfl rfl (zaa rfl) (mv_s (.inr rfl) rfl) ?_ | refine zab rfl rfl (zaa rfl) (za7 (.inr rfl) rfl) ?_
    refine zan ?_
    repeat (first | refine zag ?_ | refine zar ?_ | refine zad ?_ | refine zas ?_ | refine zac ?_)
    (refine zbs ?_; repeat (first | refine zb8 ?_ | refine zb9 ?_))
    refine post_cs (N := 0) (.inr rfl) ta94 ti94 rfl rfl rfl rfl rfl rfl ?_ ?_
    · exact .agg _ _ rfl (zdm.cons (.own _ _ _ _ _ rfl rfl rfl) (zdm.cons (.own _ _ _ _ _ rfl rfl rfl) (zdm.cons (.own _ _ _ _ _ rfl rfl rfl) (zdm.cons (.own _ _ _ _ _ rfl rfl rfl) zdm.nil)))).2
    · exact .own _ _ _ _ _ rfl rfl (by simp)
end Go.Proofs.YtmoipmnhgdmkpaaGreat.Aw
end
section
namespace Go.Proofs.YtmoipmnhgdmkpaaGreat.Aw
set_option linter.unusedSimpArgs false
set_option linter.unusedVariables false
open Go Go.RowKit

/-- a row of the call's own as a finished slice -/
def fin1 (s : Sto) : AV → AV
  | .own id sz n => match s.get id with
    | none => .own id sz n
    | some ob => match rowOf ob with
      | some (sz', cs) => bif Nat.beq sz' sz && Nat.beq n cs.length then .sl cs else .own id sz n
      | none => .own id sz n
  | .emp => .sl []
  | .s (.slice none 0 0) => .sl []
  | x => x
def fin2 (s : Sto) : AV → AV
  | .tup l => .tup (l.map (fin1 s))
  | .agg l => .agg (l.map (fin1 s))
  | x => fin1 s x
theorem fin1_ok (s : Sto) (x : AV) : Fini s.abs x (fin1 s x) := by
  unfold fin1
  split
  · rename_i id sz n
    split
    · exact .refl _
    · rename_i ob hob
      split
      · rename_i sz' cs hr
        generalize hb : (Nat.beq sz' sz && Nat.beq n cs.length) = b
        cases b with
        | false => exact .refl _
        | true =>
          simp only [Bool.and_eq_true] at hb
          obtain rfl := Nat.eq_of_beq_eq_true hb.1
          exact .own id sz' n ob cs (sto_at hob) hr (Nat.eq_of_beq_eq_true hb.2)
      · exact .refl _
  · exact .emp
  · exact .nil
  · exact .refl _
theorem fin2_ok (s : Sto) (x : AV) : Fini s.abs x (fin2 s x) := by
  unfold fin2
  split
  · rename_i l
    exact .tup _ _ (by simp) (fun j x y hx hy => by
      rw [List.getElem?_map, hx] at hy
      cases hy
      exact fin1_ok s x)
  · rename_i l
    exact .agg _ _ (by simp) (fun j x y hx hy => by
      rw [List.getElem?_map, hx] at hy
      cases hy
      exact fin1_ok s x)
  · exact fin1_ok s x
end Go.Proofs.YtmoipmnhgdmkpaaGreat.Aw
end
section
namespace Go.Proofs.YtmoipmnhgdmkpaaGreat.Aw
set_option linter.unusedSimpArgs false
set_option linter.unusedVariables false
set_option linter.unusedSectionVars false
open Go Go.RowKit Go.Proofs
variable {P : Program} [IsP P]

def unIs : List AV → Option (List Int)
  | [] => some []
  | .s (.int .i64 n) :: l => match unIs l with
    | some r => some (n :: r)
    | none => none
  | _ :: _ => none
theorem unIs_of : ∀ {l : List AV} {r : List Int}, unIs l = some r → l = r.map eI
  | [], r, h => by cases h; rfl
  | x :: l, r, h => by
    unfold unIs at h
    split at h
    · rename_i e; cases e
    · rename_i n l' e
      cases e
      split at h
      · rename_i r' hr
        cases h
        rw [unIs_of hr]; rfl
      · cases h
    · cases h
def unSh : AV → Option Sft
  | .agg [.sl p, .s (.int .i64 c), .s (.int .i64 m)] => match unIs p with
    | some p => some ⟨p, c, m⟩
    | none => none
  | _ => none
theorem unSh_of {x : AV} {s : Sft} (h : unSh x = some s) : x = eSh s := by
  unfold unSh at h
  split at h
  · split at h
    · rename_i r hr
      cases h
      rw [unIs_of hr]; rfl
    · cases h
  · cases h
def unShs : List AV → Option (List Sft)
  | [] => some []
  | x :: l => match unSh x, unShs l with
    | some s, some r => some (s :: r)
    | _, _ => none
theorem unShs_of : ∀ {l : List AV} {r : List Sft}, unShs l = some r → l = r.map eSh
  | [], r, h => by cases h; rfl
  | x :: l, r, h => by
    unfold unShs at h
    split at h
    · rename_i s r' h1 h2
      cases h
      rw [unSh_of h1, unShs_of h2]; rfl
    · cases h
def orcFirst (l : List AV) : Option AV := match unShs l with
  | some s => bif Nat.ble s.length 12 then some (eBx (zeroI s.length) (mostL s)) else none
  | none => none
def orcHalves (lo hi : List AV) (k t : Int) : Option AV := match unIs lo, unIs hi with
  | some lo, some hi => bif decide (0 ≤ k) && Nat.blt k.toNat lo.length && Nat.beq hi.length lo.length && Nat.ble lo.length 12 && decide (-1000 ≤ t) && decide (t ≤ 1000) then some (.tup [eBx lo (setI hi k.toNat t), eBx (setI lo k.toNat (t + 1)) hi]) else none
  | _, _ => none
def orcProgram (d l lo hi : List AV) : Option AV := match unIs d, unShs l, unIs lo, unIs hi with
  | some d, some l, some lo, some hi => bif zde d l && Nat.beq lo.length l.length && Nat.beq hi.length l.length then some (.tup [eP (prgE d l lo hi), eL eI (pe1 d d.length)]) else none
  | _, _, _, _ => none
def orcS : Orc := fun f args => match args with
  | [.emp] => bif Nat.beq f 39 then some .emp else none
  | [.sl l] => bif Nat.beq f 18 then orcFirst l else none
  | [.agg [.sl lo, .sl hi], .s (.int .i64 k), .s (.int .i64 t)] => bif Nat.beq f 32 then orcHalves lo hi k t else none
  | [.sl d, .sl l, .agg [.sl lo, .sl hi]] => bif Nat.beq f 55 then orcProgram d l lo hi else none
  | _ => none
theorem orcS_ok : OrcOk P orcS := by
  intro f args r h
  unfold orcS at h
  split at h
  · cases hb : Nat.beq f 39 with
    | false => rw [hb] at h; cases h
    | true => rw [hb, cond_true] at h; cases h; rw [Nat.eq_of_beq_eq_true hb]; exact cloneE_pf
  · rename_i l
    cases hb : Nat.beq f 18 with
    | false => rw [hb] at h; cases h
    | true =>
      rw [hb, cond_true] at h
      unfold orcFirst at h
      split at h
      · rename_i s hs
        cases hc : Nat.ble s.length 12 with
        | false => rw [hc] at h; cases h
        | true =>
          rw [hc] at h; cases h
          rw [Nat.eq_of_beq_eq_true hb, unShs_of hs]
          exact first_pf s (Nat.le_of_ble_eq_true hc)
      · cases h
  · rename_i lo hi k t
    cases hb : Nat.beq f 32 with
    | false => rw [hb] at h; cases h
    | true =>
      rw [hb, cond_true] at h
      unfold orcHalves at h
      split at h
      · rename_i lo' hi' h1 h2
        cases hc : (decide (0 ≤ k) && Nat.blt k.toNat lo'.length && Nat.beq hi'.length lo'.length && Nat.ble lo'.length 12 && decide (-1000 ≤ t) && decide (t ≤ 1000)) with
        | false => rw [hc] at h; cases h
        | true =>
          rw [hc] at h; cases h
          simp only [Bool.and_eq_true, decide_eq_true_eq] at hc
          obtain ⟨⟨⟨⟨⟨c1, c2⟩, c3⟩, c4⟩, c5⟩, c6⟩ := hc
          rw [Nat.eq_of_beq_eq_true hb, unIs_of h1, unIs_of h2]
          have := halves_pf (P := P) lo' hi' k.toNat t (by simpa [Nat.blt_eq] using c2) (Nat.eq_of_beq_eq_true c3) (Nat.le_of_ble_eq_true c4) c5 c6
          rw [Int.toNat_of_nonneg c1] at this
          exact this
      · cases h
  · rename_i d l lo hi
    cases hb : Nat.beq f 55 with
    | false => rw [hb] at h; cases h
    | true =>
      rw [hb, cond_true] at h
      unfold orcProgram at h
      split at h
      · rename_i d' l' lo' hi' h1 h2 h3 h4
        cases hc : (zde d' l' && Nat.beq lo'.length l'.length && Nat.beq hi'.length l'.length) with
        | false => rw [hc] at h; cases h
        | true =>
          rw [hc] at h; cases h
          simp only [Bool.and_eq_true] at hc
          rw [Nat.eq_of_beq_eq_true hb, unIs_of h1, unShs_of h2, unIs_of h3, unIs_of h4]
          exact program_pf d' l' lo' hi' hc.1.1 (Nat.eq_of_beq_eq_true hc.1.2) (Nat.eq_of_beq_eq_true hc.2)
      · cases h
  · cases h
def orcG : Orc := fun f args => match orcS f args with
  | some r => some r
  | none => orcF f args
theorem orcG_ok : OrcOk P orcG := by
  intro f args r h
  unfold orcG at h
  split at h
  · rename_i r' hr
    cases h
    exact orcS_ok f args _ hr
  · exact orcF_ok f args r h
def fin3 (s : Sto) : AV → AV
  | .tup l => .tup (l.map (fin2 s))
  | x => fin2 s x
theorem fin3_ok (s : Sto) (x : AV) : Fini s.abs x (fin3 s x) := by
  unfold fin3
  split
  · rename_i l
    exact .tup _ _ (by simp) (fun j x y hx hy => by
      rw [List.getElem?_map, hx] at hy
      cases hy
      exact fin2_ok s x)
  · exact fin2_ok s x
def chkPure3 (P : Program) (orc : Orc) (n : Nat) (f : FuncId) (args : List AV) (r : AV) : Bool := match evCall P orc n f args Sto.nil with
  | some (x, s, _) => avEq (fin3 s x) r && loB 0 r && losB 0 args
  | none => false
theorem chkPure3_ok {P : Program} {orc : Orc} (hm : P.follows .mixedOrders = true) (ho : OrcOk P orc) {n : Nat} {f : FuncId} {args : List AV} {r : AV} (h : chkPure3 P orc n f args r = true) : Pure P f args r := by
  unfold chkPure3 at h
  split at h
  · rename_i x s W he
    simp only [Bool.and_eq_true] at h
    obtain ⟨⟨h1, h2⟩, h3⟩ := h
    have hf := fin3_ok s x
    rw [avEq_of _ _ h1] at hf
    have hc := (evCall_ok hm ho n f args _ _ _ _ he).1
    refine ⟨hc.ent, loB_of r h2, fun G vargs hst hsz hrep => ?_⟩
    let G0 : Cx := { base := G.w.heap.size, w0 := G.w, w := G.w, mu := fun _ => none, St := G.St }
    have hrel : Rel G0 Sto.nil.abs := ⟨Below.refl _ _, Nat.le_refl _, hst, by simp [Sto.abs_nil], by rintro i j b ⟨_, _, h⟩; simp [Sto.abs_nil] at h, fun _ _ => rfl⟩
    have hlo := losB_of args h3
    refine (hc.call G0 vargs hrel hsz (fun j v x hv hx => (hrep j v x hv hx).low (hlo x (List.mem_of_getElem? hx)) (fun _ _ h => h) (fun _ _ _ => rfl) (fun id y h => by omega) (fun h => by omega))).mono ?_
    rintro e w' ⟨v, G', rfl, rfl, he', hr', hv⟩
    have hbase : G'.base = G.w.heap.size := he'.base
    have hbel : Below G.w.heap.size G.w G'.w := by have := hr'.below; rw [hbase, he'.w0] at this; exact this
    have hfin := fin_rep (B := G.w.heap.size) hr' (by omega) hf hv
    refine ⟨v, G'.all G.w.heap.size, rfl, rfl, hbel, fun b o h => .inl (he'.st b o h), fun b o h => ?_, fun b o h => ?_, hfin⟩
    · rcases h with h | h
      · exact he'.stN b o h
      · exact .inr h.1
    · rcases h with h | h
      · exact hr'.st b o h
      · exact h.2
  · cases h
end Go.Proofs.YtmoipmnhgdmkpaaGreat.Aw
end
