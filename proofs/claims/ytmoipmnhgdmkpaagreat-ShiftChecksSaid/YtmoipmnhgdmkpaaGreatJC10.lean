/-
  Texts joined: ShF, ShG. Conditions: none.
-/
import Derived.Test.YtmoipmnhgdmkpaaGreatJC9
section
namespace Go.Proofs.YtmoipmnhgdmkpaaGreat.Aw
set_option linter.unusedSimpArgs false
set_option linter.unusedVariables false
set_option linter.unusedSectionVars false
open Go.RowKit Go.Proofs
variable {P : Program} [IsP P]

theorem whole_pf (n : Int) : Pure P 48 [eI n] (eF (Fr.of n)) := by
  refine zc4 (by rw [IsP.eq (P := P)]; exact Tryz.func48) rfl rfl rfl rfl rfl (by repeat' (first | exact Lo.s _ | exact zaj | refine zae ?_ ?_ | refine zak ?_ | refine Lo.cells ?_ | refine Lo.agg _ ?_ | refine Lo.ref _ ?_ | refine Lo.tup _ ?_ | refine Lo.fn _ _ ?_ | refine Lo.sl _ ?_ | intro _)) (by repeat' (first | exact Lo.s _ | exact zaj | refine zae ?_ ?_ | refine zak ?_ | refine Lo.cells ?_ | refine Lo.agg _ ?_ | refine Lo.ref _ ?_ | refine Lo.tup _ ?_ | refine Lo.fn _ _ ?_ | refine Lo.sl _ ?_ | intro _)) (by simp only [argF]; rfl) ?_
  repeat (first | refine zag ?_ | refine zar ?_ | refine zad ?_ | refine zas ?_ | refine zac ?_)
  refine zaf ?_
  refine zab rfl rfl (zaa rfl) (zbr rfl ti41 rfl rfl) ?_
  refine zan ?_
  repeat (first | refine zag ?_ | refine zar ?_ | refine zad ?_ | refine zas ?_ | refine zac ?_)
  refine zaf ?_
  refine zab rfl rfl (zaa rfl) (mv_s (.inl rfl) rfl) ?_
  refine zab rfl rfl (zaa rfl) (zb7 rfl ti41 tp41 rfl rfl) ?_
  refine zb0 rfl (zaa rfl) (zbd rfl ti41 rfl rfl rfl rfl rfl rfl (by decide) (by decide)) ?_
  refine zan ?_
  repeat (first | refine zag ?_ | refine zar ?_ | refine zad ?_ | refine zas ?_ | refine zac ?_)
  (refine zbs ?_; repeat (first | refine zb8 ?_ | refine zb9 ?_))
  exact post_c1 (N := 0) (.inr rfl) ta41 ti41 rfl rfl rfl rfl rfl (.refl _)
/-- a price less the multipliers of the periods -/
def prG (y : List Fr) (pd : List Int) : Nat → Nat → Fr → FE
  | 0, _, a => ⟨a.n, a.d, 0⟩
  | n + 1, k, a => if (subE a (gti y (gti pd k).toNat)).e ≠ 0 then FE.err (subE a (gti y (gti pd k).toNat)).e else prG y pd n (k + 1) ⟨(subE a (gti y (gti pd k).toNat)).n, (subE a (gti y (gti pd k).toNat)).d⟩
def prE (y : List Fr) (s : Sft) : FE := prG y s.pd s.pd.length 0 (Fr.of s.cost)
def bdG (l : List Sft) (lo hi : List Int) (y : List Fr) : Nat → Nat → Fr → Fr × Bool
  | 0, _, s => (s, true)
  | n + 1, i, s => if (prE y (gti l i)).e ≠ 0 then (⟨0, 0⟩, false) else
    if (mulE ⟨(prE y (gti l i)).n, (prE y (gti l i)).d⟩ (Fr.of (if (prE y (gti l i)).n < 0 then gti hi i else gti lo i))).e ≠ 0 then (⟨0, 0⟩, false) else
    if (addE s ⟨(mulE ⟨(prE y (gti l i)).n, (prE y (gti l i)).d⟩ (Fr.of (if (prE y (gti l i)).n < 0 then gti hi i else gti lo i))).n, (mulE ⟨(prE y (gti l i)).n, (prE y (gti l i)).d⟩ (Fr.of (if (prE y (gti l i)).n < 0 then gti hi i else gti lo i))).d⟩).e ≠ 0 then (⟨0, 0⟩, false) else
    bdG l lo hi y n (i + 1) ⟨(addE s ⟨(mulE ⟨(prE y (gti l i)).n, (prE y (gti l i)).d⟩ (Fr.of (if (prE y (gti l i)).n < 0 then gti hi i else gti lo i))).n, (mulE ⟨(prE y (gti l i)).n, (prE y (gti l i)).d⟩ (Fr.of (if (prE y (gti l i)).n < 0 then gti hi i else gti lo i))).d⟩).n, (addE s ⟨(mulE ⟨(prE y (gti l i)).n, (prE y (gti l i)).d⟩ (Fr.of (if (prE y (gti l i)).n < 0 then gti hi i else gti lo i))).n, (mulE ⟨(prE y (gti l i)).n, (prE y (gti l i)).d⟩ (Fr.of (if (prE y (gti l i)).n < 0 then gti hi i else gti lo i))).d⟩).d⟩
def bdE (d : List Int) (l : List Sft) (lo hi : List Int) (y : List Fr) : Fr × Bool := if (dotE (d.map Fr.of) y).e ≠ 0 then (⟨0, 0⟩, false) else bdG l lo hi y l.length 0 ⟨(dotE (d.map Fr.of) y).n, (dotE (d.map Fr.of) y).d⟩
def eFB (r : Fr × Bool) : AV := .tup [eF r.1, eB r.2]
theorem ofL_gti {d : List Int} {k : Nat} (h : k < d.length) : gti (d.map Fr.of) k = Fr.of (gti d k) := by
  have h1 : (d.map Fr.of)[k]? = some (Fr.of (gti d k)) := by rw [List.getElem?_map, zdj h]; rfl
  unfold gti at *
  rw [h1]; rfl
set_option maxHeartbeats 4000000 in
theorem bound_pf (d : List Int) (l : List Sft) (lo hi : List Int) (y : List Fr) (hv : zde d l = true) (hy : y.length = d.length) (hlo : lo.length = l.length) (hhi : hi.length = l.length) : Pure P 46 [eL eI d, eL eSh l, eBx lo hi, eL eF y] (eFB (bdE d l lo hi y)) := by
  obtain ⟨⟨q1, q2, q3⟩, qd, ql⟩ := zcz hv
  have HI : bdE d l lo hi y = if (dotE (d.map Fr.of) y).e ≠ 0 then (⟨0, 0⟩, false) else bdG l lo hi y l.length 0 ⟨(dotE (d.map Fr.of) y).n, (dotE (d.map Fr.of) y).d⟩ := rfl
  generalize bdE d l lo hi y = R at HI ⊢
  refine zc4 (by rw [IsP.eq (P := P)]; exact Tryz.func46) rfl rfl rfl rfl rfl (by repeat' (first | exact Lo.s _ | exact zaj | refine zae ?_ ?_ | refine zak ?_ | refine Lo.cells ?_ | refine Lo.agg _ ?_ | refine Lo.ref _ ?_ | refine Lo.tup _ ?_ | refine Lo.fn _ _ ?_ | refine Lo.sl _ ?_ | intro _)) (by repeat' (first | exact Lo.s _ | exact zaj | refine zae ?_ ?_ | refine zak ?_ | refine Lo.cells ?_ | refine Lo.agg _ ?_ | refine Lo.ref _ ?_ | refine Lo.tup _ ?_ | refine Lo.fn _ _ ?_ | refine Lo.sl _ ?_ | intro _)) (by simp only [argF]; rfl) ?_
  repeat (first | refine zag ?_ | refine zar ?_ | refine zad ?_ | refine zas ?_ | refine zac ?_)
  refine zaf ?_
  refine zab rfl rfl (zaa rfl) (zcv rfl rfl rfl rfl) ?_
  refine zbq (zcd (id := 0) rfl) (zbq (zcy (d := 6) rfl rfl rfl) ?_)
  refine zab rfl rfl (zaa rfl) (zbr rfl ti41 rfl rfl) ?_
  refine zab rfl rfl (zaa rfl) (mv_s (.inr rfl) rfl) ?_
  refine zan ?_
  repeat (first | refine zag ?_ | refine zar ?_ | refine zad ?_ | refine zas ?_ | refine zac ?_)
  refine zaf ?_
  first | refine zab rfl rfl (zaa rfl) (za6 (.inr rfl) rfl) ?_ | refine zab rfl rfl (zaa rfl) (zbg (.inr rfl) rfl) ?_ | refine zab rfl rfl (zaa rfl) (mv_s (.inr rfl) rfl) ?_ | refine zab rfl rfl (zaa rfl) (za7 (.inr rfl) rfl) ?_
  refine zan ?_
  repeat (first | refine zag ?_ | refine zar ?_ | refine zad ?_ | refine zas ?_ | refine zac ?_)
  refine zaf ?_
  first | refine zab rfl rfl (zaa rfl) (za6 (.inl rfl) rfl) ?_ | refine zab rfl rfl (zaa rfl) (zbg (.inl rfl) rfl) ?_ | refine zab rfl rfl (zaa rfl) (mv_s (.inl rfl) rfl) ?_ | refine zab rfl rfl (zaa rfl) (za7 (.inl rfl) rfl) ?_
  first | refine zab rfl rfl (zaa rfl) (za4 rfl ts22 rfl) ?_ | refine zab rfl rfl (zaa rfl) (za8 rfl ts22 rfl) ?_ | refine zab rfl rfl (zaa rfl) (za2 rfl ts22 rfl) ?_ | refine zab rfl rfl (zaa rfl) (zbc rfl ts22 rfl) ?_ | refine zab rfl rfl (zaa rfl) (za3 rfl ts22 rfl) ?_
  refine zab rfl rfl (zaa rfl) (mv_s (.inl rfl) rfl) ?_
  refine zan ?_
  repeat (first | refine zag ?_ | refine zar ?_ | refine zad ?_ | refine zas ?_ | refine zac ?_)
  refine zca (wk_own (d := 10) 2 rfl (.inr rfl)) ?_
  refine zcc (S := Nat) (fun k => [(1, eL eSh l), (3, eL eF y), (6, .ref (eBx lo hi).cells), (8, .ptr 0 2 0 0), (9, eB false), (23, eL eI d), (24, eI d.length), (25, eI k), (10, .own 1 2 k)]) (fun k => [.row 2 [.agg [eI 0, eI 0]], .row 2 (((d.map Fr.of).take k).map eF)]) (fun k => k ≤ d.length) (fun k => d.length - k) 0 (zck [1, 2] (by decide) ⟨⟨_, rfl, .rowE (by repeat' (first | exact Lo.s _ | exact zaj | exact zbn | refine zae ?_ ?_ | refine zbe ?_ ?_ | refine zak ?_ | refine zbo ?_ | refine Lo.cells ?_ | refine Lo.agg _ ?_ | refine Lo.sl _ ?_ | intro _)) rfl⟩, ⟨_, rfl, .rowE (by repeat' (first | exact Lo.s _ | exact zaj | exact zbn | refine zae ?_ ?_ | refine zbe ?_ ?_ | refine zak ?_ | refine zbo ?_ | refine Lo.cells ?_ | refine Lo.agg _ ?_ | refine Lo.sl _ ?_ | intro _)) rfl⟩, trivial⟩ ⟨.lo _ (by repeat' (first | exact Lo.s _ | exact zaj | refine zae ?_ ?_ | refine zak ?_ | refine Lo.cells ?_ | refine Lo.agg _ ?_ | refine Lo.ref _ ?_ | refine Lo.tup _ ?_ | refine Lo.fn _ _ ?_ | refine Lo.sl _ ?_ | intro _)), .lo _ (by repeat' (first | exact Lo.s _ | exact zaj | refine zae ?_ ?_ | refine zak ?_ | refine Lo.cells ?_ | refine Lo.agg _ ?_ | refine Lo.ref _ ?_ | refine Lo.tup _ ?_ | refine Lo.fn _ _ ?_ | refine Lo.sl _ ?_ | intro _)), .lo _ (by repeat' (first | exact Lo.s _ | exact zaj | refine zae ?_ ?_ | refine zak ?_ | refine Lo.cells ?_ | refine Lo.agg _ ?_ | refine Lo.ref _ ?_ | refine Lo.tup _ ?_ | refine Lo.fn _ _ ?_ | refine Lo.sl _ ?_ | intro _)), .ptr 1 0 2 0 0 rfl, .lo _ (by repeat' (first | exact Lo.s _ | exact zaj | refine zae ?_ ?_ | refine zak ?_ | refine Lo.cells ?_ | refine Lo.agg _ ?_ | refine Lo.ref _ ?_ | refine Lo.tup _ ?_ | refine Lo.fn _ _ ?_ | refine Lo.sl _ ?_ | intro _)), .lo _ (by repeat' (first | exact Lo.s _ | exact zaj | refine zae ?_ ?_ | refine zak ?_ | refine Lo.cells ?_ | refine Lo.agg _ ?_ | refine Lo.ref _ ?_ | refine Lo.tup _ ?_ | refine Lo.fn _ _ ?_ | refine Lo.sl _ ?_ | intro _)), .lo _ (by repeat' (first | exact Lo.s _ | exact zaj | refine zae ?_ ?_ | refine zak ?_ | refine Lo.cells ?_ | refine Lo.agg _ ?_ | refine Lo.ref _ ?_ | refine Lo.tup _ ?_ | refine Lo.fn _ _ ?_ | refine Lo.sl _ ?_ | intro _)), .lo _ (by repeat' (first | exact Lo.s _ | exact zaj | refine zae ?_ ?_ | refine zak ?_ | refine Lo.cells ?_ | refine Lo.agg _ ?_ | refine Lo.ref _ ?_ | refine Lo.tup _ ?_ | refine Lo.fn _ _ ?_ | refine Lo.sl _ ?_ | intro _)), .own 2 1 2 _ _ rfl rfl, trivial⟩) (Nat.zero_le _) (fun k hk => ?_)
  have hol : (d.map Fr.of).length = d.length := by simp
  repeat (first | refine zag ?_ | refine zar ?_ | refine zad ?_ | refine zas ?_ | refine zac ?_)
  all_goals refine zaf ?_
  all_goals (first | refine zbh rfl rfl (zaa rfl) (zbb rfl rfl rfl) (fun h26 => ?_) (fun h26 => ?_) | refine zbi rfl rfl (zaa rfl) (zbb rfl rfl rfl) (fun h26 => ?_) (fun h26 => ?_))
  all_goals refine zan ?_
  all_goals (repeat (first | refine zag ?_ | refine zar ?_ | refine zad ?_ | refine zas ?_ | refine zac ?_))
  all_goals (first | refine zbp rfl ?_ | refine zbm rfl ?_)
  all_goals (repeat (first | refine zag ?_ | refine zar ?_ | refine zad ?_ | refine zas ?_ | refine zac ?_))
  · have hlt : k < d.length := by omega
    have htk : (((d.map Fr.of).take k).map eF).length = k := by simp; omega
    have hrow : ((d.map Fr.of).take (k + 1)).map eF = ((d.map Fr.of).take k).map eF ++ [eF (Fr.of (gti d k))] := by
      rw [take_snoc (by omega), List.map_append, ofL_gti hlt]; rfl
    refine zaf ?_
    first | refine zab rfl rfl (zaa rfl) (za1 rfl ts22 ti3 rfl rfl rfl (zb5 (by omega)) rfl) ?_ | refine zab rfl rfl (zaa rfl) (zay rfl ts22 ti3 rfl rfl rfl (by omega)) ?_
    first | refine zab rfl rfl (zaa rfl) (zam rfl ta3 rfl) ?_ | refine zab rfl rfl (zaa rfl) (zap rfl ta3 rfl rfl rfl rfl rfl) ?_
    refine zab rfl rfl (zaa rfl) (mv_s (.inr rfl) rfl) ?_
    refine zan ?_
    repeat (first | refine zag ?_ | refine zar ?_ | refine zad ?_ | refine zas ?_ | refine zac ?_)
    refine zaf ?_
    first | refine zab rfl rfl (zaa rfl) (za6 (.inl rfl) rfl) ?_ | refine zab rfl rfl (zaa rfl) (zbg (.inl rfl) rfl) ?_ | refine zab rfl rfl (zaa rfl) (mv_s (.inl rfl) rfl) ?_ | refine zab rfl rfl (zaa rfl) (za7 (.inl rfl) rfl) ?_
    refine zab rfl rfl (zaa rfl) (mv_s (.inl rfl) rfl) ?_
    refine zab rfl rfl (zaa rfl) (za5 rfl rfl ((whole_pf _)) (zau rfl zbj)) ?_
    first | refine zab rfl rfl (zaa rfl) (lit1_sF rfl ts27 ti41 rfl rfl rfl rfl) ?_ | refine zab rfl rfl (zaa rfl) (lit1_slF rfl ts27 ti41 rfl rfl rfl rfl (by repeat' (first | exact Lo.s _ | exact zaj | refine zae ?_ ?_ | refine zak ?_ | refine Lo.cells ?_ | refine Lo.agg _ ?_ | refine Lo.ref _ ?_ | refine Lo.tup _ ?_ | refine Lo.fn _ _ ?_ | refine Lo.sl _ ?_ | intro _))) ?_ | refine zab rfl rfl (zaa rfl) (zdl rfl ts27 ti41 rfl rfl (by decide) (by decide) rfl rfl rfl (by repeat' (first | exact Lo.s _ | exact zaj | refine zae ?_ ?_ | refine zak ?_ | refine Lo.cells ?_ | refine Lo.agg _ ?_ | refine Lo.ref _ ?_ | refine Lo.tup _ ?_ | refine Lo.fn _ _ ?_ | refine Lo.sl _ ?_ | intro _))) ?_
    first | refine zab rfl rfl (zaa rfl) (zcx rfl ts27 ti41 rfl (by decide) rfl rfl (by first | rfl | (simp; done) | (simp; omega)) rfl (by first | exact .own _ _ _ rfl rfl _ (by first | rfl | simp) | exact .emp | exact .nil | exact .sl _ (by first | simp; done | intro e he; simp at he; obtain ⟨_, _, rfl⟩ := he; rfl)) (by first | omega | (simp; omega) | (unfold maxLen; simp; omega)) (by first | omega | (simp; omega) | (unfold maxLen; simp; omega))) ?_ | refine zab rfl rfl (zaa rfl) (zb1 rfl ts27 ti41 rfl (by decide) rfl (.inl rfl) rfl (by first | exact .own _ _ _ rfl rfl _ (by first | rfl | simp) | exact .emp | exact .nil | exact .sl _ (by first | simp; done | intro e he; simp at he; obtain ⟨_, _, rfl⟩ := he; rfl)) (by first | omega | (simp; omega) | (unfold maxLen; simp; omega)) (by first | omega | (simp; omega) | (unfold maxLen; simp; omega))) ?_ | refine zab rfl rfl (zaa rfl) (zb1 rfl ts27 ti41 rfl (by decide) rfl (.inr rfl) rfl (by first | exact .own _ _ _ rfl rfl _ (by first | rfl | simp) | exact .emp | exact .nil | exact .sl _ (by first | simp; done | intro e he; simp at he; obtain ⟨_, _, rfl⟩ := he; rfl)) (by first | omega | (simp; omega) | (unfold maxLen; simp; omega)) (by first | omega | (simp; omega) | (unfold maxLen; simp; omega))) ?_
    first | refine zab rfl rfl (zaa rfl) (za6 (.inr rfl) rfl) ?_ | refine zab rfl rfl (zaa rfl) (zbg (.inr rfl) rfl) ?_ | refine zab rfl rfl (zaa rfl) (mv_s (.inr rfl) rfl) ?_ | refine zab rfl rfl (zaa rfl) (za7 (.inr rfl) rfl) ?_
    refine zan ?_
    repeat (first | refine zag ?_ | refine zar ?_ | refine zad ?_ | refine zas ?_ | refine zac ?_)
    refine zaf ?_
    refine zab rfl rfl (zaa rfl) (zb2 rfl rfl rfl (IntWalk.i64_in _ (by omega))) ?_
    refine zab rfl rfl (zaa rfl) (mv_s (.inl rfl) rfl) ?_
    refine zan ?_
    repeat (first | refine zag ?_ | refine zar ?_ | refine zad ?_ | refine zas ?_ | refine zac ?_)
    exact ⟨k + 1, by omega, by omega, zck [0, 2] (by decide) ⟨⟨_, rfl, .rowE (by repeat' (first | exact Lo.s _ | exact zaj | exact zbn | refine zae ?_ ?_ | refine zbe ?_ ?_ | refine zak ?_ | refine zbo ?_ | refine Lo.cells ?_ | refine Lo.agg _ ?_ | refine Lo.sl _ ?_ | intro _)) rfl⟩, ⟨_, rfl, .rowE (by repeat' (first | exact Lo.s _ | exact zaj | exact zbn | refine zae ?_ ?_ | refine zbe ?_ ?_ | refine zak ?_ | refine zbo ?_ | refine Lo.cells ?_ | refine Lo.agg _ ?_ | refine Lo.sl _ ?_ | intro _)) (Eq.trans (b := ((d.map Fr.of).take k).map eF ++ [eF (Fr.of (gti d k))]) rfl hrow.symm)⟩, trivial⟩ ⟨.lo _ (by repeat' (first | exact Lo.s _ | exact zaj | refine zae ?_ ?_ | refine zak ?_ | refine Lo.cells ?_ | refine Lo.agg _ ?_ | refine Lo.ref _ ?_ | refine Lo.tup _ ?_ | refine Lo.fn _ _ ?_ | refine Lo.sl _ ?_ | intro _)), .lo _ (by repeat' (first | exact Lo.s _ | exact zaj | refine zae ?_ ?_ | refine zak ?_ | refine Lo.cells ?_ | refine Lo.agg _ ?_ | refine Lo.ref _ ?_ | refine Lo.tup _ ?_ | refine Lo.fn _ _ ?_ | refine Lo.sl _ ?_ | intro _)), .lo _ (by repeat' (first | exact Lo.s _ | exact zaj | refine zae ?_ ?_ | refine zak ?_ | refine Lo.cells ?_ | refine Lo.agg _ ?_ | refine Lo.ref _ ?_ | refine Lo.tup _ ?_ | refine Lo.fn _ _ ?_ | refine Lo.sl _ ?_ | intro _)), .ptr 0 0 2 0 0 rfl, .lo _ (by repeat' (first | exact Lo.s _ | exact zaj | refine zae ?_ ?_ | refine zak ?_ | refine Lo.cells ?_ | refine Lo.agg _ ?_ | refine Lo.ref _ ?_ | refine Lo.tup _ ?_ | refine Lo.fn _ _ ?_ | refine Lo.sl _ ?_ | intro _)), .lo _ (by repeat' (first | exact Lo.s _ | exact zaj | refine zae ?_ ?_ | refine zak ?_ | refine Lo.cells ?_ | refine Lo.agg _ ?_ | refine Lo.ref _ ?_ | refine Lo.tup _ ?_ | refine Lo.fn _ _ ?_ | refine Lo.sl _ ?_ | intro _)), .lo _ (by repeat' (first | exact Lo.s _ | exact zaj | refine zae ?_ ?_ | refine zak ?_ | refine Lo.cells ?_ | refine Lo.agg _ ?_ | refine Lo.ref _ ?_ | refine Lo.tup _ ?_ | refine Lo.fn _ _ ?_ | refine Lo.sl _ ?_ | intro _)), .lo _ (by repeat' (first | exact Lo.s _ | exact zaj | refine zae ?_ ?_ | refine zak ?_ | refine Lo.cells ?_ | refine Lo.agg _ ?_ | refine Lo.ref _ ?_ | refine Lo.tup _ ?_ | refine Lo.fn _ _ ?_ | refine Lo.sl _ ?_ | intro _)), .own 2 1 2 _ _ rfl (by simp; omega), trivial⟩⟩
  (refine zcl ?_; repeat (first | refine ath_x ?_ | refine zci ?_ | refine zcb rfl ?_ | refine zas ?_ | refine zar ?_ | refine zag ?_ | refine zad ?_ | refine zac ?_))
  have e : (d.map Fr.of).take k = d.map Fr.of := List.take_of_length_le (by omega)
  rw [e]
  have hdot := fDot_pf (P := P) (d.map Fr.of) y
  generalize dotE (d.map Fr.of) y = dt at HI hdot
  refine zaf ?_
  first | refine zab rfl rfl (zaa rfl) (za6 (.inl rfl) rfl) ?_ | refine zab rfl rfl (zaa rfl) (zbg (.inl rfl) rfl) ?_ | refine zab rfl rfl (zaa rfl) (mv_s (.inl rfl) rfl) ?_ | refine zab rfl rfl (zaa rfl) (za7 (.inl rfl) rfl) ?_
  refine zbq (zcd (id := 1) rfl) (zbq (wk_sl (d := 36) rfl rfl (by first | rfl | (simp; done) | (simp; omega))) ?_)
  first | refine zab rfl rfl (zaa rfl) (za6 (.inl rfl) rfl) ?_ | refine zab rfl rfl (zaa rfl) (zbg (.inl rfl) rfl) ?_ | refine zab rfl rfl (zaa rfl) (mv_s (.inl rfl) rfl) ?_ | refine zab rfl rfl (zaa rfl) (za7 (.inl rfl) rfl) ?_
  refine zab rfl rfl (zaa rfl) (za5 rfl rfl (hdot) (zau rfl (zau rfl zbj))) ?_
  first | refine zab rfl rfl (zaa rfl) (mv_tup (.inl rfl) rfl) ?_ | refine zab rfl rfl (zaa rfl) (mv_s (.inl rfl) rfl) ?_
  refine zab rfl rfl (zaa rfl) (zbf rfl rfl rfl) ?_
  refine zab rfl rfl (zaa rfl) (zbf rfl rfl rfl) ?_
  refine zab rfl rfl (zaa rfl) (zbr rfl ti41 rfl rfl) ?_
  refine zb0 rfl (zaa rfl) (zbd rfl ti41 rfl rfl rfl rfl rfl rfl (by decide) (by decide)) ?_
  refine zab rfl rfl (zaa rfl) (mv_s (.inr rfl) rfl) ?_
  refine zan ?_
  repeat (first | refine zag ?_ | refine zar ?_ | refine zad ?_ | refine zas ?_ | refine zac ?_)
  all_goals refine zaf ?_
  all_goals refine zab rfl rfl (zaa rfl) (mv_s (.inl rfl) rfl) ?_
  all_goals (first | refine zbh rfl rfl (zaa rfl) (zbv rfl rfl rfl) (fun h42 => ?_) (fun h42 => ?_) | refine zbi rfl rfl (zaa rfl) (zbv rfl rfl rfl) (fun h42 => ?_) (fun h42 => ?_))
  all_goals refine zan ?_
  all_goals (repeat (first | refine zag ?_ | refine zar ?_ | refine zad ?_ | refine zas ?_ | refine zac ?_))
  all_goals (first | refine zbp rfl ?_ | refine zbm rfl ?_)
  all_goals (repeat (first | refine zag ?_ | refine zar ?_ | refine zad ?_ | refine zas ?_ | refine zac ?_))
  · rw [if_pos (by omega)] at HI
    refine zaf ?_
    refine zab rfl rfl (zaa rfl) (zb7 rfl ti41 tp41 rfl rfl) ?_
    refine zb0 rfl (zaa rfl) (zbd rfl ti41 rfl rfl rfl rfl rfl rfl (by decide) (by decide)) ?_
    refine zab rfl rfl (zaa rfl) (mv_s (.inr rfl) rfl) ?_
    refine zan ?_
    repeat (first | refine zag ?_ | refine zar ?_ | refine zad ?_ | refine zas ?_ | refine zac ?_)
    (refine zbs ?_; repeat (first | refine zb8 ?_ | refine zb9 ?_))
    exact zc6 (.inr rfl) ta41 ti41 rfl rfl rfl rfl rfl rfl (by rw [HI]; rfl)
  rw [if_neg (by omega)] at HI
  refine zaf ?_
  first | refine zab rfl rfl (zaa rfl) (za6 (.inl rfl) rfl) ?_ | refine zab rfl rfl (zaa rfl) (zbg (.inl rfl) rfl) ?_ | refine zab rfl rfl (zaa rfl) (mv_s (.inl rfl) rfl) ?_ | refine zab rfl rfl (zaa rfl) (za7 (.inl rfl) rfl) ?_
  first | refine zab rfl rfl (zaa rfl) (za4 rfl ts23 rfl) ?_ | refine zab rfl rfl (zaa rfl) (za8 rfl ts23 rfl) ?_ | refine zab rfl rfl (zaa rfl) (za2 rfl ts23 rfl) ?_ | refine zab rfl rfl (zaa rfl) (zbc rfl ts23 rfl) ?_ | refine zab rfl rfl (zaa rfl) (za3 rfl ts23 rfl) ?_
  refine zab rfl rfl (zaa rfl) (mv_s (.inl rfl) rfl) ?_
  refine zan ?_
  repeat (first | refine zag ?_ | refine zar ?_ | refine zad ?_ | refine zas ?_ | refine zac ?_)
  refine zcc (S := Fr × Nat) (fun s => [(3, eL eF y), (6, .ref (eBx lo hi).cells), (8, .ptr 0 2 0 0), (13, .ptr 1 2 0 0), (44, eL eSh l), (45, eI l.length), (46, eI s.2)]) (fun s => [.row 2 [.agg [eI 0, eI 0]], .row 2 [eF s.1]]) (fun s => s.2 ≤ l.length ∧ R = bdG l lo hi y (l.length - s.2) s.2 s.1) (fun s => l.length - s.2) (⟨dt.n, dt.d⟩, 0) (zck [0, 2] (by decide) ⟨⟨_, rfl, .rowE (by repeat' (first | exact Lo.s _ | exact zaj | exact zbn | refine zae ?_ ?_ | refine zbe ?_ ?_ | refine zak ?_ | refine zbo ?_ | refine Lo.cells ?_ | refine Lo.agg _ ?_ | refine Lo.sl _ ?_ | intro _)) rfl⟩, ⟨_, rfl, .rowE (by repeat' (first | exact Lo.s _ | exact zaj | exact zbn | refine zae ?_ ?_ | refine zbe ?_ ?_ | refine zak ?_ | refine zbo ?_ | refine Lo.cells ?_ | refine Lo.agg _ ?_ | refine Lo.sl _ ?_ | intro _)) rfl⟩, trivial⟩ ⟨.lo _ (by repeat' (first | exact Lo.s _ | exact zaj | refine zae ?_ ?_ | refine zak ?_ | refine Lo.cells ?_ | refine Lo.agg _ ?_ | refine Lo.ref _ ?_ | refine Lo.tup _ ?_ | refine Lo.fn _ _ ?_ | refine Lo.sl _ ?_ | intro _)), .lo _ (by repeat' (first | exact Lo.s _ | exact zaj | refine zae ?_ ?_ | refine zak ?_ | refine Lo.cells ?_ | refine Lo.agg _ ?_ | refine Lo.ref _ ?_ | refine Lo.tup _ ?_ | refine Lo.fn _ _ ?_ | refine Lo.sl _ ?_ | intro _)), .ptr 0 0 2 0 0 rfl, .ptr 2 1 2 0 0 rfl, .lo _ (by repeat' (first | exact Lo.s _ | exact zaj | refine zae ?_ ?_ | refine zak ?_ | refine Lo.cells ?_ | refine Lo.agg _ ?_ | refine Lo.ref _ ?_ | refine Lo.tup _ ?_ | refine Lo.fn _ _ ?_ | refine Lo.sl _ ?_ | intro _)), .lo _ (by repeat' (first | exact Lo.s _ | exact zaj | refine zae ?_ ?_ | refine zak ?_ | refine Lo.cells ?_ | refine Lo.agg _ ?_ | refine Lo.ref _ ?_ | refine Lo.tup _ ?_ | refine Lo.fn _ _ ?_ | refine Lo.sl _ ?_ | intro _)), .lo _ (by repeat' (first | exact Lo.s _ | exact zaj | refine zae ?_ ?_ | refine zak ?_ | refine Lo.cells ?_ | refine Lo.agg _ ?_ | refine Lo.ref _ ?_ | refine Lo.tup _ ?_ | refine Lo.fn _ _ ?_ | refine Lo.sl _ ?_ | intro _)), trivial⟩) ⟨Nat.zero_le _, HI⟩ (fun s hs => ?_)
  obtain ⟨sm, i⟩ := s
  obtain ⟨hi1, HJ⟩ := hs
  dsimp only at hi1 HJ ⊢
  clear HI hdot e
  repeat (first | refine zag ?_ | refine zar ?_ | refine zad ?_ | refine zas ?_ | refine zac ?_)
  all_goals refine zaf ?_
  all_goals (first | refine zbh rfl rfl (zaa rfl) (zbb rfl rfl rfl) (fun h47 => ?_) (fun h47 => ?_) | refine zbi rfl rfl (zaa rfl) (zbb rfl rfl rfl) (fun h47 => ?_) (fun h47 => ?_))
  all_goals refine zan ?_
  all_goals (repeat (first | refine zag ?_ | refine zar ?_ | refine zad ?_ | refine zas ?_ | refine zac ?_))
  all_goals (first | refine zbp rfl ?_ | refine zbm rfl ?_)
  all_goals (repeat (first | refine zag ?_ | refine zar ?_ | refine zad ?_ | refine zas ?_ | refine zac ?_))
  · have hlt : i < l.length := by omega
    rw [show l.length - i = (l.length - (i + 1)) + 1 by omega, bdG] at HJ
    obtain ⟨sf, hsf⟩ : ∃ sf, gti l i = sf := ⟨_, rfl⟩
    have hix : (l.map eSh)[i]? = some (eSh sf) := by rw [← hsf]; exact zb5 hlt
    have hsl := (ql i hlt).2
    rw [hsf] at hsl HJ
    refine zaf ?_
    refine zab rfl rfl (zaa rfl) (mv_s (.inl rfl) rfl) ?_
    first | refine zab rfl rfl (zaa rfl) (za1 rfl ts23 ti36 rfl rfl rfl hix rfl) ?_ | refine zab rfl rfl (zaa rfl) (zay rfl ts23 ti36 rfl rfl rfl hix) ?_
    first | refine zab rfl rfl (zaa rfl) (za0 rfl ta36 ti36 rfl rfl) ?_ | refine zab rfl rfl (zaa rfl) (za9 rfl ta36 ti36 rfl rfl rfl rfl rfl) ?_ | refine zab rfl rfl (zaa rfl) (zaz rfl ta36 ti36 rfl (Nat.le_of_ble_eq_true rfl)) ?_ | refine zab rfl rfl (zaa rfl) (zba rfl ta36 ti36 rfl rfl rfl rfl (Nat.le_of_ble_eq_true rfl)) ?_
    refine zab rfl rfl (zaa rfl) (zbr rfl ti36 rfl rfl) ?_
    refine zab rfl rfl (zaa rfl) (mv_s (.inr rfl) rfl) ?_
    refine zb0 rfl (zaa rfl) (zbd rfl ti36 rfl rfl rfl rfl rfl rfl (by decide) (by decide)) ?_
    refine zan ?_
    repeat (first | refine zag ?_ | refine zar ?_ | refine zad ?_ | refine zas ?_ | refine zac ?_)
    refine zca (zcd (id := 2) rfl) ?_
    refine zca (zcy (d := 16) rfl rfl rfl) ?_
    refine zaf ?_
    first | refine zab rfl rfl (zaa rfl) (zal rfl tf36_1 (by decide) rfl) ?_ | refine zab rfl rfl (zaa rfl) (zai rfl tf36_1 (by decide) rfl) ?_
    first | refine zab rfl rfl (zaa rfl) (zam rfl ta3 rfl) ?_ | refine zab rfl rfl (zaa rfl) (zap rfl ta3 rfl rfl rfl rfl rfl) ?_
    refine zab rfl rfl (zaa rfl) (za5 rfl rfl ((whole_pf _)) (zau rfl zbj)) ?_
    refine zab rfl rfl (zaa rfl) (zbr rfl ti41 rfl rfl) ?_
    refine zb0 rfl (zaa rfl) (zbd rfl ti41 rfl rfl rfl rfl rfl rfl (by decide) (by decide)) ?_
    refine zan ?_
    repeat (first | refine zag ?_ | refine zar ?_ | refine zad ?_ | refine zas ?_ | refine zac ?_)
    refine zaf ?_
    first | refine zab rfl rfl (zaa rfl) (zal rfl zc0 (by decide) rfl) ?_ | refine zab rfl rfl (zaa rfl) (zai rfl zc0 (by decide) rfl) ?_
    first | refine zab rfl rfl (zaa rfl) (zam rfl ta22 rfl) ?_ | refine zab rfl rfl (zaa rfl) (zap rfl ta22 rfl rfl rfl rfl rfl) ?_
    first | refine zab rfl rfl (zaa rfl) (za4 rfl ts22 rfl) ?_ | refine zab rfl rfl (zaa rfl) (za8 rfl ts22 rfl) ?_ | refine zab rfl rfl (zaa rfl) (za2 rfl ts22 rfl) ?_ | refine zab rfl rfl (zaa rfl) (zbc rfl ts22 rfl) ?_ | refine zab rfl rfl (zaa rfl) (za3 rfl ts22 rfl) ?_
    refine zab rfl rfl (zaa rfl) (mv_s (.inl rfl) rfl) ?_
    refine zan ?_
    repeat (first | refine zag ?_ | refine zar ?_ | refine zad ?_ | refine zas ?_ | refine zac ?_)
    refine zc5 (d := 55) rfl (fun hm3 => ?_)
    unfold maxLen at hm3
    obtain ⟨pe, hpe⟩ : ∃ pe, pe = prE y sf := ⟨_, rfl⟩
    rw [← hpe] at HJ
    have HK : pe = prG y sf.pd sf.pd.length 0 (Fr.of sf.cost) := hpe
    clear hpe
    refine zcc (S := Fr × Nat) (fun s => [(3, eL eF y), (6, .ref (eBx lo hi).cells), (8, .ptr 0 2 0 0), (13, .ptr 1 2 0 0), (17, .ptr 2 2 0 0), (15, eI i), (44, eL eSh l), (45, eI l.length), (46, eI i), (55, eL eI sf.pd), (56, eI sf.pd.length), (57, eI s.2)]) (fun s => [.row 2 [.agg [eI 0, eI 0]], .row 2 [eF sm], .row 2 [eF s.1]]) (fun s => s.2 ≤ sf.pd.length ∧ pe = prG y sf.pd (sf.pd.length - s.2) s.2 s.1) (fun s => sf.pd.length - s.2) (Fr.of sf.cost, 0) (zck [0, 1, 3] (by decide) ⟨⟨_, rfl, .rowE (by repeat' (first | exact Lo.s _ | exact zaj | exact zbn | refine zae ?_ ?_ | refine zbe ?_ ?_ | refine zak ?_ | refine zbo ?_ | refine Lo.cells ?_ | refine Lo.agg _ ?_ | refine Lo.sl _ ?_ | intro _)) rfl⟩, ⟨_, rfl, .rowE (by repeat' (first | exact Lo.s _ | exact zaj | exact zbn | refine zae ?_ ?_ | refine zbe ?_ ?_ | refine zak ?_ | refine zbo ?_ | refine Lo.cells ?_ | refine Lo.agg _ ?_ | refine Lo.sl _ ?_ | intro _)) rfl⟩, ⟨_, rfl, .rowE (by repeat' (first | exact Lo.s _ | exact zaj | exact zbn | refine zae ?_ ?_ | refine zbe ?_ ?_ | refine zak ?_ | refine zbo ?_ | refine Lo.cells ?_ | refine Lo.agg _ ?_ | refine Lo.sl _ ?_ | intro _)) rfl⟩, trivial⟩ ⟨.lo _ (by repeat' (first | exact Lo.s _ | exact zaj | refine zae ?_ ?_ | refine zak ?_ | refine Lo.cells ?_ | refine Lo.agg _ ?_ | refine Lo.ref _ ?_ | refine Lo.tup _ ?_ | refine Lo.fn _ _ ?_ | refine Lo.sl _ ?_ | intro _)), .lo _ (by repeat' (first | exact Lo.s _ | exact zaj | refine zae ?_ ?_ | refine zak ?_ | refine Lo.cells ?_ | refine Lo.agg _ ?_ | refine Lo.ref _ ?_ | refine Lo.tup _ ?_ | refine Lo.fn _ _ ?_ | refine Lo.sl _ ?_ | intro _)), .ptr 0 0 2 0 0 rfl, .ptr 1 1 2 0 0 rfl, .ptr 3 2 2 0 0 rfl, .lo _ (by repeat' (first | exact Lo.s _ | exact zaj | refine zae ?_ ?_ | refine zak ?_ | refine Lo.cells ?_ | refine Lo.agg _ ?_ | refine Lo.ref _ ?_ | refine Lo.tup _ ?_ | refine Lo.fn _ _ ?_ | refine Lo.sl _ ?_ | intro _)), .lo _ (by repeat' (first | exact Lo.s _ | exact zaj | refine zae ?_ ?_ | refine zak ?_ | refine Lo.cells ?_ | refine Lo.agg _ ?_ | refine Lo.ref _ ?_ | refine Lo.tup _ ?_ | refine Lo.fn _ _ ?_ | refine Lo.sl _ ?_ | intro _)), .lo _ (by repeat' (first | exact Lo.s _ | exact zaj | refine zae ?_ ?_ | refine zak ?_ | refine Lo.cells ?_ | refine Lo.agg _ ?_ | refine Lo.ref _ ?_ | refine Lo.tup _ ?_ | refine Lo.fn _ _ ?_ | refine Lo.sl _ ?_ | intro _)), .lo _ (by repeat' (first | exact Lo.s _ | exact zaj | refine zae ?_ ?_ | refine zak ?_ | refine Lo.cells ?_ | refine Lo.agg _ ?_ | refine Lo.ref _ ?_ | refine Lo.tup _ ?_ | refine Lo.fn _ _ ?_ | refine Lo.sl _ ?_ | intro _)), .lo _ (by repeat' (first | exact Lo.s _ | exact zaj | refine zae ?_ ?_ | refine zak ?_ | refine Lo.cells ?_ | refine Lo.agg _ ?_ | refine Lo.ref _ ?_ | refine Lo.tup _ ?_ | refine Lo.fn _ _ ?_ | refine Lo.sl _ ?_ | intro _)), .lo _ (by repeat' (first | exact Lo.s _ | exact zaj | refine zae ?_ ?_ | refine zak ?_ | refine Lo.cells ?_ | refine Lo.agg _ ?_ | refine Lo.ref _ ?_ | refine Lo.tup _ ?_ | refine Lo.fn _ _ ?_ | refine Lo.sl _ ?_ | intro _)), .lo _ (by repeat' (first | exact Lo.s _ | exact zaj | refine zae ?_ ?_ | refine zak ?_ | refine Lo.cells ?_ | refine Lo.agg _ ?_ | refine Lo.ref _ ?_ | refine Lo.tup _ ?_ | refine Lo.fn _ _ ?_ | refine Lo.sl _ ?_ | intro _)), trivial⟩) ⟨Nat.zero_le _, HK⟩ (fun s hs => ?_)
    obtain ⟨pr, j⟩ := s
    obtain ⟨hj, HK⟩ := hs
    dsimp only at hj HK ⊢
    repeat (first | refine zag ?_ | refine zar ?_ | refine zad ?_ | refine zas ?_ | refine zac ?_)
    all_goals refine zaf ?_
    all_goals (first | refine zbh rfl rfl (zaa rfl) (zbb rfl rfl rfl) (fun h58 => ?_) (fun h58 => ?_) | refine zbi rfl rfl (zaa rfl) (zbb rfl rfl rfl) (fun h58 => ?_) (fun h58 => ?_))
    all_goals refine zan ?_
    all_goals (repeat (first | refine zag ?_ | refine zar ?_ | refine zad ?_ | refine zas ?_ | refine zac ?_))
    all_goals (first | refine zbp rfl ?_ | refine zbm rfl ?_)
    all_goals (repeat (first | refine zag ?_ | refine zar ?_ | refine zad ?_ | refine zas ?_ | refine zac ?_))
    · have hlt2 : j < sf.pd.length := by omega
      obtain ⟨g1, g2, g3⟩ := hsl j hlt2
      obtain ⟨p, hp⟩ : ∃ p : Nat, gti sf.pd j = (p : Int) := ⟨(gti sf.pd j).toNat, by omega⟩
      have hpy : p < y.length := by omega
      rw [show sf.pd.length - j = (sf.pd.length - (j + 1)) + 1 by omega, prG, hp, Int.toNat_natCast] at HK
      have hsub := fSub_pf (P := P) pr (gti y p)
      generalize subE pr (gti y p) = x at HK hsub
      refine zaf ?_
      first | refine zab rfl rfl (zaa rfl) (za1 rfl ts22 ti3 rfl rfl rfl (zb5 (by omega)) rfl) ?_ | refine zab rfl rfl (zaa rfl) (zay rfl ts22 ti3 rfl rfl rfl (by omega)) ?_
      first | refine zab rfl rfl (zaa rfl) (zam rfl ta3 rfl) ?_ | refine zab rfl rfl (zaa rfl) (zap rfl ta3 rfl rfl rfl rfl rfl) ?_
      refine zab rfl rfl (zaa rfl) (mv_s (.inr rfl) rfl) ?_
      refine zan ?_
      repeat (first | refine zag ?_ | refine zar ?_ | refine zad ?_ | refine zas ?_ | refine zac ?_)
      all_goals refine zch hmix ?_
      all_goals refine zda ?_
      all_goals (first | refine zao rfl rfl (zaa rfl) (fun _ => (za0 rfl ta41 ti41 rfl rfl)) ?_ | refine zbz rfl rfl (zaa rfl) (zce rfl ta41 ti41 rfl rfl rfl rfl rfl) ?_ | refine zao rfl rfl (zaa rfl) (fun _ => (zaz rfl ta41 ti41 rfl (Nat.le_of_ble_eq_true rfl))) ?_ | refine zbz rfl rfl (zaa rfl) (zcn rfl ta41 ti41 rfl rfl rfl rfl (Nat.le_of_ble_eq_true rfl)) ?_)
      all_goals (first | refine zao rfl rfl (zaa rfl) (fun _ => (za6 (.inl rfl) rfl)) ?_ | refine zao rfl rfl (zaa rfl) (fun _ => (zbg (.inl rfl) rfl)) ?_ | refine zao rfl rfl (zaa rfl) (fun _ => (mv_s (.inl rfl) rfl)) ?_ | refine zao rfl rfl (zaa rfl) (fun _ => (za7 (.inl rfl) rfl)) ?_)
      all_goals refine zao rfl rfl (zaa rfl) (fun _ => (mv_s (.inl rfl) rfl)) ?_
      all_goals (first | refine zao rfl rfl (zaa rfl) (fun _ => (za1 rfl ts27 ti41 rfl rfl hp (zb5 hpy) rfl)) ?_ | refine zao rfl rfl (zaa rfl) (fun _ => (zay rfl ts27 ti41 rfl rfl hp (zb5 hpy))) ?_)
      all_goals (first | refine zao rfl rfl (zaa rfl) (fun _ => (za0 rfl ta41 ti41 rfl rfl)) ?_ | refine zbz rfl rfl (zaa rfl) (zce rfl ta41 ti41 rfl rfl rfl rfl rfl) ?_ | refine zao rfl rfl (zaa rfl) (fun _ => (zaz rfl ta41 ti41 rfl (Nat.le_of_ble_eq_true rfl))) ?_ | refine zbz rfl rfl (zaa rfl) (zcn rfl ta41 ti41 rfl rfl rfl rfl (Nat.le_of_ble_eq_true rfl)) ?_)
      all_goals refine zao rfl rfl (zaa rfl) (fun _ => (za5 rfl rfl (hsub) (zau rfl (zau rfl zbj)))) ?_
      all_goals (first | refine zao rfl rfl (zaa rfl) (fun _ => (mv_tup (.inl rfl) rfl)) ?_ | refine zao rfl rfl (zaa rfl) (fun _ => (mv_s (.inl rfl) rfl)) ?_)
      all_goals refine zao rfl rfl (zaa rfl) (fun _ => (zbf rfl rfl rfl)) ?_
      all_goals refine zao rfl rfl (zaa rfl) (fun _ => (zbf rfl rfl rfl)) ?_
      all_goals refine ex_eff0 rfl (zaa rfl) (zbd rfl ti41 rfl rfl rfl rfl rfl rfl (by decide) (by decide)) (fun _ h => zcq h) ?_
      all_goals refine zao rfl rfl (zaa rfl) (fun _ => (mv_s (.inr rfl) rfl)) ?_
      all_goals refine ex_nil (by kernel_rfl) ?_
      all_goals (repeat (first | refine zag ?_ | refine zar ?_ | refine zad ?_ | refine zas ?_ | refine zac ?_))
      all_goals refine zaf ?_
      all_goals refine zab rfl rfl (zaa rfl) (mv_s (.inl rfl) rfl) ?_
      all_goals (first | refine zbh rfl rfl (zaa rfl) (zbv rfl rfl rfl) (fun h71 => ?_) (fun h71 => ?_) | refine zbi rfl rfl (zaa rfl) (zbv rfl rfl rfl) (fun h71 => ?_) (fun h71 => ?_))
      all_goals refine zan ?_
      all_goals (repeat (first | refine zag ?_ | refine zar ?_ | refine zad ?_ | refine zas ?_ | refine zac ?_))
      all_goals (first | refine zbp rfl ?_ | refine zbm rfl ?_)
      all_goals (repeat (first | refine zag ?_ | refine zar ?_ | refine zad ?_ | refine zas ?_ | refine zac ?_))
      · rw [if_pos (by omega)] at HK
        subst HK
        rw [if_pos (by show x.e ≠ 0; omega)] at HJ
        refine zaf ?_
        refine zab rfl rfl (zaa rfl) (zb7 rfl ti41 tp41 rfl rfl) ?_
        refine zb0 rfl (zaa rfl) (zbd rfl ti41 rfl rfl rfl rfl rfl rfl (by decide) (by decide)) ?_
        refine zab rfl rfl (zaa rfl) (mv_s (.inr rfl) rfl) ?_
        refine zan ?_
        repeat (first | refine zag ?_ | refine zar ?_ | refine zad ?_ | refine zas ?_ | refine zac ?_)
        (refine zbs ?_; repeat (first | refine zb8 ?_ | refine zb9 ?_))
        exact zc6 (.inr rfl) ta41 ti41 rfl rfl rfl rfl rfl rfl (by rw [HJ]; rfl)
      · rw [if_neg (by omega)] at HK
        refine zaf ?_
        refine zab rfl rfl (zaa rfl) (zb2 rfl rfl rfl (IntWalk.i64_in _ (by omega))) ?_
        refine zab rfl rfl (zaa rfl) (mv_s (.inl rfl) rfl) ?_
        refine zan ?_
        repeat (first | refine zag ?_ | refine zar ?_ | refine zad ?_ | refine zas ?_ | refine zac ?_)
        exact ⟨(⟨x.n, x.d⟩, j + 1), ⟨by dsimp only; omega, HK⟩, by dsimp only; omega, zck [0, 1, 2] (by decide) ⟨⟨_, rfl, .rowE (by repeat' (first | exact Lo.s _ | exact zaj | exact zbn | refine zae ?_ ?_ | refine zbe ?_ ?_ | refine zak ?_ | refine zbo ?_ | refine Lo.cells ?_ | refine Lo.agg _ ?_ | refine Lo.sl _ ?_ | intro _)) rfl⟩, ⟨_, rfl, .rowE (by repeat' (first | exact Lo.s _ | exact zaj | exact zbn | refine zae ?_ ?_ | refine zbe ?_ ?_ | refine zak ?_ | refine zbo ?_ | refine Lo.cells ?_ | refine Lo.agg _ ?_ | refine Lo.sl _ ?_ | intro _)) rfl⟩, ⟨_, rfl, .rowE (by repeat' (first | exact Lo.s _ | exact zaj | exact zbn | refine zae ?_ ?_ | refine zbe ?_ ?_ | refine zak ?_ | refine zbo ?_ | refine Lo.cells ?_ | refine Lo.agg _ ?_ | refine Lo.sl _ ?_ | intro _)) rfl⟩, trivial⟩ ⟨.lo _ (by repeat' (first | exact Lo.s _ | exact zaj | refine zae ?_ ?_ | refine zak ?_ | refine Lo.cells ?_ | refine Lo.agg _ ?_ | refine Lo.ref _ ?_ | refine Lo.tup _ ?_ | refine Lo.fn _ _ ?_ | refine Lo.sl _ ?_ | intro _)), .lo _ (by repeat' (first | exact Lo.s _ | exact zaj | refine zae ?_ ?_ | refine zak ?_ | refine Lo.cells ?_ | refine Lo.agg _ ?_ | refine Lo.ref _ ?_ | refine Lo.tup _ ?_ | refine Lo.fn _ _ ?_ | refine Lo.sl _ ?_ | intro _)), .ptr 0 0 2 0 0 rfl, .ptr 1 1 2 0 0 rfl, .ptr 2 2 2 0 0 rfl, .lo _ (by repeat' (first | exact Lo.s _ | exact zaj | refine zae ?_ ?_ | refine zak ?_ | refine Lo.cells ?_ | refine Lo.agg _ ?_ | refine Lo.ref _ ?_ | refine Lo.tup _ ?_ | refine Lo.fn _ _ ?_ | refine Lo.sl _ ?_ | intro _)), .lo _ (by repeat' (first | exact Lo.s _ | exact zaj | refine zae ?_ ?_ | refine zak ?_ | refine Lo.cells ?_ | refine Lo.agg _ ?_ | refine Lo.ref _ ?_ | refine Lo.tup _ ?_ | refine Lo.fn _ _ ?_ | refine Lo.sl _ ?_ | intro _)), .lo _ (by repeat' (first | exact Lo.s _ | exact zaj | refine zae ?_ ?_ | refine zak ?_ | refine Lo.cells ?_ | refine Lo.agg _ ?_ | refine Lo.ref _ ?_ | refine Lo.tup _ ?_ | refine Lo.fn _ _ ?_ | refine Lo.sl _ ?_ | intro _)), .lo _ (by repeat' (first | exact Lo.s _ | exact zaj | refine zae ?_ ?_ | refine zak ?_ | refine Lo.cells ?_ | refine Lo.agg _ ?_ | refine Lo.ref _ ?_ | refine Lo.tup _ ?_ | refine Lo.fn _ _ ?_ | refine Lo.sl _ ?_ | intro _)), .lo _ (by repeat' (first | exact Lo.s _ | exact zaj | refine zae ?_ ?_ | refine zak ?_ | refine Lo.cells ?_ | refine Lo.agg _ ?_ | refine Lo.ref _ ?_ | refine Lo.tup _ ?_ | refine Lo.fn _ _ ?_ | refine Lo.sl _ ?_ | intro _)), .lo _ (by repeat' (first | exact Lo.s _ | exact zaj | refine zae ?_ ?_ | refine zak ?_ | refine Lo.cells ?_ | refine Lo.agg _ ?_ | refine Lo.ref _ ?_ | refine Lo.tup _ ?_ | refine Lo.fn _ _ ?_ | refine Lo.sl _ ?_ | intro _)), .lo _ (by repeat' (first | exact Lo.s _ | exact zaj | refine zae ?_ ?_ | refine zak ?_ | refine Lo.cells ?_ | refine Lo.agg _ ?_ | refine Lo.ref _ ?_ | refine Lo.tup _ ?_ | refine Lo.fn _ _ ?_ | refine Lo.sl _ ?_ | intro _)), trivial⟩⟩
    · rw [show sf.pd.length - j = 0 by omega, prG] at HK
      subst HK
      rw [if_neg (by simp)] at HJ
      dsimp only at HJ
      obtain ⟨ch, hch⟩ : ∃ ch, gti hi i = ch := ⟨_, rfl⟩
      obtain ⟨cl, hcl⟩ : ∃ cl, gti lo i = cl := ⟨_, rfl⟩
      have hixh : (hi.map eI)[i]? = some (eI ch) := by rw [← hch]; exact zb5 (by omega)
      have hixl : (lo.map eI)[i]? = some (eI cl) := by rw [← hcl]; exact zb5 (by omega)
      rw [hch, hcl] at HJ
      obtain ⟨CH, hCH⟩ : ∃ CH, CH = if pr.n < 0 then ch else cl := ⟨_, rfl⟩
      rw [← hCH] at HJ
      clear hch hcl
      (refine zcl ?_; repeat (first | refine ath_x ?_ | refine zci ?_ | refine zcb rfl ?_ | refine zas ?_ | refine zar ?_ | refine zag ?_ | refine zad ?_ | refine zac ?_))
      refine zaf ?_
      first | refine zab rfl rfl (zaa rfl) (zal rfl tf51_0 (by decide) rfl) ?_ | refine zab rfl rfl (zaa rfl) (zai rfl tf51_0 (by decide) rfl) ?_
      first | refine zab rfl rfl (zaa rfl) (zam rfl ta22 rfl) ?_ | refine zab rfl rfl (zaa rfl) (zap rfl ta22 rfl rfl rfl rfl rfl) ?_
      refine zab rfl rfl (zaa rfl) (mv_s (.inl rfl) rfl) ?_
      first | refine zab rfl rfl (zaa rfl) (za1 rfl ts22 ti3 rfl rfl rfl hixl rfl) ?_ | refine zab rfl rfl (zaa rfl) (zay rfl ts22 ti3 rfl rfl rfl hixl) ?_
      first | refine zab rfl rfl (zaa rfl) (zam rfl ta3 rfl) ?_ | refine zab rfl rfl (zaa rfl) (zap rfl ta3 rfl rfl rfl rfl rfl) ?_
      refine zab rfl rfl (zaa rfl) (mv_s (.inr rfl) rfl) ?_
      refine zan ?_
      repeat (first | refine zag ?_ | refine zar ?_ | refine zad ?_ | refine zas ?_ | refine zac ?_)
      all_goals refine zaf ?_
      all_goals (first | refine zab rfl rfl (zaa rfl) (zal rfl tf41_0 (by decide) rfl) ?_ | refine zab rfl rfl (zaa rfl) (zai rfl tf41_0 (by decide) rfl) ?_)
      all_goals (first | refine zab rfl rfl (zaa rfl) (zam rfl ta3 rfl) ?_ | refine zab rfl rfl (zaa rfl) (zap rfl ta3 rfl rfl rfl rfl rfl) ?_)
      all_goals (first | refine zbh rfl rfl (zaa rfl) (zbb rfl rfl rfl) (fun h81 => ?_) (fun h81 => ?_) | refine zbi rfl rfl (zaa rfl) (zbb rfl rfl rfl) (fun h81 => ?_) (fun h81 => ?_))
      all_goals refine zan ?_
      all_goals (repeat (first | refine zag ?_ | refine zar ?_ | refine zad ?_ | refine zas ?_ | refine zac ?_))
      all_goals (first | refine zbp rfl ?_ | refine zbm rfl ?_)
      all_goals (repeat (first | refine zag ?_ | refine zar ?_ | refine zad ?_ | refine zas ?_ | refine zac ?_))
      all_goals first
        | skip
          refine zaf ?_
          first | refine zab rfl rfl (zaa rfl) (zal rfl tf51_1 (by decide) rfl) ?_ | refine zab rfl rfl (zaa rfl) (zai rfl tf51_1 (by decide) rfl) ?_
          first | refine zab rfl rfl (zaa rfl) (zam rfl ta22 rfl) ?_ | refine zab rfl rfl (zaa rfl) (zap rfl ta22 rfl rfl rfl rfl rfl) ?_
          refine zab rfl rfl (zaa rfl) (mv_s (.inl rfl) rfl) ?_
          first | refine zab rfl rfl (zaa rfl) (za1 rfl ts22 ti3 rfl rfl rfl hixh rfl) ?_ | refine zab rfl rfl (zaa rfl) (zay rfl ts22 ti3 rfl rfl rfl hixh) ?_
          first | refine zab rfl rfl (zaa rfl) (zam rfl ta3 rfl) ?_ | refine zab rfl rfl (zaa rfl) (zap rfl ta3 rfl rfl rfl rfl rfl) ?_
          refine zab rfl rfl (zaa rfl) (mv_s (.inr rfl) rfl) ?_
          refine zan ?_
          repeat (first | refine zag ?_ | refine zar ?_ | refine zad ?_ | refine zas ?_ | refine zac ?_)
          rw [if_pos (by omega)] at hCH
          subst hCH
        | skip
          rw [if_neg (by omega)] at hCH
          subst hCH
      all_goals have hmul := fMul_pf (P := P) pr (Fr.of CH)
      all_goals generalize mulE pr (Fr.of CH) = x at HJ hmul
      all_goals (all_goals refine zch hmix ?_)
      all_goals (all_goals refine zda ?_)
      all_goals (all_goals (first | refine zao rfl rfl (zaa rfl) (fun _ => (za0 rfl ta41 ti41 rfl rfl)) ?_ | refine zbz rfl rfl (zaa rfl) (zce rfl ta41 ti41 rfl rfl rfl rfl rfl) ?_ | refine zao rfl rfl (zaa rfl) (fun _ => (zaz rfl ta41 ti41 rfl (Nat.le_of_ble_eq_true rfl))) ?_ | refine zbz rfl rfl (zaa rfl) (zcn rfl ta41 ti41 rfl rfl rfl rfl (Nat.le_of_ble_eq_true rfl)) ?_))
      all_goals (all_goals refine zao rfl rfl (zaa rfl) (fun _ => (mv_s (.inl rfl) rfl)) ?_)
      all_goals (all_goals refine zao rfl rfl (zaa rfl) (fun _ => (za5 rfl rfl ((whole_pf _)) (zau rfl zbj))) ?_)
      all_goals (all_goals refine zao rfl rfl (zaa rfl) (fun _ => (za5 rfl rfl (hmul) (zau rfl (zau rfl zbj)))) ?_)
      all_goals (all_goals (first | refine zao rfl rfl (zaa rfl) (fun _ => (mv_tup (.inl rfl) rfl)) ?_ | refine zao rfl rfl (zaa rfl) (fun _ => (mv_s (.inl rfl) rfl)) ?_))
      all_goals (all_goals refine zao rfl rfl (zaa rfl) (fun _ => (zbf rfl rfl rfl)) ?_)
      all_goals (all_goals refine zao rfl rfl (zaa rfl) (fun _ => (zbf rfl rfl rfl)) ?_)
      all_goals (all_goals refine ex_eff rfl rfl (zaa rfl) (zbr rfl ti41 rfl rfl) (fun _ h => zc7 h) ?_)
      all_goals (all_goals refine ex_eff0 rfl (zaa rfl) (zbd rfl ti41 rfl rfl rfl rfl rfl rfl (by decide) (by decide)) (fun _ h => zcq h) ?_)
      all_goals (all_goals refine zao rfl rfl (zaa rfl) (fun _ => (mv_s (.inr rfl) rfl)) ?_)
      all_goals (all_goals refine ex_nil (by kernel_rfl) ?_)
      all_goals (all_goals (repeat (first | refine zag ?_ | refine zar ?_ | refine zad ?_ | refine zas ?_ | refine zac ?_)))
      all_goals (all_goals refine zaf ?_)
      all_goals (all_goals refine zab rfl rfl (zaa rfl) (mv_s (.inl rfl) rfl) ?_)
      all_goals (all_goals (first | refine zbh rfl rfl (zaa rfl) (zbv rfl rfl rfl) (fun h95 => ?_) (fun h95 => ?_) | refine zbi rfl rfl (zaa rfl) (zbv rfl rfl rfl) (fun h95 => ?_) (fun h95 => ?_)))
      all_goals (all_goals refine zan ?_)
      all_goals (all_goals (repeat (first | refine zag ?_ | refine zar ?_ | refine zad ?_ | refine zas ?_ | refine zac ?_)))
      all_goals (all_goals (first | refine zbp rfl ?_ | refine zbm rfl ?_))
      all_goals (all_goals (repeat (first | refine zag ?_ | refine zar ?_ | refine zad ?_ | refine zas ?_ | refine zac ?_)))
      all_goals first
        | skip
          rw [if_pos (by omega)] at HJ
          refine zaf ?_
          refine zab rfl rfl (zaa rfl) (zb7 rfl ti41 tp41 rfl rfl) ?_
          refine zb0 rfl (zaa rfl) (zbd rfl ti41 rfl rfl rfl rfl rfl rfl (by decide) (by decide)) ?_
          refine zab rfl rfl (zaa rfl) (mv_s (.inr rfl) rfl) ?_
          refine zan ?_
          repeat (first | refine zag ?_ | refine zar ?_ | refine zad ?_ | refine zas ?_ | refine zac ?_)
          (refine zbs ?_; repeat (first | refine zb8 ?_ | refine zb9 ?_))
          exact zc6 (.inr rfl) ta41 ti41 rfl rfl rfl rfl rfl rfl (by rw [HJ]; rfl)
        | skip
          rw [if_neg (by omega)] at HJ
      all_goals have hadd := fAdd_pf (P := P) sm ⟨x.n, x.d⟩
      all_goals generalize addE sm ⟨x.n, x.d⟩ = t at HJ hadd
      all_goals (refine zaf ?_)
      all_goals (first | refine zab rfl rfl (zaa rfl) (za0 rfl ta41 ti41 rfl rfl) ?_ | refine zab rfl rfl (zaa rfl) (za9 rfl ta41 ti41 rfl rfl rfl rfl rfl) ?_ | refine zab rfl rfl (zaa rfl) (zaz rfl ta41 ti41 rfl (Nat.le_of_ble_eq_true rfl)) ?_ | refine zab rfl rfl (zaa rfl) (zba rfl ta41 ti41 rfl rfl rfl rfl (Nat.le_of_ble_eq_true rfl)) ?_)
      all_goals (first | refine zab rfl rfl (zaa rfl) (za0 rfl ta41 ti41 rfl rfl) ?_ | refine zab rfl rfl (zaa rfl) (za9 rfl ta41 ti41 rfl rfl rfl rfl rfl) ?_ | refine zab rfl rfl (zaa rfl) (zaz rfl ta41 ti41 rfl (Nat.le_of_ble_eq_true rfl)) ?_ | refine zab rfl rfl (zaa rfl) (zba rfl ta41 ti41 rfl rfl rfl rfl (Nat.le_of_ble_eq_true rfl)) ?_)
      all_goals (refine zab rfl rfl (zaa rfl) (za5 rfl rfl (hadd) (zau rfl (zau rfl zbj))) ?_)
      all_goals (first | refine zab rfl rfl (zaa rfl) (mv_tup (.inl rfl) rfl) ?_ | refine zab rfl rfl (zaa rfl) (mv_s (.inl rfl) rfl) ?_)
      all_goals (refine zab rfl rfl (zaa rfl) (zbf rfl rfl rfl) ?_)
      all_goals (refine zab rfl rfl (zaa rfl) (zbf rfl rfl rfl) ?_)
      all_goals (refine zb0 rfl (zaa rfl) (zbd rfl ti41 rfl rfl rfl rfl rfl rfl (by decide) (by decide)) ?_)
      all_goals (refine zab rfl rfl (zaa rfl) (mv_s (.inr rfl) rfl) ?_)
      all_goals (refine zan ?_)
      all_goals (repeat (first | refine zag ?_ | refine zar ?_ | refine zad ?_ | refine zas ?_ | refine zac ?_))
      all_goals (all_goals refine zaf ?_)
      all_goals (all_goals refine zab rfl rfl (zaa rfl) (mv_s (.inl rfl) rfl) ?_)
      all_goals (all_goals (first | refine zbh rfl rfl (zaa rfl) (zbv rfl rfl rfl) (fun h104 => ?_) (fun h104 => ?_) | refine zbi rfl rfl (zaa rfl) (zbv rfl rfl rfl) (fun h104 => ?_) (fun h104 => ?_)))
      all_goals (all_goals refine zan ?_)
      all_goals (all_goals (repeat (first | refine zag ?_ | refine zar ?_ | refine zad ?_ | refine zas ?_ | refine zac ?_)))
      all_goals (all_goals (first | refine zbp rfl ?_ | refine zbm rfl ?_))
      all_goals (all_goals (repeat (first | refine zag ?_ | refine zar ?_ | refine zad ?_ | refine zas ?_ | refine zac ?_)))
      all_goals first
        | skip
          rw [if_pos (by omega)] at HJ
          refine zaf ?_
          refine zab rfl rfl (zaa rfl) (zb7 rfl ti41 tp41 rfl rfl) ?_
          refine zb0 rfl (zaa rfl) (zbd rfl ti41 rfl rfl rfl rfl rfl rfl (by decide) (by decide)) ?_
          refine zab rfl rfl (zaa rfl) (mv_s (.inr rfl) rfl) ?_
          refine zan ?_
          repeat (first | refine zag ?_ | refine zar ?_ | refine zad ?_ | refine zas ?_ | refine zac ?_)
          (refine zbs ?_; repeat (first | refine zb8 ?_ | refine zb9 ?_))
          exact zc6 (.inr rfl) ta41 ti41 rfl rfl rfl rfl rfl rfl (by rw [HJ]; rfl)
        | skip
          rw [if_neg (by omega)] at HJ
          refine zaf ?_
          refine zab rfl rfl (zaa rfl) (zb2 rfl rfl rfl (IntWalk.i64_in _ (by omega))) ?_
          refine zab rfl rfl (zaa rfl) (mv_s (.inl rfl) rfl) ?_
          refine zan ?_
          repeat (first | refine zag ?_ | refine zar ?_ | refine zad ?_ | refine zas ?_ | refine zac ?_)
          exact ⟨(⟨t.n, t.d⟩, i + 1), ⟨by dsimp only; omega, HJ⟩, by dsimp only; omega, zck [0, 1] (by decide) ⟨⟨_, rfl, .rowE (by repeat' (first | exact Lo.s _ | exact zaj | exact zbn | refine zae ?_ ?_ | refine zbe ?_ ?_ | refine zak ?_ | refine zbo ?_ | refine Lo.cells ?_ | refine Lo.agg _ ?_ | refine Lo.sl _ ?_ | intro _)) rfl⟩, ⟨_, rfl, .rowE (by repeat' (first | exact Lo.s _ | exact zaj | exact zbn | refine zae ?_ ?_ | refine zbe ?_ ?_ | refine zak ?_ | refine zbo ?_ | refine Lo.cells ?_ | refine Lo.agg _ ?_ | refine Lo.sl _ ?_ | intro _)) rfl⟩, trivial⟩ ⟨.lo _ (by repeat' (first | exact Lo.s _ | exact zaj | refine zae ?_ ?_ | refine zak ?_ | refine Lo.cells ?_ | refine Lo.agg _ ?_ | refine Lo.ref _ ?_ | refine Lo.tup _ ?_ | refine Lo.fn _ _ ?_ | refine Lo.sl _ ?_ | intro _)), .lo _ (by repeat' (first | exact Lo.s _ | exact zaj | refine zae ?_ ?_ | refine zak ?_ | refine Lo.cells ?_ | refine Lo.agg _ ?_ | refine Lo.ref _ ?_ | refine Lo.tup _ ?_ | refine Lo.fn _ _ ?_ | refine Lo.sl _ ?_ | intro _)), .ptr 0 0 2 0 0 rfl, .ptr 1 1 2 0 0 rfl, .lo _ (by repeat' (first | exact Lo.s _ | exact zaj | refine zae ?_ ?_ | refine zak ?_ | refine Lo.cells ?_ | refine Lo.agg _ ?_ | refine Lo.ref _ ?_ | refine Lo.tup _ ?_ | refine Lo.fn _ _ ?_ | refine Lo.sl _ ?_ | intro _)), .lo _ (by repeat' (first | exact Lo.s _ | exact zaj | refine zae ?_ ?_ | refine zak ?_ | refine Lo.cells ?_ | refine Lo.agg _ ?_ | refine Lo.ref _ ?_ | refine Lo.tup _ ?_ | refine Lo.fn _ _ ?_ | refine Lo.sl _ ?_ | intro _)), .lo _ (by repeat' (first | exact Lo.s _ | exact zaj | refine zae ?_ ?_ | refine zak ?_ | refine Lo.cells ?_ | refine Lo.agg _ ?_ | refine Lo.ref _ ?_ | refine Lo.tup _ ?_ | refine Lo.fn _ _ ?_ | refine Lo.sl _ ?_ | intro _)), trivial⟩⟩
  · rw [show l.length - i = 0 by omega, bdG] at HJ
    (refine zcl ?_; repeat (first | refine ath_x ?_ | refine zci ?_ | refine zcb rfl ?_ | refine zas ?_ | refine zar ?_ | refine zag ?_ | refine zad ?_ | refine zac ?_))
    refine zaf ?_
    first | refine zab rfl rfl (zaa rfl) (za0 rfl ta41 ti41 rfl rfl) ?_ | refine zab rfl rfl (zaa rfl) (za9 rfl ta41 ti41 rfl rfl rfl rfl rfl) ?_ | refine zab rfl rfl (zaa rfl) (zaz rfl ta41 ti41 rfl (Nat.le_of_ble_eq_true rfl)) ?_ | refine zab rfl rfl (zaa rfl) (zba rfl ta41 ti41 rfl rfl rfl rfl (Nat.le_of_ble_eq_true rfl)) ?_
    refine zb0 rfl (zaa rfl) (zbd rfl ti41 rfl rfl rfl rfl rfl rfl (by decide) (by decide)) ?_
    refine zab rfl rfl (zaa rfl) (mv_s (.inr rfl) rfl) ?_
    refine zan ?_
    repeat (first | refine zag ?_ | refine zar ?_ | refine zad ?_ | refine zas ?_ | refine zac ?_)
    (refine zbs ?_; repeat (first | refine zb8 ?_ | refine zb9 ?_))
    exact zc6 (.inr rfl) ta41 ti41 rfl rfl rfl rfl rfl rfl (by rw [HJ]; rfl)
def badM (a : Fr) : Bool := !a.okB || decide (a.n < 0)
theorem proves1_pf (a : Fr) : Pure P 44 [eF a] (eB (badM a)) := by
  have hd : badM a = (!a.okB || decide (a.n < 0)) := rfl
  have hv := fValid_pf (P := P) a
  generalize a.okB = z at hd hv
  generalize badM a = R at hd ⊢
  refine zc4 (by rw [IsP.eq (P := P)]; exact Tryz.func44) rfl rfl rfl rfl rfl (by repeat' (first | exact Lo.s _ | exact zaj | refine zae ?_ ?_ | refine zak ?_ | refine Lo.cells ?_ | refine Lo.agg _ ?_ | refine Lo.ref _ ?_ | refine Lo.tup _ ?_ | refine Lo.fn _ _ ?_ | refine Lo.sl _ ?_ | intro _)) (by repeat' (first | exact Lo.s _ | exact zaj | refine zae ?_ ?_ | refine zak ?_ | refine Lo.cells ?_ | refine Lo.agg _ ?_ | refine Lo.ref _ ?_ | refine Lo.tup _ ?_ | refine Lo.fn _ _ ?_ | refine Lo.sl _ ?_ | intro _)) (by simp only [argF]; rfl) ?_
  repeat (first | refine zag ?_ | refine zar ?_ | refine zad ?_ | refine zas ?_ | refine zac ?_)
  refine zaf ?_
  refine zab rfl rfl (zaa rfl) (zcv rfl rfl rfl rfl) ?_
  refine zbq (zcd (id := 0) rfl) (zbq (zcy (d := 1) rfl rfl rfl) ?_)
  refine zab rfl rfl (zaa rfl) (mv_s (.inr rfl) rfl) ?_
  refine zan ?_
  repeat (first | refine zag ?_ | refine zar ?_ | refine zad ?_ | refine zas ?_ | refine zac ?_)
  all_goals refine zaf ?_
  all_goals (first | refine zab rfl rfl (zaa rfl) (za0 rfl ta41 ti41 rfl rfl) ?_ | refine zab rfl rfl (zaa rfl) (za9 rfl ta41 ti41 rfl rfl rfl rfl rfl) ?_ | refine zab rfl rfl (zaa rfl) (zaz rfl ta41 ti41 rfl (Nat.le_of_ble_eq_true rfl)) ?_ | refine zab rfl rfl (zaa rfl) (zba rfl ta41 ti41 rfl rfl rfl rfl (Nat.le_of_ble_eq_true rfl)) ?_)
  all_goals (first | refine zbh rfl rfl (zaa rfl) (za5 rfl rfl (hv) (zau rfl zbj)) (fun h4 => ?_) (fun h4 => ?_) | refine zbi rfl rfl (zaa rfl) (za5 rfl rfl (hv) (zau rfl zbj)) (fun h4 => ?_) (fun h4 => ?_))
  all_goals (first | refine zab rfl rfl (zaa rfl) (zcf rfl rfl) ?_ | refine zab rfl rfl (zaa rfl) (zcj rfl rfl) ?_)
  all_goals refine zab rfl rfl (zaa rfl) (mv_s (.inl rfl) rfl) ?_
  all_goals (first | refine zab rfl rfl (zah rfl rfl rfl) (zal rfl tf41_0 (by decide) rfl) ?_ | refine zab rfl rfl (zah rfl rfl rfl) (zai rfl tf41_0 (by decide) rfl) ?_ | refine zaq rfl rfl (zax rfl rfl rfl) ?_ | refine zaq rfl rfl (zav rfl rfl rfl) ?_)
  all_goals (first | refine zab rfl rfl (zah rfl rfl rfl) (zam rfl ta3 rfl) ?_ | refine zab rfl rfl (zah rfl rfl rfl) (zap rfl ta3 rfl rfl rfl rfl rfl) ?_ | refine zaq rfl rfl (zax rfl rfl rfl) ?_ | refine zaq rfl rfl (zav rfl rfl rfl) ?_)
  all_goals (first | refine zbh rfl rfl (zah rfl rfl rfl) (zbb rfl rfl rfl) (fun h9 => ?_) (fun h9 => ?_) | refine zbi rfl rfl (zah rfl rfl rfl) (zbb rfl rfl rfl) (fun h9 => ?_) (fun h9 => ?_) | refine zaq rfl rfl (zax rfl rfl rfl) ?_ | refine zaq rfl rfl (zav rfl rfl rfl) ?_)
  all_goals (first | refine zab rfl rfl (zaa rfl) (zbx rfl rfl rfl) ?_ | refine zab rfl rfl (zaa rfl) (zby rfl rfl rfl) ?_ | refine zab rfl rfl (zaa rfl) (zbk rfl rfl rfl) ?_ | refine zab rfl rfl (zaa rfl) (zbl rfl rfl rfl) ?_)
  all_goals refine zab rfl rfl (zaa rfl) (mv_s (.inr rfl) rfl) ?_
  all_goals refine zan ?_
  all_goals (repeat (first | refine zag ?_ | refine zar ?_ | refine zad ?_ | refine zas ?_ | refine zac ?_))
  all_goals (refine zbs ?_; repeat (first | refine zb8 ?_ | refine zb9 ?_))
  all_goals exact zcm (.inr rfl) rfl (congrArg eB (by
    rw [hd, h4]
    first
    | rfl
    | (rw [decide_eq_true (by omega)]; rfl)
    | (rw [decide_eq_false (by omega)]; rfl)))
def mulB (d : List Int) (y : List Fr) : Bool := decide (y.length = d.length) && !(y.any badM)
/-- whether multipliers prove that nothing in a box is cheaper -/
def prvB (d : List Int) (l : List Sft) (lo hi : List Int) (y : List Fr) (c : Int) : Bool := mulB d y && ((bdE d l lo hi y).2 && (decide ((cmpE (bdE d l lo hi y).1 (Fr.of (c - 1))).2 = 0) && decide (0 < (cmpE (bdE d l lo hi y).1 (Fr.of (c - 1))).1)))
set_option maxHeartbeats 2000000 in
theorem proves_pf (d : List Int) (l : List Sft) (lo hi : List Int) (y : List Fr) (c : Int) (hv : zde d l = true) (hlo : lo.length = l.length) (hhi : hi.length = l.length) (hc1 : 0 ≤ c) (hc2 : c ≤ 1000000) : Pure P 31 [eL eI d, eL eSh l, eBx lo hi, eL eF y, eI c] (eB (prvB d l lo hi y c)) := by
  have hcb := containsFF_pf (P := P) 44 [] badM y lo_F (.fn _ _ (by simp)) (fun a _ => proves1_pf a)
  have HI : prvB d l lo hi y c = (mulB d y && ((bdE d l lo hi y).2 && (decide ((cmpE (bdE d l lo hi y).1 (Fr.of (c - 1))).2 = 0) && decide (0 < (cmpE (bdE d l lo hi y).1 (Fr.of (c - 1))).1)))) := rfl
  generalize prvB d l lo hi y c = R at HI ⊢
  have hm : mulB d y = (decide (y.length = d.length) && !(y.any badM)) := rfl
  generalize y.any badM = z at hcb hm
  generalize mulB d y = zm at hm HI
  refine zc4 (by rw [IsP.eq (P := P)]; exact Tryz.func31) rfl rfl rfl rfl rfl (by repeat' (first | exact Lo.s _ | exact zaj | refine zae ?_ ?_ | refine zak ?_ | refine Lo.cells ?_ | refine Lo.agg _ ?_ | refine Lo.ref _ ?_ | refine Lo.tup _ ?_ | refine Lo.fn _ _ ?_ | refine Lo.sl _ ?_ | intro _)) (by repeat' (first | exact Lo.s _ | exact zaj | refine zae ?_ ?_ | refine zak ?_ | refine Lo.cells ?_ | refine Lo.agg _ ?_ | refine Lo.ref _ ?_ | refine Lo.tup _ ?_ | refine Lo.fn _ _ ?_ | refine Lo.sl _ ?_ | intro _)) (by simp only [argF]; rfl) ?_
  repeat (first | refine zag ?_ | refine zar ?_ | refine zad ?_ | refine zas ?_ | refine zac ?_)
  refine zc5 (d := 0) rfl (fun hm1 => ?_)
  refine zc5 (d := 3) rfl (fun hm2 => ?_)
  unfold maxLen at hm1 hm2
  refine zaf ?_
  refine zab rfl rfl (zaa rfl) (zcv rfl rfl rfl rfl) ?_
  refine zbq (zcd (id := 0) rfl) (zbq (zcy (d := 7) rfl rfl rfl) ?_)
  refine zab rfl rfl (zaa rfl) (mv_s (.inr rfl) rfl) ?_
  refine zan ?_
  repeat (first | refine zag ?_ | refine zar ?_ | refine zad ?_ | refine zas ?_ | refine zac ?_)
  all_goals refine zaf ?_
  all_goals (first | refine zab rfl rfl (zaa rfl) (za6 (.inl rfl) rfl) ?_ | refine zab rfl rfl (zaa rfl) (zbg (.inl rfl) rfl) ?_ | refine zab rfl rfl (zaa rfl) (mv_s (.inl rfl) rfl) ?_ | refine zab rfl rfl (zaa rfl) (za7 (.inl rfl) rfl) ?_)
  all_goals (first | refine zab rfl rfl (zaa rfl) (za4 rfl ts27 rfl) ?_ | refine zab rfl rfl (zaa rfl) (za8 rfl ts27 rfl) ?_ | refine zab rfl rfl (zaa rfl) (za2 rfl ts27 rfl) ?_ | refine zab rfl rfl (zaa rfl) (zbc rfl ts27 rfl) ?_ | refine zab rfl rfl (zaa rfl) (za3 rfl ts27 rfl) ?_)
  all_goals (first | refine zab rfl rfl (zaa rfl) (za6 (.inl rfl) rfl) ?_ | refine zab rfl rfl (zaa rfl) (zbg (.inl rfl) rfl) ?_ | refine zab rfl rfl (zaa rfl) (mv_s (.inl rfl) rfl) ?_ | refine zab rfl rfl (zaa rfl) (za7 (.inl rfl) rfl) ?_)
  all_goals (first | refine zab rfl rfl (zaa rfl) (za4 rfl ts22 rfl) ?_ | refine zab rfl rfl (zaa rfl) (za8 rfl ts22 rfl) ?_ | refine zab rfl rfl (zaa rfl) (za2 rfl ts22 rfl) ?_ | refine zab rfl rfl (zaa rfl) (zbc rfl ts22 rfl) ?_ | refine zab rfl rfl (zaa rfl) (za3 rfl ts22 rfl) ?_)
  all_goals (first | refine zbh rfl rfl (zaa rfl) (zbv rfl rfl rfl) (fun h19 => ?_) (fun h19 => ?_) | refine zbi rfl rfl (zaa rfl) (zbv rfl rfl rfl) (fun h19 => ?_) (fun h19 => ?_))
  all_goals refine zab rfl rfl (zaa rfl) (mv_s (.inl rfl) rfl) ?_
  all_goals (first | refine zab rfl rfl (zah rfl rfl rfl) (za6 (.inl rfl) rfl) ?_ | refine zab rfl rfl (zah rfl rfl rfl) (zbg (.inl rfl) rfl) ?_ | refine zab rfl rfl (zah rfl rfl rfl) (mv_s (.inl rfl) rfl) ?_ | refine zab rfl rfl (zah rfl rfl rfl) (za7 (.inl rfl) rfl) ?_ | refine zaq rfl rfl (zax rfl rfl rfl) ?_ | refine zaq rfl rfl (zav rfl rfl rfl) ?_)
  all_goals (first | refine zbh rfl rfl (zah rfl rfl rfl) (za5 rfl rfl (hcb) (zau rfl (zau rfl zbj))) (fun h22 => ?_) (fun h22 => ?_) | refine zbi rfl rfl (zah rfl rfl rfl) (za5 rfl rfl (hcb) (zau rfl (zau rfl zbj))) (fun h22 => ?_) (fun h22 => ?_) | refine zaq rfl rfl (zax rfl rfl rfl) ?_ | refine zaq rfl rfl (zav rfl rfl rfl) ?_)
  all_goals (first | refine zab rfl rfl (zaa rfl) (zbx rfl rfl rfl) ?_ | refine zab rfl rfl (zaa rfl) (zby rfl rfl rfl) ?_ | refine zab rfl rfl (zaa rfl) (zbk rfl rfl rfl) ?_ | refine zab rfl rfl (zaa rfl) (zbl rfl rfl rfl) ?_)
  all_goals refine zan ?_
  all_goals (repeat (first | refine zag ?_ | refine zar ?_ | refine zad ?_ | refine zas ?_ | refine zac ?_))
  all_goals (first | refine zbp rfl ?_ | refine zbm rfl ?_)
  all_goals (repeat (first | refine zag ?_ | refine zar ?_ | refine zad ?_ | refine zas ?_ | refine zac ?_))
  all_goals first
    | skip
      refine zaf ?_
      refine zab rfl rfl (zaa rfl) (mv_s (.inr rfl) rfl) ?_
      refine zan ?_
      repeat (first | refine zag ?_ | refine zar ?_ | refine zad ?_ | refine zas ?_ | refine zac ?_)
      (refine zbs ?_; repeat (first | refine zb8 ?_ | refine zb9 ?_))
      exact zcm (.inr rfl) rfl (congrArg eB (by
        rw [HI, hm]
        first
        | (rw [h22, Bool.not_true, Bool.and_false]; rfl)
        | (rw [decide_eq_false (by omega)]; rfl)))
    | skip
  have hyl : y.length = d.length := by omega
  have hzm : zm = true := by rw [hm, h22, decide_eq_true hyl]; rfl
  rw [hzm, Bool.true_and] at HI
  have hbd := bound_pf (P := P) d l lo hi y hv hyl hlo hhi
  generalize bdE d l lo hi y = b at HI hbd
  obtain ⟨bf, bz⟩ := b
  replace hbd : Pure P 46 [eL eI d, eL eSh l, eBx lo hi, eL eF y] (.tup [eF bf, eB bz]) := hbd
  dsimp only at HI
  cases bz with
  | false =>
    refine zaf ?_
    first | refine zab rfl rfl (zaa rfl) (za6 (.inl rfl) rfl) ?_ | refine zab rfl rfl (zaa rfl) (zbg (.inl rfl) rfl) ?_ | refine zab rfl rfl (zaa rfl) (mv_s (.inl rfl) rfl) ?_ | refine zab rfl rfl (zaa rfl) (za7 (.inl rfl) rfl) ?_
    first | refine zab rfl rfl (zaa rfl) (za6 (.inl rfl) rfl) ?_ | refine zab rfl rfl (zaa rfl) (zbg (.inl rfl) rfl) ?_ | refine zab rfl rfl (zaa rfl) (mv_s (.inl rfl) rfl) ?_ | refine zab rfl rfl (zaa rfl) (za7 (.inl rfl) rfl) ?_
    first | refine zab rfl rfl (zaa rfl) (za0 rfl ta51 ti51 rfl rfl) ?_ | refine zab rfl rfl (zaa rfl) (za9 rfl ta51 ti51 rfl rfl rfl rfl rfl) ?_ | refine zab rfl rfl (zaa rfl) (zaz rfl ta51 ti51 rfl (Nat.le_of_ble_eq_true rfl)) ?_ | refine zab rfl rfl (zaa rfl) (zba rfl ta51 ti51 rfl rfl rfl rfl (Nat.le_of_ble_eq_true rfl)) ?_
    first | refine zab rfl rfl (zaa rfl) (za6 (.inl rfl) rfl) ?_ | refine zab rfl rfl (zaa rfl) (zbg (.inl rfl) rfl) ?_ | refine zab rfl rfl (zaa rfl) (mv_s (.inl rfl) rfl) ?_ | refine zab rfl rfl (zaa rfl) (za7 (.inl rfl) rfl) ?_
    refine zab rfl rfl (zaa rfl) (za5 rfl rfl (hbd) (zau rfl (zau rfl (zau rfl (zau rfl zbj))))) ?_
    first | refine zab rfl rfl (zaa rfl) (mv_tup (.inl rfl) rfl) ?_ | refine zab rfl rfl (zaa rfl) (mv_s (.inl rfl) rfl) ?_
    refine zab rfl rfl (zaa rfl) (zbf rfl rfl rfl) ?_
    refine zab rfl rfl (zaa rfl) (zbf rfl rfl rfl) ?_
    refine zab rfl rfl (zaa rfl) (zbr rfl ti41 rfl rfl) ?_
    refine zb0 rfl (zaa rfl) (zbd rfl ti41 rfl rfl rfl rfl rfl rfl (by decide) (by decide)) ?_
    refine zab rfl rfl (zaa rfl) (mv_s (.inr rfl) rfl) ?_
    refine zan ?_
    repeat (first | refine zag ?_ | refine zar ?_ | refine zad ?_ | refine zas ?_ | refine zac ?_)
    refine zaf ?_
    refine zab rfl rfl (zaa rfl) (mv_s (.inl rfl) rfl) ?_
    first | refine zab rfl rfl (zaa rfl) (zcf rfl rfl) ?_ | refine zab rfl rfl (zaa rfl) (zcj rfl rfl) ?_
    refine zan ?_
    repeat (first | refine zag ?_ | refine zar ?_ | refine zad ?_ | refine zas ?_ | refine zac ?_)
    refine zbp rfl ?_
    repeat (first | refine zag ?_ | refine zar ?_ | refine zad ?_ | refine zas ?_ | refine zac ?_)
    refine zaf ?_
    refine zab rfl rfl (zaa rfl) (mv_s (.inr rfl) rfl) ?_
    refine zan ?_
    repeat (first | refine zag ?_ | refine zar ?_ | refine zad ?_ | refine zas ?_ | refine zac ?_)
    (refine zbs ?_; repeat (first | refine zb8 ?_ | refine zb9 ?_))
    exact zcm (.inr rfl) rfl (congrArg eB (by rw [HI]; rfl))
  | true =>
    rw [Bool.true_and] at HI
    have hcm := fCmp_pf (P := P) bf (Fr.of (c - 1))
    generalize cmpE bf (Fr.of (c - 1)) = cm at HI hcm
    refine zaf ?_
    first | refine zab rfl rfl (zaa rfl) (za6 (.inl rfl) rfl) ?_ | refine zab rfl rfl (zaa rfl) (zbg (.inl rfl) rfl) ?_ | refine zab rfl rfl (zaa rfl) (mv_s (.inl rfl) rfl) ?_ | refine zab rfl rfl (zaa rfl) (za7 (.inl rfl) rfl) ?_
    first | refine zab rfl rfl (zaa rfl) (za6 (.inl rfl) rfl) ?_ | refine zab rfl rfl (zaa rfl) (zbg (.inl rfl) rfl) ?_ | refine zab rfl rfl (zaa rfl) (mv_s (.inl rfl) rfl) ?_ | refine zab rfl rfl (zaa rfl) (za7 (.inl rfl) rfl) ?_
    first | refine zab rfl rfl (zaa rfl) (za0 rfl ta51 ti51 rfl rfl) ?_ | refine zab rfl rfl (zaa rfl) (za9 rfl ta51 ti51 rfl rfl rfl rfl rfl) ?_ | refine zab rfl rfl (zaa rfl) (zaz rfl ta51 ti51 rfl (Nat.le_of_ble_eq_true rfl)) ?_ | refine zab rfl rfl (zaa rfl) (zba rfl ta51 ti51 rfl rfl rfl rfl (Nat.le_of_ble_eq_true rfl)) ?_
    first | refine zab rfl rfl (zaa rfl) (za6 (.inl rfl) rfl) ?_ | refine zab rfl rfl (zaa rfl) (zbg (.inl rfl) rfl) ?_ | refine zab rfl rfl (zaa rfl) (mv_s (.inl rfl) rfl) ?_ | refine zab rfl rfl (zaa rfl) (za7 (.inl rfl) rfl) ?_
    refine zab rfl rfl (zaa rfl) (za5 rfl rfl (hbd) (zau rfl (zau rfl (zau rfl (zau rfl zbj))))) ?_
    first | refine zab rfl rfl (zaa rfl) (mv_tup (.inl rfl) rfl) ?_ | refine zab rfl rfl (zaa rfl) (mv_s (.inl rfl) rfl) ?_
    refine zab rfl rfl (zaa rfl) (zbf rfl rfl rfl) ?_
    refine zab rfl rfl (zaa rfl) (zbf rfl rfl rfl) ?_
    refine zab rfl rfl (zaa rfl) (zbr rfl ti41 rfl rfl) ?_
    refine zb0 rfl (zaa rfl) (zbd rfl ti41 rfl rfl rfl rfl rfl rfl (by decide) (by decide)) ?_
    refine zab rfl rfl (zaa rfl) (mv_s (.inr rfl) rfl) ?_
    refine zan ?_
    repeat (first | refine zag ?_ | refine zar ?_ | refine zad ?_ | refine zas ?_ | refine zac ?_)
    refine zaf ?_
    refine zab rfl rfl (zaa rfl) (mv_s (.inl rfl) rfl) ?_
    first | refine zab rfl rfl (zaa rfl) (zcf rfl rfl) ?_ | refine zab rfl rfl (zaa rfl) (zcj rfl rfl) ?_
    refine zan ?_
    repeat (first | refine zag ?_ | refine zar ?_ | refine zad ?_ | refine zas ?_ | refine zac ?_)
    refine zbm rfl ?_
    repeat (first | refine zag ?_ | refine zar ?_ | refine zad ?_ | refine zas ?_ | refine zac ?_)
    refine zch hmix ?_
    refine zco (by kernel_rfl) ?_
    first | refine zat rfl rfl (zaa rfl) (za0 rfl ta41 ti41 rfl rfl) ?_ | refine zat rfl rfl (zaa rfl) (za9 rfl ta41 ti41 rfl rfl rfl rfl rfl) ?_ | refine zat rfl rfl (zaa rfl) (zaz rfl ta41 ti41 rfl (Nat.le_of_ble_eq_true rfl)) ?_ | refine zat rfl rfl (zaa rfl) (zba rfl ta41 ti41 rfl rfl rfl rfl (Nat.le_of_ble_eq_true rfl)) ?_
    refine zat rfl rfl (zaa rfl) (mv_s (.inl rfl) rfl) ?_
    refine zat rfl rfl (zaa rfl) (does_sub rfl rfl rfl (IntWalk.i64_in _ (by omega))) ?_
    refine zat rfl rfl (zaa rfl) (za5 rfl rfl ((whole_pf _)) (zau rfl zbj)) ?_
    refine zat rfl rfl (zaa rfl) (za5 rfl rfl (hcm) (zau rfl (zau rfl zbj))) ?_
    first | refine zat rfl rfl (zaa rfl) (mv_tup (.inl rfl) rfl) ?_ | refine zat rfl rfl (zaa rfl) (mv_s (.inl rfl) rfl) ?_
    refine zat rfl rfl (zaa rfl) (zbf rfl rfl rfl) ?_
    refine zat rfl rfl (zaa rfl) (zbf rfl rfl rfl) ?_
    refine zat rfl rfl (zaa rfl) (mv_s (.inr rfl) rfl) ?_
    refine zat rfl rfl (zaa rfl) (mv_s (.inr rfl) rfl) ?_
    refine qx_nil ?_
    repeat (first | refine zag ?_ | refine zar ?_ | refine zad ?_ | refine zas ?_ | refine zac ?_)
    all_goals refine zaf ?_
    all_goals refine zab rfl rfl (zaa rfl) (mv_s (.inl rfl) rfl) ?_
    all_goals (first | refine zbh rfl rfl (zaa rfl) (zcr rfl rfl rfl) (fun h43 => ?_) (fun h43 => ?_) | refine zbi rfl rfl (zaa rfl) (zcr rfl rfl rfl) (fun h43 => ?_) (fun h43 => ?_))
    all_goals refine zab rfl rfl (zaa rfl) (mv_s (.inl rfl) rfl) ?_
    all_goals (first | refine zab rfl rfl (zah rfl rfl rfl) (mv_s (.inl rfl) rfl) ?_ | refine zaq rfl rfl (zb6 rfl rfl rfl) ?_ | refine zaq rfl rfl (zav rfl rfl rfl) ?_)
    all_goals (first | refine zbh rfl rfl (zah rfl rfl rfl) (zbw rfl rfl rfl) (fun h46 => ?_) (fun h46 => ?_) | refine zbi rfl rfl (zah rfl rfl rfl) (zbw rfl rfl rfl) (fun h46 => ?_) (fun h46 => ?_) | refine zaq rfl rfl (zb6 rfl rfl rfl) ?_ | refine zaq rfl rfl (zav rfl rfl rfl) ?_)
    all_goals (first | refine zab rfl rfl (zaa rfl) (zbx rfl rfl rfl) ?_ | refine zab rfl rfl (zaa rfl) (zby rfl rfl rfl) ?_ | refine zab rfl rfl (zaa rfl) (zbk rfl rfl rfl) ?_ | refine zab rfl rfl (zaa rfl) (zbl rfl rfl rfl) ?_)
    all_goals refine zab rfl rfl (zaa rfl) (mv_s (.inr rfl) rfl) ?_
    all_goals refine zan ?_
    all_goals (repeat (first | refine zag ?_ | refine zar ?_ | refine zad ?_ | refine zas ?_ | refine zac ?_))
    all_goals (refine zbs ?_; repeat (first | refine zb8 ?_ | refine zb9 ?_))
    all_goals exact zcm (.inr rfl) rfl (congrArg eB (by
      rw [HI]
      first
      | (rw [decide_eq_false (show ¬ (cm.2 = 0) by omega)]; rfl)
      | (rw [decide_eq_true (show cm.2 = 0 by omega), decide_eq_true (show 0 < cm.1 by omega)]; rfl)
      | (rw [decide_eq_true (show cm.2 = 0 by omega), decide_eq_false (show ¬ (0 < cm.1) by omega)]; rfl)))
end Go.Proofs.YtmoipmnhgdmkpaaGreat.Aw
end
section
namespace Go.Proofs.YtmoipmnhgdmkpaaGreat.Aw
set_option linter.unusedSimpArgs false
set_option linter.unusedVariables false
set_option linter.unusedSectionVars false
open Go.RowKit Go.Proofs
variable {P : Program} [IsP P]

inductive Br where
  | mk (s t : Int) (l : List Br) (y : List Fr)
instance : Inhabited Br := ⟨.mk 0 0 [] []⟩
mutual
def eBr : Br → AV
  | .mk s t l y => .agg [eI s, eI t, .sl (eBrs l), eL eF y]
def eBrs : List Br → List AV
  | [] => []
  | b :: l => eBr b :: eBrs l
end
theorem eBrs_map : ∀ l : List Br, eBrs l = l.map eBr
  | [] => by simp [eBrs]
  | b :: l => by simp [eBrs, eBrs_map l]
theorem eBr_mk (s t : Int) (l : List Br) (y : List Fr) : eBr (.mk s t l y) = .agg [eI s, eI t, eL eBr l, eL eF y] := by
  rw [eBr, eBrs_map]; rfl
mutual
theorem lo_Br : ∀ b : Br, Lo 0 (eBr b)
  | .mk s t l y => by
    rw [eBr]
    exact .agg _ (zae (.s _) (zae (.s _) (zae (.sl _ (lo_Brs l)) (zae (lo_Fs y) zaj))))
theorem lo_Brs : ∀ l : List Br, ∀ c ∈ eBrs l, Lo 0 c
  | [], c, h => by simp [eBrs] at h
  | b :: l, c, h => by
    rw [eBrs] at h
    rcases List.mem_cons.1 h with e | h
    · rw [e]; exact lo_Br b
    · exact lo_Brs l c h
end
def rgtE (d : List Int) (l : List Sft) (c : Int) : Br → List Int → List Int → Int → Bool × Int
  | .mk s t [] y, lo, hi, n => if n ≤ 0 then (false, 0) else (decide (s = 0) && (decide (t = 0) && prvB d l lo hi y c), n - 1)
  | .mk s t [a, b] y, lo, hi, n => if n ≤ 0 then (false, 0) else if ¬ (y.length = 0 ∧ 0 ≤ s ∧ s < (l.length : Int) ∧ gti lo s.toNat ≤ t ∧ t < gti hi s.toNat) then (false, n - 1) else if (rgtE d l c a lo (setI hi s.toNat t) (n - 1)).1 = false then (false, (rgtE d l c a lo (setI hi s.toNat t) (n - 1)).2) else rgtE d l c b (setI lo s.toNat (t + 1)) hi (rgtE d l c a lo (setI hi s.toNat t) (n - 1)).2
  | .mk s t (_ :: []) y, lo, hi, n => if n ≤ 0 then (false, 0) else (false, n - 1)
  | .mk s t (_ :: _ :: _ :: _) y, lo, hi, n => if n ≤ 0 then (false, 0) else (false, n - 1)
theorem rgtE_bd (d : List Int) (l : List Sft) (c : Int) : ∀ (b : Br) (lo hi : List Int) (n : Int), 0 ≤ n → 0 ≤ (rgtE d l c b lo hi n).2 ∧ (rgtE d l c b lo hi n).2 ≤ n
  | .mk s t [] y, lo, hi, n, h => by
    rw [rgtE]; split
    · exact ⟨Int.le_refl _, h⟩
    · dsimp only; omega
  | .mk s t [a, b] y, lo, hi, n, h => by
    rw [rgtE]; split
    · exact ⟨Int.le_refl _, h⟩
    · split
      · dsimp only; omega
      · have h1 := rgtE_bd d l c a lo (setI hi s.toNat t) (n - 1) (by omega)
        split
        · dsimp only; omega
        · have h2 := rgtE_bd d l c b (setI lo s.toNat (t + 1)) hi _ h1.1
          omega
  | .mk s t (_ :: []) y, lo, hi, n, h => by
    rw [rgtE]; split
    · exact ⟨Int.le_refl _, h⟩
    · dsimp only; omega
  | .mk s t (_ :: _ :: _ :: _) y, lo, hi, n, h => by
    rw [rgtE]; split
    · exact ⟨Int.le_refl _, h⟩
    · dsimp only; omega
/-- a box: its numbers are small -/
structure BX (l : List Sft) (lo hi : List Int) : Prop where
  l1 : lo.length = l.length
  l2 : hi.length = l.length
  b1 : ∀ k, k < l.length → 0 ≤ gti lo k ∧ gti lo k ≤ 20
  b2 : ∀ k, k < l.length → 0 ≤ gti hi k ∧ gti hi k ≤ 20
theorem setI_len (l : List Int) (k : Nat) (x : Int) : (setI l k x).length = l.length := by simp [setI]
theorem setI_gti {l : List Int} {k : Nat} {x : Int} (h : k < l.length) (j : Nat) : gti (setI l k x) j = if j = k then x else gti l j := by
  unfold gti setI
  rw [List.getElem?_set]
  by_cases e : j = k
  · subst e; rw [if_pos rfl, if_pos rfl, if_pos h]; rfl
  · rw [if_neg (Ne.symm e), if_neg e]
theorem BX.hi {l : List Sft} {lo hi : List Int} (h : BX l lo hi) {k : Nat} {t : Int} (hk : k < l.length) (h1 : 0 ≤ t) (h2 : t ≤ 20) : BX l lo (setI hi k t) :=
  ⟨h.l1, by rw [setI_len]; exact h.l2, h.b1, fun j hj => by rw [setI_gti (by rw [h.l2]; exact hk)]; split <;> first | exact ⟨h1, h2⟩ | exact h.b2 j hj⟩
theorem BX.lo {l : List Sft} {lo hi : List Int} (h : BX l lo hi) {k : Nat} {t : Int} (hk : k < l.length) (h1 : 0 ≤ t) (h2 : t ≤ 20) : BX l (setI lo k t) hi :=
  ⟨by rw [setI_len]; exact h.l1, h.l2, fun j hj => by rw [setI_gti (by rw [h.l1]; exact hk)]; split <;> first | exact ⟨h1, h2⟩ | exact h.b1 j hj, h.b2⟩
def zeroI (n : Nat) : List Int := List.replicate n 0
theorem first_box {d : List Int} {l : List Sft} (hv : zde d l = true) : BX l (zeroI l.length) (mostL l) := by
  obtain ⟨⟨_, _, q3⟩, _, ql⟩ := zcz hv
  refine ⟨by simp [zeroI], mostL_len l, fun k hk => ?_, fun k hk => ?_⟩
  · unfold zeroI gti
    rw [List.getElem?_replicate, if_pos hk]
    exact ⟨Int.le_refl _, by decide⟩
  · rw [mostL_gti hk]; have := (ql k hk).1; omega
set_option maxHeartbeats 1000000 in
theorem first_pf (l : List Sft) (hl : l.length ≤ 12) : Pure P 18 [eL eSh l] (eBx (zeroI l.length) (mostL l)) := by
  have hz : List.replicate l.length (eI 0) = (zeroI l.length).map eI := by simp [zeroI]
  refine zc4 (by rw [IsP.eq (P := P)]; exact Tryz.func18) rfl rfl rfl rfl rfl (by repeat' (first | exact Lo.s _ | exact zaj | refine zae ?_ ?_ | refine zak ?_ | refine Lo.cells ?_ | refine Lo.agg _ ?_ | refine Lo.ref _ ?_ | refine Lo.tup _ ?_ | refine Lo.fn _ _ ?_ | refine Lo.sl _ ?_ | intro _)) (by repeat' (first | exact Lo.s _ | exact zaj | refine zae ?_ ?_ | refine zak ?_ | refine Lo.cells ?_ | refine Lo.agg _ ?_ | refine Lo.ref _ ?_ | refine Lo.tup _ ?_ | refine Lo.fn _ _ ?_ | refine Lo.sl _ ?_ | intro _)) (by simp only [argF]; rfl) ?_
  repeat (first | refine zag ?_ | refine zar ?_ | refine zad ?_ | refine zas ?_ | refine zac ?_)
  refine zaf ?_
  refine zab rfl rfl (zaa rfl) (zbr rfl ti51 rfl rfl) ?_
  refine zan ?_
  repeat (first | refine zag ?_ | refine zar ?_ | refine zad ?_ | refine zas ?_ | refine zac ?_)
  all_goals refine zch hmix ?_
  all_goals refine zda ?_
  all_goals (first | refine zao rfl rfl (zaa rfl) (fun _ => (za6 (.inl rfl) rfl)) ?_ | refine zao rfl rfl (zaa rfl) (fun _ => (zbg (.inl rfl) rfl)) ?_ | refine zao rfl rfl (zaa rfl) (fun _ => (mv_s (.inl rfl) rfl)) ?_ | refine zao rfl rfl (zaa rfl) (fun _ => (za7 (.inl rfl) rfl)) ?_)
  all_goals (first | refine zao rfl rfl (zaa rfl) (fun _ => (za4 rfl ts23 rfl)) ?_ | refine zao rfl rfl (zaa rfl) (fun _ => (za8 rfl ts23 rfl)) ?_ | refine zao rfl rfl (zaa rfl) (fun _ => (za2 rfl ts23 rfl)) ?_ | refine zao rfl rfl (zaa rfl) (fun _ => (zbc rfl ts23 rfl)) ?_ | refine zao rfl rfl (zaa rfl) (fun _ => (za3 rfl ts23 rfl)) ?_)
  all_goals refine ex_eff rfl rfl (zaa rfl) (does_make rfl ts22 ti3 rfl rfl (by decide) rfl rfl rfl rfl (by omega) (by omega) (by omega)) (fun _ h => zc7 h) ?_
  all_goals (first | refine zao rfl rfl (zaa rfl) (fun _ => (za6 (.inl rfl) rfl)) ?_ | refine zao rfl rfl (zaa rfl) (fun _ => (zbg (.inl rfl) rfl)) ?_ | refine zao rfl rfl (zaa rfl) (fun _ => (mv_s (.inl rfl) rfl)) ?_ | refine zao rfl rfl (zaa rfl) (fun _ => (za7 (.inl rfl) rfl)) ?_)
  all_goals refine zao rfl rfl (zaa rfl) (fun _ => (za5 rfl rfl ((most_pf l hl)) (zau rfl zbj))) ?_
  all_goals refine zao rfl rfl (zaa rfl) (fun _ => (zb7 rfl ti51 tp51 rfl rfl)) ?_
  all_goals refine ex_eff0 rfl (zaa rfl) (zbd rfl ti51 rfl rfl rfl rfl rfl rfl (by decide) (by decide)) (fun _ h => zcq h) ?_
  all_goals refine ex_nil (by kernel_rfl) ?_
  all_goals (repeat (first | refine zag ?_ | refine zar ?_ | refine zad ?_ | refine zas ?_ | refine zac ?_))
  (refine zbs ?_; repeat (first | refine zb8 ?_ | refine zb9 ?_))
  refine post_c1 (N := 0) (.inr rfl) ta51 ti51 rfl rfl rfl rfl rfl ?_
  refine .agg _ _ rfl (zdm.cons ?_ (zdm.cons (.refl _) zdm.nil)).2
  unfold eL
  rw [← hz]
  exact .own _ _ _ _ _ rfl rfl (by simp)
def eBI (r : Bool × Int) : AV := .tup [eB r.1, eI r.2]
theorem post_bi {N : Nat} {F : Frm} {σ : List Ob} {t u : Nat} {r : Bool × Int} {b : Bool} {n : Int} {e : Exit} (he : e = .normal ∨ e = .ret) (h : F.get t = eB b) (h' : F.get u = eI n) (hr : r = (b, n)) : APost P [.tmp t, .tmp u] (eBI r) e F σ := by
  subst hr
  exact post2 he h h' (.refl _) (.refl _)
theorem rgt_0 {d : List Int} {l : List Sft} {c s t : Int} {L : List Br} {y : List Fr} {lo hi : List Int} {n : Int} (h : n ≤ 0) : rgtE d l c (.mk s t L y) lo hi n = (false, 0) := by
  match L with
  | [] => rw [rgtE, if_pos h]
  | [_] => rw [rgtE, if_pos h]
  | [_, _] => rw [rgtE, if_pos h]
  | _ :: _ :: _ :: _ => rw [rgtE, if_pos h]
theorem rgt_leaf {d : List Int} {l : List Sft} {c s t : Int} {L : List Br} {y : List Fr} {lo hi : List Int} {n : Int} (h : ¬ n ≤ 0) (hL : L.length = 0) : rgtE d l c (.mk s t L y) lo hi n = (decide (s = 0) && (decide (t = 0) && prvB d l lo hi y c), n - 1) := by
  match L, hL with
  | [], _ => rw [rgtE, if_neg h]
theorem rgt_bad {d : List Int} {l : List Sft} {c s t : Int} {L : List Br} {y : List Fr} {lo hi : List Int} {n : Int} (h : ¬ n ≤ 0) (hL : L.length ≠ 0) (hb : ¬ (L.length = 2 ∧ y.length = 0 ∧ 0 ≤ s ∧ s < (l.length : Int) ∧ gti lo s.toNat ≤ t ∧ t < gti hi s.toNat)) : rgtE d l c (.mk s t L y) lo hi n = (false, n - 1) := by
  match L, hL, hb with
  | [_], _, _ => rw [rgtE, if_neg h]
  | [_, _], _, hb => rw [rgtE, if_neg h, if_pos (fun g => hb ⟨rfl, g⟩)]
  | _ :: _ :: _ :: _, _, _ => rw [rgtE, if_neg h]
theorem rgt_two {d : List Int} {l : List Sft} {c s t : Int} {a b : Br} {y : List Fr} {lo hi : List Int} {n : Int} (h : ¬ n ≤ 0) (hb : y.length = 0 ∧ 0 ≤ s ∧ s < (l.length : Int) ∧ gti lo s.toNat ≤ t ∧ t < gti hi s.toNat) : rgtE d l c (.mk s t [a, b] y) lo hi n = if (rgtE d l c a lo (setI hi s.toNat t) (n - 1)).1 = false then (false, (rgtE d l c a lo (setI hi s.toNat t) (n - 1)).2) else rgtE d l c b (setI lo s.toNat (t + 1)) hi (rgtE d l c a lo (setI hi s.toNat t) (n - 1)).2 := by
  rw [rgtE, if_neg h, if_neg (fun g => g hb)]
theorem two_of {L : List Br} (h : L.length = 2) : ∃ a b, L = [a, b] := by
  match L, h with
  | [a, b], _ => exact ⟨a, b, rfl⟩
set_option maxHeartbeats 8000000 in
theorem right_n (d : List Int) (l : List Sft) (c : Int) (hv : zde d l = true) (hc1 : 0 ≤ c) (hc2 : c ≤ 1000000) : ∀ (m : Nat) (b : Br) (lo hi : List Int) (n : Int), SizeOf.sizeOf b < m → BX l lo hi → 0 ≤ n → n ≤ 20000 → Pure P 17 [eL eI d, eL eSh l, eBx lo hi, eBr b, eI c, eI n] (eBI (rgtE d l c b lo hi n)) := by
  intro m
  induction m
  · intro b lo hi n h; omega
  rename_i m IH0
  intro b lo hi n hsz hb hn1 hn2
  obtain ⟨s, t, L, y⟩ := b
  have IH : ∀ b', b' ∈ L → ∀ (lo hi : List Int) (n : Int), BX l lo hi → 0 ≤ n → n ≤ 20000 → Pure P 17 [eL eI d, eL eSh l, eBx lo hi, eBr b', eI c, eI n] (eBI (rgtE d l c b' lo hi n)) := fun b' hb' lo hi n h1 h2 h3 => IH0 b' lo hi n (by have := List.sizeOf_lt_of_mem hb'; simp at hsz; omega) h1 h2 h3
  clear IH0 hsz
  obtain ⟨⟨q1, q2, q3⟩, qd, ql⟩ := zcz hv
  obtain ⟨z1, z2, z3, z4⟩ := hb
  obtain ⟨R, HR⟩ : ∃ R, R = rgtE d l c (.mk s t L y) lo hi n := ⟨_, rfl⟩
  rw [← HR]
  have hlo : ∀ x ∈ [eL eI d, eL eSh l, eBx lo hi, eBr (.mk s t L y), eI c, eI n], Lo 0 x := zae (by repeat' (first | exact Lo.s _ | exact zaj | refine zae ?_ ?_ | refine zak ?_ | refine Lo.cells ?_ | refine Lo.agg _ ?_ | refine Lo.ref _ ?_ | refine Lo.tup _ ?_ | refine Lo.fn _ _ ?_ | refine Lo.sl _ ?_ | intro _)) (zae (zak lo_Sh) (zae (by repeat' (first | exact Lo.s _ | exact zaj | refine zae ?_ ?_ | refine zak ?_ | refine Lo.cells ?_ | refine Lo.agg _ ?_ | refine Lo.ref _ ?_ | refine Lo.tup _ ?_ | refine Lo.fn _ _ ?_ | refine Lo.sl _ ?_ | intro _)) (zae (lo_Br _) (zae (.s _) (zae (.s _) zaj)))))
  have hloR : Lo 0 (eBI R) := (by repeat' (first | exact Lo.s _ | exact zaj | refine zae ?_ ?_ | refine zak ?_ | refine Lo.cells ?_ | refine Lo.agg _ ?_ | refine Lo.ref _ ?_ | refine Lo.tup _ ?_ | refine Lo.fn _ _ ?_ | refine Lo.sl _ ?_ | intro _))
  rw [eBr_mk] at hlo ⊢
  refine zc4 (by rw [IsP.eq (P := P)]; exact Tryz.func17) rfl rfl rfl rfl rfl hlo hloR (by simp only [argF]; rfl) ?_
  repeat (first | refine zag ?_ | refine zar ?_ | refine zad ?_ | refine zas ?_ | refine zac ?_)
  refine zc5 (d := 1) rfl (fun hm1 => ?_)
  unfold maxLen at hm1
  refine zaf ?_
  refine zab rfl rfl (zaa rfl) (zcv rfl rfl rfl rfl) ?_
  refine zbq (zcd (id := 0) rfl) (zbq (zcy (d := 8) rfl rfl rfl) ?_)
  refine zab rfl rfl (zaa rfl) (zcv rfl rfl rfl rfl) ?_
  refine zbq (zcd (id := 1) rfl) (zbq (zcy (d := 9) rfl rfl rfl) ?_)
  refine zab rfl rfl (zaa rfl) (mv_s (.inr rfl) rfl) ?_
  refine zab rfl rfl (zaa rfl) (mv_s (.inr rfl) rfl) ?_
  refine zan ?_
  repeat (first | refine zag ?_ | refine zar ?_ | refine zad ?_ | refine zas ?_ | refine zac ?_)
  all_goals refine zaf ?_
  all_goals refine zab rfl rfl (zaa rfl) (mv_s (.inl rfl) rfl) ?_
  all_goals (first | refine zbh rfl rfl (zaa rfl) (does_leq rfl rfl rfl) (fun h18 => ?_) (fun h18 => ?_) | refine zbi rfl rfl (zaa rfl) (does_leq rfl rfl rfl) (fun h18 => ?_) (fun h18 => ?_))
  all_goals refine zan ?_
  all_goals (repeat (first | refine zag ?_ | refine zar ?_ | refine zad ?_ | refine zas ?_ | refine zac ?_))
  all_goals (first | refine zbp rfl ?_ | refine zbm rfl ?_)
  all_goals (repeat (first | refine zag ?_ | refine zar ?_ | refine zad ?_ | refine zas ?_ | refine zac ?_))
  · rw [rgt_0 (by omega)] at HR
    refine zaf ?_
    refine zab rfl rfl (zaa rfl) (mv_s (.inr rfl) rfl) ?_
    refine zab rfl rfl (zaa rfl) (mv_s (.inr rfl) rfl) ?_
    refine zan ?_
    repeat (first | refine zag ?_ | refine zar ?_ | refine zad ?_ | refine zas ?_ | refine zac ?_)
    (refine zbs ?_; repeat (first | refine zb8 ?_ | refine zb9 ?_))
    exact post_bi (N := 0) (.inr rfl) rfl rfl HR
  have hn0 : ¬ n ≤ 0 := by omega
  refine zaf ?_
  refine zab rfl rfl (zaa rfl) (mv_s (.inl rfl) rfl) ?_
  refine zab rfl rfl (zaa rfl) (does_sub rfl rfl rfl (IntWalk.i64_in _ (by omega))) ?_
  refine zab rfl rfl (zaa rfl) (mv_s (.inr rfl) rfl) ?_
  refine zan ?_
  repeat (first | refine zag ?_ | refine zar ?_ | refine zad ?_ | refine zas ?_ | refine zac ?_)
  refine zaf ?_
  first | refine zab rfl rfl (zaa rfl) (zal rfl tf29_2 (by decide) rfl) ?_ | refine zab rfl rfl (zaa rfl) (zai rfl tf29_2 (by decide) rfl) ?_
  first | refine zab rfl rfl (zaa rfl) (zam rfl ta26 rfl) ?_ | refine zab rfl rfl (zaa rfl) (zap rfl ta26 rfl rfl rfl rfl rfl) ?_
  first | refine zab rfl rfl (zaa rfl) (za4 rfl ts26 rfl) ?_ | refine zab rfl rfl (zaa rfl) (za8 rfl ts26 rfl) ?_ | refine zab rfl rfl (zaa rfl) (za2 rfl ts26 rfl) ?_ | refine zab rfl rfl (zaa rfl) (zbc rfl ts26 rfl) ?_ | refine zab rfl rfl (zaa rfl) (za3 rfl ts26 rfl) ?_
  refine zab rfl rfl (zaa rfl) (zcr rfl rfl rfl) ?_
  refine zan ?_
  repeat (first | refine zag ?_ | refine zar ?_ | refine zad ?_ | refine zas ?_ | refine zac ?_)
  refine zc5 (d := 22) rfl (fun hm2 => ?_)
  unfold maxLen at hm2
  refine aw_if rfl (fun h => ?_) (fun h => ?_)
  · repeat (first | refine zag ?_ | refine zar ?_ | refine zad ?_ | refine zas ?_ | refine zac ?_)
    rw [rgt_leaf hn0 (by omega)] at HR
    have hpr := proves_pf (P := P) d l lo hi y c hv z1 z2 hc1 hc2
    generalize prvB d l lo hi y c = zp at HR hpr
    all_goals refine zaf ?_
    all_goals (first | refine zab rfl rfl (zaa rfl) (zal rfl zdc (by decide) rfl) ?_ | refine zab rfl rfl (zaa rfl) (zai rfl zdc (by decide) rfl) ?_)
    all_goals (first | refine zab rfl rfl (zaa rfl) (zam rfl ta3 rfl) ?_ | refine zab rfl rfl (zaa rfl) (zap rfl ta3 rfl rfl rfl rfl rfl) ?_)
    all_goals (first | refine zbh rfl rfl (zaa rfl) (zcr rfl rfl rfl) (fun h27 => ?_) (fun h27 => ?_) | refine zbi rfl rfl (zaa rfl) (zcr rfl rfl rfl) (fun h27 => ?_) (fun h27 => ?_))
    all_goals refine zab rfl rfl (zaa rfl) (mv_s (.inl rfl) rfl) ?_
    all_goals (first | refine zab rfl rfl (zah rfl rfl rfl) (zal rfl tf29_1 (by decide) rfl) ?_ | refine zab rfl rfl (zah rfl rfl rfl) (zai rfl tf29_1 (by decide) rfl) ?_ | refine zaq rfl rfl (zb6 rfl rfl rfl) ?_ | refine zaq rfl rfl (zav rfl rfl rfl) ?_)
    all_goals (first | refine zab rfl rfl (zah rfl rfl rfl) (zam rfl ta3 rfl) ?_ | refine zab rfl rfl (zah rfl rfl rfl) (zap rfl ta3 rfl rfl rfl rfl rfl) ?_ | refine zaq rfl rfl (zb6 rfl rfl rfl) ?_ | refine zaq rfl rfl (zav rfl rfl rfl) ?_)
    all_goals (first | refine zbh rfl rfl (zah rfl rfl rfl) (zcr rfl rfl rfl) (fun h31 => ?_) (fun h31 => ?_) | refine zbi rfl rfl (zah rfl rfl rfl) (zcr rfl rfl rfl) (fun h31 => ?_) (fun h31 => ?_) | refine zaq rfl rfl (zb6 rfl rfl rfl) ?_ | refine zaq rfl rfl (zav rfl rfl rfl) ?_)
    all_goals (first | refine zab rfl rfl (zaa rfl) (zbx rfl rfl rfl) ?_ | refine zab rfl rfl (zaa rfl) (zby rfl rfl rfl) ?_ | refine zab rfl rfl (zaa rfl) (zbk rfl rfl rfl) ?_ | refine zab rfl rfl (zaa rfl) (zbl rfl rfl rfl) ?_)
    all_goals refine zab rfl rfl (zaa rfl) (mv_s (.inl rfl) rfl) ?_
    all_goals (first | refine zab rfl rfl (zah rfl rfl rfl) (za6 (.inl rfl) rfl) ?_ | refine zab rfl rfl (zah rfl rfl rfl) (zbg (.inl rfl) rfl) ?_ | refine zab rfl rfl (zah rfl rfl rfl) (mv_s (.inl rfl) rfl) ?_ | refine zab rfl rfl (zah rfl rfl rfl) (za7 (.inl rfl) rfl) ?_ | refine zaq rfl rfl (zb6 rfl rfl rfl) ?_ | refine zaq rfl rfl (zav rfl rfl rfl) ?_)
    all_goals (first | refine zab rfl rfl (zah rfl rfl rfl) (za6 (.inl rfl) rfl) ?_ | refine zab rfl rfl (zah rfl rfl rfl) (zbg (.inl rfl) rfl) ?_ | refine zab rfl rfl (zah rfl rfl rfl) (mv_s (.inl rfl) rfl) ?_ | refine zab rfl rfl (zah rfl rfl rfl) (za7 (.inl rfl) rfl) ?_ | refine zaq rfl rfl (zb6 rfl rfl rfl) ?_ | refine zaq rfl rfl (zav rfl rfl rfl) ?_)
    all_goals (first | refine zab rfl rfl (zah rfl rfl rfl) (za0 rfl ta51 ti51 rfl rfl) ?_ | refine zab rfl rfl (zah rfl rfl rfl) (za9 rfl ta51 ti51 rfl rfl rfl rfl rfl) ?_ | refine zab rfl rfl (zah rfl rfl rfl) (zaz rfl ta51 ti51 rfl (Nat.le_of_ble_eq_true rfl)) ?_ | refine zab rfl rfl (zah rfl rfl rfl) (zba rfl ta51 ti51 rfl rfl rfl rfl (Nat.le_of_ble_eq_true rfl)) ?_ | refine zaq rfl rfl (zb6 rfl rfl rfl) ?_ | refine zaq rfl rfl (zav rfl rfl rfl) ?_)
    all_goals (first | refine zab rfl rfl (zah rfl rfl rfl) (zal rfl tf29_3 (by decide) rfl) ?_ | refine zab rfl rfl (zah rfl rfl rfl) (zai rfl tf29_3 (by decide) rfl) ?_ | refine zaq rfl rfl (zb6 rfl rfl rfl) ?_ | refine zaq rfl rfl (zav rfl rfl rfl) ?_)
    all_goals (first | refine zab rfl rfl (zah rfl rfl rfl) (zam rfl ta27 rfl) ?_ | refine zab rfl rfl (zah rfl rfl rfl) (zap rfl ta27 rfl rfl rfl rfl rfl) ?_ | refine zaq rfl rfl (zb6 rfl rfl rfl) ?_ | refine zaq rfl rfl (zav rfl rfl rfl) ?_)
    all_goals (first | refine zab rfl rfl (zah rfl rfl rfl) (mv_s (.inl rfl) rfl) ?_ | refine zaq rfl rfl (zb6 rfl rfl rfl) ?_ | refine zaq rfl rfl (zav rfl rfl rfl) ?_)
    all_goals (first | refine zbh rfl rfl (zah rfl rfl rfl) (za5 rfl rfl (hpr) (zau rfl (zau rfl (zau rfl (zau rfl (zau rfl zbj)))))) (fun h40 => ?_) (fun h40 => ?_) | refine zbi rfl rfl (zah rfl rfl rfl) (za5 rfl rfl (hpr) (zau rfl (zau rfl (zau rfl (zau rfl (zau rfl zbj)))))) (fun h40 => ?_) (fun h40 => ?_) | refine zaq rfl rfl (zb6 rfl rfl rfl) ?_ | refine zaq rfl rfl (zav rfl rfl rfl) ?_)
    all_goals (first | refine zab rfl rfl (zaa rfl) (zbx rfl rfl rfl) ?_ | refine zab rfl rfl (zaa rfl) (zby rfl rfl rfl) ?_ | refine zab rfl rfl (zaa rfl) (zbk rfl rfl rfl) ?_ | refine zab rfl rfl (zaa rfl) (zbl rfl rfl rfl) ?_)
    all_goals refine zab rfl rfl (zaa rfl) (mv_s (.inl rfl) rfl) ?_
    all_goals refine zab rfl rfl (zaa rfl) (mv_s (.inr rfl) rfl) ?_
    all_goals refine zab rfl rfl (zaa rfl) (mv_s (.inr rfl) rfl) ?_
    all_goals refine zan ?_
    all_goals (repeat (first | refine zag ?_ | refine zar ?_ | refine zad ?_ | refine zas ?_ | refine zac ?_))
    all_goals (refine zbs ?_; repeat (first | refine zb8 ?_ | refine zb9 ?_))
    all_goals exact post_bi (N := 0) (.inr rfl) rfl rfl (by
      rw [HR]
      first
      | (rw [decide_eq_false (show ¬ (s = 0) by omega)]; rfl)
      | (rw [decide_eq_true (show s = 0 by omega), decide_eq_false (show ¬ (t = 0) by omega)]; rfl)
      | (rw [decide_eq_true (show s = 0 by omega), decide_eq_true (show t = 0 by omega), h40]; rfl))
  have hL0 : L.length ≠ 0 := by omega
  repeat (first | refine zag ?_ | refine zar ?_ | refine zad ?_ | refine zas ?_ | refine zac ?_)
  refine zc5 (d := 22) rfl (fun hm4 => ?_)
  all_goals refine zch hmix ?_
  all_goals refine zco (by kernel_rfl) ?_
  all_goals (first | refine zat rfl rfl (zaa rfl) (zal rfl tf29_2 (by decide) rfl) ?_ | refine zat rfl rfl (zaa rfl) (zai rfl tf29_2 (by decide) rfl) ?_)
  all_goals (first | refine zat rfl rfl (zaa rfl) (zam rfl ta26 rfl) ?_ | refine zat rfl rfl (zaa rfl) (zap rfl ta26 rfl rfl rfl rfl rfl) ?_)
  all_goals (first | refine zat rfl rfl (zaa rfl) (za4 rfl ts26 rfl) ?_ | refine zat rfl rfl (zaa rfl) (za8 rfl ts26 rfl) ?_ | refine zat rfl rfl (zaa rfl) (za2 rfl ts26 rfl) ?_ | refine zat rfl rfl (zaa rfl) (zbc rfl ts26 rfl) ?_ | refine zat rfl rfl (zaa rfl) (za3 rfl ts26 rfl) ?_)
  all_goals (first | refine zdg rfl rfl (zaa rfl) (zbv rfl rfl rfl) (fun h46 => ?_) (fun h46 => ?_) | refine zdh rfl rfl (zaa rfl) (zbv rfl rfl rfl) (fun h46 => ?_) (fun h46 => ?_))
  all_goals refine zat rfl rfl (zaa rfl) (mv_s (.inl rfl) rfl) ?_
  all_goals (first | refine zat rfl rfl (zah rfl rfl rfl) (zal rfl tf29_3 (by decide) rfl) ?_ | refine zat rfl rfl (zah rfl rfl rfl) (zai rfl tf29_3 (by decide) rfl) ?_ | refine zaw rfl rfl (zax rfl rfl rfl) ?_ | refine zaw rfl rfl (zav rfl rfl rfl) ?_)
  all_goals (first | refine zat rfl rfl (zah rfl rfl rfl) (zam rfl ta27 rfl) ?_ | refine zat rfl rfl (zah rfl rfl rfl) (zap rfl ta27 rfl rfl rfl rfl rfl) ?_ | refine zaw rfl rfl (zax rfl rfl rfl) ?_ | refine zaw rfl rfl (zav rfl rfl rfl) ?_)
  all_goals (first | refine zat rfl rfl (zah rfl rfl rfl) (za4 rfl ts27 rfl) ?_ | refine zat rfl rfl (zah rfl rfl rfl) (za8 rfl ts27 rfl) ?_ | refine zat rfl rfl (zah rfl rfl rfl) (za2 rfl ts27 rfl) ?_ | refine zat rfl rfl (zah rfl rfl rfl) (zbc rfl ts27 rfl) ?_ | refine zat rfl rfl (zah rfl rfl rfl) (za3 rfl ts27 rfl) ?_ | refine zaw rfl rfl (zax rfl rfl rfl) ?_ | refine zaw rfl rfl (zav rfl rfl rfl) ?_)
  all_goals (first | refine zdg rfl rfl (zah rfl rfl rfl) (zbw rfl rfl rfl) (fun h51 => ?_) (fun h51 => ?_) | refine zdh rfl rfl (zah rfl rfl rfl) (zbw rfl rfl rfl) (fun h51 => ?_) (fun h51 => ?_) | refine zaw rfl rfl (zax rfl rfl rfl) ?_ | refine zaw rfl rfl (zav rfl rfl rfl) ?_)
  all_goals (first | refine zat rfl rfl (zaa rfl) (zbx rfl rfl rfl) ?_ | refine zat rfl rfl (zaa rfl) (zby rfl rfl rfl) ?_ | refine zat rfl rfl (zaa rfl) (zbk rfl rfl rfl) ?_ | refine zat rfl rfl (zaa rfl) (zbl rfl rfl rfl) ?_)
  all_goals refine zat rfl rfl (zaa rfl) (mv_s (.inl rfl) rfl) ?_
  all_goals (first | refine zat rfl rfl (zah rfl rfl rfl) (zal rfl zdc (by decide) rfl) ?_ | refine zat rfl rfl (zah rfl rfl rfl) (zai rfl zdc (by decide) rfl) ?_ | refine zaw rfl rfl (zax rfl rfl rfl) ?_ | refine zaw rfl rfl (zav rfl rfl rfl) ?_)
  all_goals (first | refine zat rfl rfl (zah rfl rfl rfl) (zam rfl ta3 rfl) ?_ | refine zat rfl rfl (zah rfl rfl rfl) (zap rfl ta3 rfl rfl rfl rfl rfl) ?_ | refine zaw rfl rfl (zax rfl rfl rfl) ?_ | refine zaw rfl rfl (zav rfl rfl rfl) ?_)
  all_goals (first | refine zdg rfl rfl (zah rfl rfl rfl) (zbb rfl rfl rfl) (fun h56 => ?_) (fun h56 => ?_) | refine zdh rfl rfl (zah rfl rfl rfl) (zbb rfl rfl rfl) (fun h56 => ?_) (fun h56 => ?_) | refine zaw rfl rfl (zax rfl rfl rfl) ?_ | refine zaw rfl rfl (zav rfl rfl rfl) ?_)
  all_goals (first | refine zat rfl rfl (zaa rfl) (zbx rfl rfl rfl) ?_ | refine zat rfl rfl (zaa rfl) (zby rfl rfl rfl) ?_ | refine zat rfl rfl (zaa rfl) (zbk rfl rfl rfl) ?_ | refine zat rfl rfl (zaa rfl) (zbl rfl rfl rfl) ?_)
  all_goals refine zat rfl rfl (zaa rfl) (mv_s (.inl rfl) rfl) ?_
  all_goals (first | refine zat rfl rfl (zah rfl rfl rfl) (zal rfl zdc (by decide) rfl) ?_ | refine zat rfl rfl (zah rfl rfl rfl) (zai rfl zdc (by decide) rfl) ?_ | refine zaw rfl rfl (zax rfl rfl rfl) ?_ | refine zaw rfl rfl (zav rfl rfl rfl) ?_)
  all_goals (first | refine zat rfl rfl (zah rfl rfl rfl) (zam rfl ta3 rfl) ?_ | refine zat rfl rfl (zah rfl rfl rfl) (zap rfl ta3 rfl rfl rfl rfl rfl) ?_ | refine zaw rfl rfl (zax rfl rfl rfl) ?_ | refine zaw rfl rfl (zav rfl rfl rfl) ?_)
  all_goals (first | refine zat rfl rfl (zah rfl rfl rfl) (za6 (.inl rfl) rfl) ?_ | refine zat rfl rfl (zah rfl rfl rfl) (zbg (.inl rfl) rfl) ?_ | refine zat rfl rfl (zah rfl rfl rfl) (mv_s (.inl rfl) rfl) ?_ | refine zat rfl rfl (zah rfl rfl rfl) (za7 (.inl rfl) rfl) ?_ | refine zaw rfl rfl (zax rfl rfl rfl) ?_ | refine zaw rfl rfl (zav rfl rfl rfl) ?_)
  all_goals (first | refine zat rfl rfl (zah rfl rfl rfl) (za4 rfl ts23 rfl) ?_ | refine zat rfl rfl (zah rfl rfl rfl) (za8 rfl ts23 rfl) ?_ | refine zat rfl rfl (zah rfl rfl rfl) (za2 rfl ts23 rfl) ?_ | refine zat rfl rfl (zah rfl rfl rfl) (zbc rfl ts23 rfl) ?_ | refine zat rfl rfl (zah rfl rfl rfl) (za3 rfl ts23 rfl) ?_ | refine zaw rfl rfl (zax rfl rfl rfl) ?_ | refine zaw rfl rfl (zav rfl rfl rfl) ?_)
  all_goals (first | refine zdg rfl rfl (zah rfl rfl rfl) (zcp rfl rfl rfl) (fun h63 => ?_) (fun h63 => ?_) | refine zdh rfl rfl (zah rfl rfl rfl) (zcp rfl rfl rfl) (fun h63 => ?_) (fun h63 => ?_) | refine zaw rfl rfl (zax rfl rfl rfl) ?_ | refine zaw rfl rfl (zav rfl rfl rfl) ?_)
  all_goals (first | refine zat rfl rfl (zaa rfl) (zbx rfl rfl rfl) ?_ | refine zat rfl rfl (zaa rfl) (zby rfl rfl rfl) ?_ | refine zat rfl rfl (zaa rfl) (zbk rfl rfl rfl) ?_ | refine zat rfl rfl (zaa rfl) (zbl rfl rfl rfl) ?_)
  all_goals refine zat rfl rfl (zaa rfl) (mv_s (.inl rfl) rfl) ?_
  all_goals (first | refine zat rfl rfl (zah rfl rfl rfl) (zal rfl tf29_1 (by decide) rfl) ?_ | refine zat rfl rfl (zah rfl rfl rfl) (zai rfl tf29_1 (by decide) rfl) ?_ | refine zaw rfl rfl (zax rfl rfl rfl) ?_ | refine zaw rfl rfl (zav rfl rfl rfl) ?_)
  all_goals (first | refine zat rfl rfl (zah rfl rfl rfl) (zam rfl ta3 rfl) ?_ | refine zat rfl rfl (zah rfl rfl rfl) (zap rfl ta3 rfl rfl rfl rfl rfl) ?_ | refine zaw rfl rfl (zax rfl rfl rfl) ?_ | refine zaw rfl rfl (zav rfl rfl rfl) ?_)
  all_goals (first | refine zat rfl rfl (zah rfl rfl rfl) (zal rfl tf51_0 (by decide) rfl) ?_ | refine zat rfl rfl (zah rfl rfl rfl) (zai rfl tf51_0 (by decide) rfl) ?_ | refine zaw rfl rfl (zax rfl rfl rfl) ?_ | refine zaw rfl rfl (zav rfl rfl rfl) ?_)
  all_goals (first | refine zat rfl rfl (zah rfl rfl rfl) (zam rfl ta22 rfl) ?_ | refine zat rfl rfl (zah rfl rfl rfl) (zap rfl ta22 rfl rfl rfl rfl rfl) ?_ | refine zaw rfl rfl (zax rfl rfl rfl) ?_ | refine zaw rfl rfl (zav rfl rfl rfl) ?_)
  all_goals (first | refine zat rfl rfl (zah rfl rfl rfl) (zal rfl zdc (by decide) rfl) ?_ | refine zat rfl rfl (zah rfl rfl rfl) (zai rfl zdc (by decide) rfl) ?_ | refine zaw rfl rfl (zax rfl rfl rfl) ?_ | refine zaw rfl rfl (zav rfl rfl rfl) ?_)
  all_goals (first | refine zat rfl rfl (zah rfl rfl rfl) (zam rfl ta3 rfl) ?_ | refine zat rfl rfl (zah rfl rfl rfl) (zap rfl ta3 rfl rfl rfl rfl rfl) ?_ | refine zaw rfl rfl (zax rfl rfl rfl) ?_ | refine zaw rfl rfl (zav rfl rfl rfl) ?_)
  all_goals (first | refine zat rfl rfl (zah rfl rfl rfl) (za1 rfl ts22 ti3 rfl rfl (by omega) (zb5 (k := s.toNat) (by omega)) rfl) ?_ | refine zat rfl rfl (zah rfl rfl rfl) (zay rfl ts22 ti3 rfl rfl (by omega) (zb5 (k := s.toNat) (by omega))) ?_ | refine zaw rfl rfl (zax rfl rfl rfl) ?_ | refine zaw rfl rfl (zav rfl rfl rfl) ?_)
  all_goals (first | refine zat rfl rfl (zah rfl rfl rfl) (zam rfl ta3 rfl) ?_ | refine zat rfl rfl (zah rfl rfl rfl) (zap rfl ta3 rfl rfl rfl rfl rfl) ?_ | refine zaw rfl rfl (zax rfl rfl rfl) ?_ | refine zaw rfl rfl (zav rfl rfl rfl) ?_)
  all_goals (first | refine zdg rfl rfl (zah rfl rfl rfl) (zbb rfl rfl rfl) (fun h74 => ?_) (fun h74 => ?_) | refine zdh rfl rfl (zah rfl rfl rfl) (zbb rfl rfl rfl) (fun h74 => ?_) (fun h74 => ?_) | refine zaw rfl rfl (zax rfl rfl rfl) ?_ | refine zaw rfl rfl (zav rfl rfl rfl) ?_)
  all_goals (first | refine zat rfl rfl (zaa rfl) (zbx rfl rfl rfl) ?_ | refine zat rfl rfl (zaa rfl) (zby rfl rfl rfl) ?_ | refine zat rfl rfl (zaa rfl) (zbk rfl rfl rfl) ?_ | refine zat rfl rfl (zaa rfl) (zbl rfl rfl rfl) ?_)
  all_goals refine zat rfl rfl (zaa rfl) (mv_s (.inl rfl) rfl) ?_
  all_goals (first | refine zat rfl rfl (zah rfl rfl rfl) (zal rfl tf29_1 (by decide) rfl) ?_ | refine zat rfl rfl (zah rfl rfl rfl) (zai rfl tf29_1 (by decide) rfl) ?_ | refine zaw rfl rfl (zax rfl rfl rfl) ?_ | refine zaw rfl rfl (zav rfl rfl rfl) ?_)
  all_goals (first | refine zat rfl rfl (zah rfl rfl rfl) (zam rfl ta3 rfl) ?_ | refine zat rfl rfl (zah rfl rfl rfl) (zap rfl ta3 rfl rfl rfl rfl rfl) ?_ | refine zaw rfl rfl (zax rfl rfl rfl) ?_ | refine zaw rfl rfl (zav rfl rfl rfl) ?_)
  all_goals (first | refine zat rfl rfl (zah rfl rfl rfl) (zal rfl tf51_1 (by decide) rfl) ?_ | refine zat rfl rfl (zah rfl rfl rfl) (zai rfl tf51_1 (by decide) rfl) ?_ | refine zaw rfl rfl (zax rfl rfl rfl) ?_ | refine zaw rfl rfl (zav rfl rfl rfl) ?_)
  all_goals (first | refine zat rfl rfl (zah rfl rfl rfl) (zam rfl ta22 rfl) ?_ | refine zat rfl rfl (zah rfl rfl rfl) (zap rfl ta22 rfl rfl rfl rfl rfl) ?_ | refine zaw rfl rfl (zax rfl rfl rfl) ?_ | refine zaw rfl rfl (zav rfl rfl rfl) ?_)
  all_goals (first | refine zat rfl rfl (zah rfl rfl rfl) (zal rfl zdc (by decide) rfl) ?_ | refine zat rfl rfl (zah rfl rfl rfl) (zai rfl zdc (by decide) rfl) ?_ | refine zaw rfl rfl (zax rfl rfl rfl) ?_ | refine zaw rfl rfl (zav rfl rfl rfl) ?_)
  all_goals (first | refine zat rfl rfl (zah rfl rfl rfl) (zam rfl ta3 rfl) ?_ | refine zat rfl rfl (zah rfl rfl rfl) (zap rfl ta3 rfl rfl rfl rfl rfl) ?_ | refine zaw rfl rfl (zax rfl rfl rfl) ?_ | refine zaw rfl rfl (zav rfl rfl rfl) ?_)
  all_goals (first | refine zat rfl rfl (zah rfl rfl rfl) (za1 rfl ts22 ti3 rfl rfl (by omega) (zb5 (k := s.toNat) (by omega)) rfl) ?_ | refine zat rfl rfl (zah rfl rfl rfl) (zay rfl ts22 ti3 rfl rfl (by omega) (zb5 (k := s.toNat) (by omega))) ?_ | refine zaw rfl rfl (zax rfl rfl rfl) ?_ | refine zaw rfl rfl (zav rfl rfl rfl) ?_)
  all_goals (first | refine zat rfl rfl (zah rfl rfl rfl) (zam rfl ta3 rfl) ?_ | refine zat rfl rfl (zah rfl rfl rfl) (zap rfl ta3 rfl rfl rfl rfl rfl) ?_ | refine zaw rfl rfl (zax rfl rfl rfl) ?_ | refine zaw rfl rfl (zav rfl rfl rfl) ?_)
  all_goals (first | refine zdg rfl rfl (zah rfl rfl rfl) (zcp rfl rfl rfl) (fun h85 => ?_) (fun h85 => ?_) | refine zdh rfl rfl (zah rfl rfl rfl) (zcp rfl rfl rfl) (fun h85 => ?_) (fun h85 => ?_) | refine zaw rfl rfl (zax rfl rfl rfl) ?_ | refine zaw rfl rfl (zav rfl rfl rfl) ?_)
  all_goals (first | refine zat rfl rfl (zaa rfl) (zbx rfl rfl rfl) ?_ | refine zat rfl rfl (zaa rfl) (zby rfl rfl rfl) ?_ | refine zat rfl rfl (zaa rfl) (zbk rfl rfl rfl) ?_ | refine zat rfl rfl (zaa rfl) (zbl rfl rfl rfl) ?_)
  all_goals refine qx_nil ?_
  all_goals (repeat (first | refine zag ?_ | refine zar ?_ | refine zad ?_ | refine zas ?_ | refine zac ?_))
  all_goals (first | refine zbp rfl ?_ | refine zbm rfl ?_)
  all_goals (repeat (first | refine zag ?_ | refine zar ?_ | refine zad ?_ | refine zas ?_ | refine zac ?_))
  all_goals first
    | skip
      rw [rgt_bad hn0 hL0 (by omega)] at HR
      refine zaf ?_
      refine zab rfl rfl (zaa rfl) (mv_s (.inl rfl) rfl) ?_
      refine zab rfl rfl (zaa rfl) (mv_s (.inr rfl) rfl) ?_
      refine zab rfl rfl (zaa rfl) (mv_s (.inr rfl) rfl) ?_
      refine zan ?_
      repeat (first | refine zag ?_ | refine zar ?_ | refine zad ?_ | refine zas ?_ | refine zac ?_)
      (refine zbs ?_; repeat (first | refine zb8 ?_ | refine zb9 ?_))
      exact post_bi (N := 0) (.inr rfl) rfl rfl HR
    | skip
  have hs : s = (s.toNat : Int) := by omega
  have hsl : s.toNat < l.length := by omega
  have b1 := z3 s.toNat hsl
  have b2 := z4 s.toNat hsl
  obtain ⟨a, b, hab⟩ := two_of (L := L) (by omega)
  subst hab
  rw [rgt_two hn0 ⟨by omega, by omega, by omega, by omega, by omega⟩] at HR
  have hbx : BX l lo hi := ⟨z1, z2, z3, z4⟩
  have hhv := halves_pf (P := P) lo hi s.toNat t (by omega) (by omega) (by omega) (by omega) (by omega)
  rw [← hs] at hhv
  have r1 := IH a (by simp) lo (setI hi s.toNat t) (n - 1) (hbx.hi hsl (by omega) (by omega)) (by omega) (by omega)
  have r1b := rgtE_bd d l c a lo (setI hi s.toNat t) (n - 1) (by omega)
  generalize rgtE d l c a lo (setI hi s.toNat t) (n - 1) = x at HR r1 r1b
  have r2 := IH b (by simp) (setI lo s.toNat (t + 1)) hi x.2 (hbx.lo hsl (by omega) (by omega)) r1b.1 (by omega)
  obtain ⟨xz, xn⟩ := x
  replace r1 : Pure P 17 [eL eI d, eL eSh l, eBx lo (setI hi s.toNat t), eBr a, eI c, eI (n - 1)] (.tup [eB xz, eI xn]) := r1
  dsimp only at HR r2
  generalize rgtE d l c b (setI lo s.toNat (t + 1)) hi xn = x2 at HR r2
  obtain ⟨yz, yn⟩ := x2
  replace r2 : Pure P 17 [eL eI d, eL eSh l, eBx (setI lo s.toNat (t + 1)) hi, eBr b, eI c, eI xn] (.tup [eB yz, eI yn]) := r2
  obtain ⟨sa, ta, La, ya⟩ := a
  obtain ⟨sb, tb, Lb, yb⟩ := b
  have hixa : (List.map eBr [.mk sa ta La ya, .mk sb tb Lb yb])[0]? = some (.agg [eI sa, eI ta, eL eBr La, eL eF ya]) := by rw [← eBr_mk]; rfl
  have hixb : (List.map eBr [.mk sa ta La ya, .mk sb tb Lb yb])[1]? = some (.agg [eI sb, eI tb, eL eBr Lb, eL eF yb]) := by rw [← eBr_mk]; rfl
  rw [eBr_mk] at r1 r2
  cases xz with
  | false =>
    rw [if_pos rfl] at HR
    refine zaf ?_
    first | refine zab rfl rfl (zaa rfl) (za0 rfl ta51 ti51 rfl rfl) ?_ | refine zab rfl rfl (zaa rfl) (za9 rfl ta51 ti51 rfl rfl rfl rfl rfl) ?_ | refine zab rfl rfl (zaa rfl) (zaz rfl ta51 ti51 rfl (Nat.le_of_ble_eq_true rfl)) ?_ | refine zab rfl rfl (zaa rfl) (zba rfl ta51 ti51 rfl rfl rfl rfl (Nat.le_of_ble_eq_true rfl)) ?_
    first | refine zab rfl rfl (zaa rfl) (zal rfl zdc (by decide) rfl) ?_ | refine zab rfl rfl (zaa rfl) (zai rfl zdc (by decide) rfl) ?_
    first | refine zab rfl rfl (zaa rfl) (zam rfl ta3 rfl) ?_ | refine zab rfl rfl (zaa rfl) (zap rfl ta3 rfl rfl rfl rfl rfl) ?_
    first | refine zab rfl rfl (zaa rfl) (zal rfl tf29_1 (by decide) rfl) ?_ | refine zab rfl rfl (zaa rfl) (zai rfl tf29_1 (by decide) rfl) ?_
    first | refine zab rfl rfl (zaa rfl) (zam rfl ta3 rfl) ?_ | refine zab rfl rfl (zaa rfl) (zap rfl ta3 rfl rfl rfl rfl rfl) ?_
    refine zab rfl rfl (zaa rfl) (za5 rfl rfl (hhv) (zau rfl (zau rfl (zau rfl zbj)))) ?_
    first | refine zab rfl rfl (zaa rfl) (mv_tup (.inl rfl) rfl) ?_ | refine zab rfl rfl (zaa rfl) (mv_s (.inl rfl) rfl) ?_
    refine zab rfl rfl (zaa rfl) (zbf rfl rfl rfl) ?_
    refine zab rfl rfl (zaa rfl) (zbf rfl rfl rfl) ?_
    refine zab rfl rfl (zaa rfl) (zbr rfl ti51 rfl rfl) ?_
    refine zab rfl rfl (zaa rfl) (zbr rfl ti51 rfl rfl) ?_
    refine zb0 rfl (zaa rfl) (zbd rfl ti51 rfl rfl rfl rfl rfl rfl (by decide) (by decide)) ?_
    refine zb0 rfl (zaa rfl) (zbd rfl ti51 rfl rfl rfl rfl rfl rfl (by decide) (by decide)) ?_
    refine zan ?_
    repeat (first | refine zag ?_ | refine zar ?_ | refine zad ?_ | refine zas ?_ | refine zac ?_)
    refine zca (zcd (id := 2) rfl) ?_
    refine zca (zcy (d := 14) rfl rfl rfl) ?_
    refine zca (zcd (id := 3) rfl) ?_
    refine zca (zcy (d := 15) rfl rfl rfl) ?_
    all_goals refine zch hmix ?_
    all_goals refine zda ?_
    all_goals (first | refine zao rfl rfl (zaa rfl) (fun _ => (za6 (.inl rfl) rfl)) ?_ | refine zao rfl rfl (zaa rfl) (fun _ => (zbg (.inl rfl) rfl)) ?_ | refine zao rfl rfl (zaa rfl) (fun _ => (mv_s (.inl rfl) rfl)) ?_ | refine zao rfl rfl (zaa rfl) (fun _ => (za7 (.inl rfl) rfl)) ?_)
    all_goals (first | refine zao rfl rfl (zaa rfl) (fun _ => (za6 (.inl rfl) rfl)) ?_ | refine zao rfl rfl (zaa rfl) (fun _ => (zbg (.inl rfl) rfl)) ?_ | refine zao rfl rfl (zaa rfl) (fun _ => (mv_s (.inl rfl) rfl)) ?_ | refine zao rfl rfl (zaa rfl) (fun _ => (za7 (.inl rfl) rfl)) ?_)
    all_goals (first | refine zao rfl rfl (zaa rfl) (fun _ => (za0 rfl ta51 ti51 rfl rfl)) ?_ | refine zbz rfl rfl (zaa rfl) (zce rfl ta51 ti51 rfl rfl rfl rfl rfl) ?_ | refine zao rfl rfl (zaa rfl) (fun _ => (zaz rfl ta51 ti51 rfl (Nat.le_of_ble_eq_true rfl))) ?_ | refine zbz rfl rfl (zaa rfl) (zcn rfl ta51 ti51 rfl rfl rfl rfl (Nat.le_of_ble_eq_true rfl)) ?_)
    all_goals (first | refine zao rfl rfl (zaa rfl) (fun _ => (zal rfl tf29_2 (by decide) rfl)) ?_ | refine zao rfl rfl (zaa rfl) (fun _ => (zai rfl tf29_2 (by decide) rfl)) ?_)
    all_goals (first | refine zao rfl rfl (zaa rfl) (fun _ => (zam rfl ta26 rfl)) ?_ | refine zbz rfl rfl (zaa rfl) (zc9 rfl ta26 rfl rfl rfl rfl rfl) ?_)
    all_goals (first | refine zao rfl rfl (zaa rfl) (fun _ => (za1 rfl ts26 ti29 rfl rfl (show (0 : Int) = ((0 : Nat) : Int) from rfl) hixa rfl)) ?_ | refine zao rfl rfl (zaa rfl) (fun _ => (zay rfl ts26 ti29 rfl rfl (show (0 : Int) = ((0 : Nat) : Int) from rfl) hixa)) ?_)
    all_goals (first | refine zao rfl rfl (zaa rfl) (fun _ => (za0 rfl ta29 ti29 rfl rfl)) ?_ | refine zbz rfl rfl (zaa rfl) (zce rfl ta29 ti29 rfl rfl rfl rfl rfl) ?_ | refine zao rfl rfl (zaa rfl) (fun _ => (zaz rfl ta29 ti29 rfl (Nat.le_of_ble_eq_true rfl))) ?_ | refine zbz rfl rfl (zaa rfl) (zcn rfl ta29 ti29 rfl rfl rfl rfl (Nat.le_of_ble_eq_true rfl)) ?_)
    all_goals refine zao rfl rfl (zaa rfl) (fun _ => (mv_s (.inl rfl) rfl)) ?_
    all_goals refine zao rfl rfl (zaa rfl) (fun _ => (mv_s (.inl rfl) rfl)) ?_
    all_goals refine zao rfl rfl (zaa rfl) (fun _ => (za5 rfl rfl (r1) (zau rfl (zau rfl (zau rfl (zau rfl (zau rfl (zau rfl zbj)))))))) ?_
    all_goals (first | refine zao rfl rfl (zaa rfl) (fun _ => (mv_tup (.inl rfl) rfl)) ?_ | refine zao rfl rfl (zaa rfl) (fun _ => (mv_s (.inl rfl) rfl)) ?_)
    all_goals refine zao rfl rfl (zaa rfl) (fun _ => (zbf rfl rfl rfl)) ?_
    all_goals refine zao rfl rfl (zaa rfl) (fun _ => (zbf rfl rfl rfl)) ?_
    all_goals refine zao rfl rfl (zaa rfl) (fun _ => (mv_s (.inr rfl) rfl)) ?_
    all_goals refine zao rfl rfl (zaa rfl) (fun _ => (mv_s (.inr rfl) rfl)) ?_
    all_goals refine ex_nil (by kernel_rfl) ?_
    all_goals (repeat (first | refine zag ?_ | refine zar ?_ | refine zad ?_ | refine zas ?_ | refine zac ?_))
    refine zaf ?_
    refine zab rfl rfl (zaa rfl) (mv_s (.inl rfl) rfl) ?_
    first | refine zab rfl rfl (zaa rfl) (zcf rfl rfl) ?_ | refine zab rfl rfl (zaa rfl) (zcj rfl rfl) ?_
    refine zan ?_
    repeat (first | refine zag ?_ | refine zar ?_ | refine zad ?_ | refine zas ?_ | refine zac ?_)
    refine zbp rfl ?_
    repeat (first | refine zag ?_ | refine zar ?_ | refine zad ?_ | refine zas ?_ | refine zac ?_)
    refine zaf ?_
    refine zab rfl rfl (zaa rfl) (mv_s (.inl rfl) rfl) ?_
    refine zab rfl rfl (zaa rfl) (mv_s (.inr rfl) rfl) ?_
    refine zab rfl rfl (zaa rfl) (mv_s (.inr rfl) rfl) ?_
    refine zan ?_
    repeat (first | refine zag ?_ | refine zar ?_ | refine zad ?_ | refine zas ?_ | refine zac ?_)
    (refine zbs ?_; repeat (first | refine zb8 ?_ | refine zb9 ?_))
    exact post_bi (N := 0) (.inr rfl) rfl rfl HR
  | true =>
    rw [if_neg (by simp)] at HR
    refine zaf ?_
    first | refine zab rfl rfl (zaa rfl) (za0 rfl ta51 ti51 rfl rfl) ?_ | refine zab rfl rfl (zaa rfl) (za9 rfl ta51 ti51 rfl rfl rfl rfl rfl) ?_ | refine zab rfl rfl (zaa rfl) (zaz rfl ta51 ti51 rfl (Nat.le_of_ble_eq_true rfl)) ?_ | refine zab rfl rfl (zaa rfl) (zba rfl ta51 ti51 rfl rfl rfl rfl (Nat.le_of_ble_eq_true rfl)) ?_
    first | refine zab rfl rfl (zaa rfl) (zal rfl zdc (by decide) rfl) ?_ | refine zab rfl rfl (zaa rfl) (zai rfl zdc (by decide) rfl) ?_
    first | refine zab rfl rfl (zaa rfl) (zam rfl ta3 rfl) ?_ | refine zab rfl rfl (zaa rfl) (zap rfl ta3 rfl rfl rfl rfl rfl) ?_
    first | refine zab rfl rfl (zaa rfl) (zal rfl tf29_1 (by decide) rfl) ?_ | refine zab rfl rfl (zaa rfl) (zai rfl tf29_1 (by decide) rfl) ?_
    first | refine zab rfl rfl (zaa rfl) (zam rfl ta3 rfl) ?_ | refine zab rfl rfl (zaa rfl) (zap rfl ta3 rfl rfl rfl rfl rfl) ?_
    refine zab rfl rfl (zaa rfl) (za5 rfl rfl (hhv) (zau rfl (zau rfl (zau rfl zbj)))) ?_
    first | refine zab rfl rfl (zaa rfl) (mv_tup (.inl rfl) rfl) ?_ | refine zab rfl rfl (zaa rfl) (mv_s (.inl rfl) rfl) ?_
    refine zab rfl rfl (zaa rfl) (zbf rfl rfl rfl) ?_
    refine zab rfl rfl (zaa rfl) (zbf rfl rfl rfl) ?_
    refine zab rfl rfl (zaa rfl) (zbr rfl ti51 rfl rfl) ?_
    refine zab rfl rfl (zaa rfl) (zbr rfl ti51 rfl rfl) ?_
    refine zb0 rfl (zaa rfl) (zbd rfl ti51 rfl rfl rfl rfl rfl rfl (by decide) (by decide)) ?_
    refine zb0 rfl (zaa rfl) (zbd rfl ti51 rfl rfl rfl rfl rfl rfl (by decide) (by decide)) ?_
    refine zan ?_
    repeat (first | refine zag ?_ | refine zar ?_ | refine zad ?_ | refine zas ?_ | refine zac ?_)
    refine zca (zcd (id := 2) rfl) ?_
    refine zca (zcy (d := 14) rfl rfl rfl) ?_
    refine zca (zcd (id := 3) rfl) ?_
    refine zca (zcy (d := 15) rfl rfl rfl) ?_
    all_goals refine zch hmix ?_
    all_goals refine zda ?_
    all_goals (first | refine zao rfl rfl (zaa rfl) (fun _ => (za6 (.inl rfl) rfl)) ?_ | refine zao rfl rfl (zaa rfl) (fun _ => (zbg (.inl rfl) rfl)) ?_ | refine zao rfl rfl (zaa rfl) (fun _ => (mv_s (.inl rfl) rfl)) ?_ | refine zao rfl rfl (zaa rfl) (fun _ => (za7 (.inl rfl) rfl)) ?_)
    all_goals (first | refine zao rfl rfl (zaa rfl) (fun _ => (za6 (.inl rfl) rfl)) ?_ | refine zao rfl rfl (zaa rfl) (fun _ => (zbg (.inl rfl) rfl)) ?_ | refine zao rfl rfl (zaa rfl) (fun _ => (mv_s (.inl rfl) rfl)) ?_ | refine zao rfl rfl (zaa rfl) (fun _ => (za7 (.inl rfl) rfl)) ?_)
    all_goals (first | refine zao rfl rfl (zaa rfl) (fun _ => (za0 rfl ta51 ti51 rfl rfl)) ?_ | refine zbz rfl rfl (zaa rfl) (zce rfl ta51 ti51 rfl rfl rfl rfl rfl) ?_ | refine zao rfl rfl (zaa rfl) (fun _ => (zaz rfl ta51 ti51 rfl (Nat.le_of_ble_eq_true rfl))) ?_ | refine zbz rfl rfl (zaa rfl) (zcn rfl ta51 ti51 rfl rfl rfl rfl (Nat.le_of_ble_eq_true rfl)) ?_)
    all_goals (first | refine zao rfl rfl (zaa rfl) (fun _ => (zal rfl tf29_2 (by decide) rfl)) ?_ | refine zao rfl rfl (zaa rfl) (fun _ => (zai rfl tf29_2 (by decide) rfl)) ?_)
    all_goals (first | refine zao rfl rfl (zaa rfl) (fun _ => (zam rfl ta26 rfl)) ?_ | refine zbz rfl rfl (zaa rfl) (zc9 rfl ta26 rfl rfl rfl rfl rfl) ?_)
    all_goals (first | refine zao rfl rfl (zaa rfl) (fun _ => (za1 rfl ts26 ti29 rfl rfl (show (0 : Int) = ((0 : Nat) : Int) from rfl) hixa rfl)) ?_ | refine zao rfl rfl (zaa rfl) (fun _ => (zay rfl ts26 ti29 rfl rfl (show (0 : Int) = ((0 : Nat) : Int) from rfl) hixa)) ?_)
    all_goals (first | refine zao rfl rfl (zaa rfl) (fun _ => (za0 rfl ta29 ti29 rfl rfl)) ?_ | refine zbz rfl rfl (zaa rfl) (zce rfl ta29 ti29 rfl rfl rfl rfl rfl) ?_ | refine zao rfl rfl (zaa rfl) (fun _ => (zaz rfl ta29 ti29 rfl (Nat.le_of_ble_eq_true rfl))) ?_ | refine zbz rfl rfl (zaa rfl) (zcn rfl ta29 ti29 rfl rfl rfl rfl (Nat.le_of_ble_eq_true rfl)) ?_)
    all_goals refine zao rfl rfl (zaa rfl) (fun _ => (mv_s (.inl rfl) rfl)) ?_
    all_goals refine zao rfl rfl (zaa rfl) (fun _ => (mv_s (.inl rfl) rfl)) ?_
    all_goals refine zao rfl rfl (zaa rfl) (fun _ => (za5 rfl rfl (r1) (zau rfl (zau rfl (zau rfl (zau rfl (zau rfl (zau rfl zbj)))))))) ?_
    all_goals (first | refine zao rfl rfl (zaa rfl) (fun _ => (mv_tup (.inl rfl) rfl)) ?_ | refine zao rfl rfl (zaa rfl) (fun _ => (mv_s (.inl rfl) rfl)) ?_)
    all_goals refine zao rfl rfl (zaa rfl) (fun _ => (zbf rfl rfl rfl)) ?_
    all_goals refine zao rfl rfl (zaa rfl) (fun _ => (zbf rfl rfl rfl)) ?_
    all_goals refine zao rfl rfl (zaa rfl) (fun _ => (mv_s (.inr rfl) rfl)) ?_
    all_goals refine zao rfl rfl (zaa rfl) (fun _ => (mv_s (.inr rfl) rfl)) ?_
    all_goals refine ex_nil (by kernel_rfl) ?_
    all_goals (repeat (first | refine zag ?_ | refine zar ?_ | refine zad ?_ | refine zas ?_ | refine zac ?_))
    refine zaf ?_
    refine zab rfl rfl (zaa rfl) (mv_s (.inl rfl) rfl) ?_
    first | refine zab rfl rfl (zaa rfl) (zcf rfl rfl) ?_ | refine zab rfl rfl (zaa rfl) (zcj rfl rfl) ?_
    refine zan ?_
    repeat (first | refine zag ?_ | refine zar ?_ | refine zad ?_ | refine zas ?_ | refine zac ?_)
    refine zbm rfl ?_
    repeat (first | refine zag ?_ | refine zar ?_ | refine zad ?_ | refine zas ?_ | refine zac ?_)
    all_goals refine zch hmix ?_
    all_goals refine zda ?_
    all_goals (first | refine zao rfl rfl (zaa rfl) (fun _ => (za6 (.inl rfl) rfl)) ?_ | refine zao rfl rfl (zaa rfl) (fun _ => (zbg (.inl rfl) rfl)) ?_ | refine zao rfl rfl (zaa rfl) (fun _ => (mv_s (.inl rfl) rfl)) ?_ | refine zao rfl rfl (zaa rfl) (fun _ => (za7 (.inl rfl) rfl)) ?_)
    all_goals (first | refine zao rfl rfl (zaa rfl) (fun _ => (za6 (.inl rfl) rfl)) ?_ | refine zao rfl rfl (zaa rfl) (fun _ => (zbg (.inl rfl) rfl)) ?_ | refine zao rfl rfl (zaa rfl) (fun _ => (mv_s (.inl rfl) rfl)) ?_ | refine zao rfl rfl (zaa rfl) (fun _ => (za7 (.inl rfl) rfl)) ?_)
    all_goals (first | refine zao rfl rfl (zaa rfl) (fun _ => (za0 rfl ta51 ti51 rfl rfl)) ?_ | refine zbz rfl rfl (zaa rfl) (zce rfl ta51 ti51 rfl rfl rfl rfl rfl) ?_ | refine zao rfl rfl (zaa rfl) (fun _ => (zaz rfl ta51 ti51 rfl (Nat.le_of_ble_eq_true rfl))) ?_ | refine zbz rfl rfl (zaa rfl) (zcn rfl ta51 ti51 rfl rfl rfl rfl (Nat.le_of_ble_eq_true rfl)) ?_)
    all_goals (first | refine zao rfl rfl (zaa rfl) (fun _ => (zal rfl tf29_2 (by decide) rfl)) ?_ | refine zao rfl rfl (zaa rfl) (fun _ => (zai rfl tf29_2 (by decide) rfl)) ?_)
    all_goals (first | refine zao rfl rfl (zaa rfl) (fun _ => (zam rfl ta26 rfl)) ?_ | refine zbz rfl rfl (zaa rfl) (zc9 rfl ta26 rfl rfl rfl rfl rfl) ?_)
    all_goals (first | refine zao rfl rfl (zaa rfl) (fun _ => (za1 rfl ts26 ti29 rfl rfl (show (1 : Int) = ((1 : Nat) : Int) from rfl) hixb rfl)) ?_ | refine zao rfl rfl (zaa rfl) (fun _ => (zay rfl ts26 ti29 rfl rfl (show (1 : Int) = ((1 : Nat) : Int) from rfl) hixb)) ?_)
    all_goals (first | refine zao rfl rfl (zaa rfl) (fun _ => (za0 rfl ta29 ti29 rfl rfl)) ?_ | refine zbz rfl rfl (zaa rfl) (zce rfl ta29 ti29 rfl rfl rfl rfl rfl) ?_ | refine zao rfl rfl (zaa rfl) (fun _ => (zaz rfl ta29 ti29 rfl (Nat.le_of_ble_eq_true rfl))) ?_ | refine zbz rfl rfl (zaa rfl) (zcn rfl ta29 ti29 rfl rfl rfl rfl (Nat.le_of_ble_eq_true rfl)) ?_)
    all_goals refine zao rfl rfl (zaa rfl) (fun _ => (mv_s (.inl rfl) rfl)) ?_
    all_goals refine zao rfl rfl (zaa rfl) (fun _ => (mv_s (.inl rfl) rfl)) ?_
    all_goals refine zao rfl rfl (zaa rfl) (fun _ => (za5 rfl rfl (r2) (zau rfl (zau rfl (zau rfl (zau rfl (zau rfl (zau rfl zbj)))))))) ?_
    all_goals refine zao rfl rfl (zaa rfl) (fun _ => (zbf rfl rfl rfl)) ?_
    all_goals refine zao rfl rfl (zaa rfl) (fun _ => (zbf rfl rfl rfl)) ?_
    all_goals refine zao rfl rfl (zaa rfl) (fun _ => (mv_s (.inr rfl) rfl)) ?_
    all_goals refine zao rfl rfl (zaa rfl) (fun _ => (mv_s (.inr rfl) rfl)) ?_
    all_goals refine ex_nil (by kernel_rfl) ?_
    all_goals (repeat (first | refine zag ?_ | refine zar ?_ | refine zad ?_ | refine zas ?_ | refine zac ?_))
    (refine zbs ?_; repeat (first | refine zb8 ?_ | refine zb9 ?_))
    exact post_bi (N := 0) (.inr rfl) rfl rfl HR
theorem right_pf (d : List Int) (l : List Sft) (c : Int) (hv : zde d l = true) (hc1 : 0 ≤ c) (hc2 : c ≤ 1000000) (b : Br) (lo hi : List Int) (n : Int) (hb : BX l lo hi) (h1 : 0 ≤ n) (h2 : n ≤ 20000) : Pure P 17 [eL eI d, eL eSh l, eBx lo hi, eBr b, eI c, eI n] (eBI (rgtE d l c b lo hi n)) :=
  right_n d l c hv hc1 hc2 (SizeOf.sizeOf b + 1) b lo hi n (Nat.lt_succ_self _) hb h1 h2
end Go.Proofs.YtmoipmnhgdmkpaaGreat.Aw
end
