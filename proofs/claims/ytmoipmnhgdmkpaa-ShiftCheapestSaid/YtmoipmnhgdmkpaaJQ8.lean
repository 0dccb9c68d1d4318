/-
  Texts joined: SxB, ShF. Conditions: none.
-/
import Derived.Test.YtmoipmnhgdmkpaaJQ3
import Derived.Test.YtmoipmnhgdmkpaaJQ4
import Derived.Test.YtmoipmnhgdmkpaaJQ7
section
namespace Go.Proofs.Ytmoipmnhgdmkpaa.Aw
set_option linter.unusedSimpArgs false
set_option linter.unusedVariables false
open Go.RowKit Go.Proofs
variable {P : Program} [IsP P]

theorem fvalid1_pf (a : Fr) : Pure P 74 [eF a] (eB (!a.okB)) := by
  refine aw_fn (by rw [IsP.eq (P := P)]; exact Try.func74) rfl rfl rfl rfl rfl (by repeat' (first | exact Lo.s _ | exact zai | refine zad ?_ ?_ | refine zak ?_ | refine Lo.cells ?_ | refine Lo.agg _ ?_ | refine Lo.ref _ ?_ | refine Lo.tup _ ?_ | refine Lo.fn _ _ ?_ | refine Lo.sl _ ?_ | intro _)) (by repeat' (first | exact Lo.s _ | exact zai | refine zad ?_ ?_ | refine zak ?_ | refine Lo.cells ?_ | refine Lo.agg _ ?_ | refine Lo.ref _ ?_ | refine Lo.tup _ ?_ | refine Lo.fn _ _ ?_ | refine Lo.sl _ ?_ | intro _)) (by simp only [argF]; rfl) ?_
  repeat (first | refine zag ?_ | refine zap ?_ | refine zae ?_ | refine zar ?_ | refine zac ?_)
  refine zaf ?_
  refine zab rfl rfl (zaa rfl) (does_box rfl rfl rfl rfl) ?_
  refine zbo (wk_froz (id := 0) rfl) (zbo (wk_ref (d := 1) rfl rfl rfl) ?_)
  refine zab rfl rfl (zaa rfl) (mv_s (.inr rfl) rfl) ?_
  refine zam ?_
  repeat (first | refine zag ?_ | refine zap ?_ | refine zae ?_ | refine zar ?_ | refine zac ?_)
  refine zaf ?_
  first | refine zab rfl rfl (zaa rfl) (zax rfl ta59 ti59 rfl rfl) ?_ | refine zab rfl rfl (zaa rfl) (za6 rfl ta59 ti59 rfl rfl rfl rfl rfl) ?_ | refine zab rfl rfl (zaa rfl) (zav rfl ta59 ti59 rfl (Nat.le_of_ble_eq_true rfl)) ?_ | refine zab rfl rfl (zaa rfl) (za7 rfl ta59 ti59 rfl rfl rfl rfl (Nat.le_of_ble_eq_true rfl)) ?_
  refine zab rfl rfl (zaa rfl) (za2 rfl rfl (fValid_pf _) (zat rfl zbl)) ?_
  first | refine zab rfl rfl (zaa rfl) (does_notp rfl rfl) ?_ | refine zab rfl rfl (zaa rfl) (does_not rfl rfl) ?_
  refine zab rfl rfl (zaa rfl) (mv_s (.inr rfl) rfl) ?_
  refine zam ?_
  repeat (first | refine zag ?_ | refine zap ?_ | refine zae ?_ | refine zar ?_ | refine zac ?_)
  (refine zbw ?_; repeat (first | refine ath_r ?_ | refine abl_r ?_))
  exact post1 (.inr rfl) rfl (congrArg eB (by simp [Fr.okB]))
theorem fvalid_pf (l : List Fr) : Pure P 67 [eL eF l] (eB (l.all Fr.okB)) := by
  have hc := containsFF_pf (P := P) 74 [] (fun a => !a.okB) l lo_F (.fn _ _ (by simp)) (fun a _ => fvalid1_pf a)
  refine aw_fn (by rw [IsP.eq (P := P)]; exact Try.func67) rfl rfl rfl rfl rfl (by repeat' (first | exact Lo.s _ | exact zai | refine zad ?_ ?_ | refine zak ?_ | refine Lo.cells ?_ | refine Lo.agg _ ?_ | refine Lo.ref _ ?_ | refine Lo.tup _ ?_ | refine Lo.fn _ _ ?_ | refine Lo.sl _ ?_ | intro _)) (by repeat' (first | exact Lo.s _ | exact zai | refine zad ?_ ?_ | refine zak ?_ | refine Lo.cells ?_ | refine Lo.agg _ ?_ | refine Lo.ref _ ?_ | refine Lo.tup _ ?_ | refine Lo.fn _ _ ?_ | refine Lo.sl _ ?_ | intro _)) (by simp only [argF]; rfl) ?_
  repeat (first | refine zag ?_ | refine zap ?_ | refine zae ?_ | refine zar ?_ | refine zac ?_)
  refine zaf ?_
  refine zab rfl rfl (zaa rfl) (mv_s (.inr rfl) rfl) ?_
  refine zam ?_
  repeat (first | refine zag ?_ | refine zap ?_ | refine zae ?_ | refine zar ?_ | refine zac ?_)
  refine zaf ?_
  first | refine zab rfl rfl (zaa rfl) (za9 (.inl rfl) rfl) ?_ | refine zab rfl rfl (zaa rfl) (zbp (.inl rfl) rfl) ?_ | refine zab rfl rfl (zaa rfl) (mv_s (.inl rfl) rfl) ?_ | refine zab rfl rfl (zaa rfl) (zba (.inl rfl) rfl) ?_
  refine zab rfl rfl (zaa rfl) (za2 rfl rfl (by assumption) (zat rfl (zat rfl zbl))) ?_
  first | refine zab rfl rfl (zaa rfl) (does_notp rfl rfl) ?_ | refine zab rfl rfl (zaa rfl) (does_not rfl rfl) ?_
  refine zab rfl rfl (zaa rfl) (mv_s (.inr rfl) rfl) ?_
  refine zam ?_
  repeat (first | refine zag ?_ | refine zap ?_ | refine zae ?_ | refine zar ?_ | refine zac ?_)
  (refine zbw ?_; repeat (first | refine ath_r ?_ | refine abl_r ?_))
  exact post1 (.inr rfl) rfl (congrArg eB (all_okB l).symm)
/-- the sum goes on -/
def dotG : Fr → List Fr → List Fr → FE
  | acc, a :: ta, b :: tb => if (mulE a b).e ≠ 0 then FE.err (mulE a b).e else if (addE acc ⟨(mulE a b).n, (mulE a b).d⟩).e ≠ 0 then FE.err (addE acc ⟨(mulE a b).n, (mulE a b).d⟩).e else dotG ⟨(addE acc ⟨(mulE a b).n, (mulE a b).d⟩).n, (addE acc ⟨(mulE a b).n, (mulE a b).d⟩).d⟩ ta tb
  | acc, _, _ => ⟨acc.n, acc.d, 0⟩
def dotE (a b : List Fr) : FE := if ¬ (a.all Fr.okB = true ∧ b.all Fr.okB = true) then FE.err 1 else if 1000 < a.length ∨ 1000 < b.length then FE.err 5 else if a.length ≠ b.length then FE.err 29 else dotG (Fr.of 0) a b
theorem dotG_step {acc : Fr} {a b : List Fr} {k : Nat} (h1 : k < a.length) (h2 : k < b.length) : dotG acc (a.drop k) (b.drop k) = if (mulE (gti a k) (gti b k)).e ≠ 0 then FE.err (mulE (gti a k) (gti b k)).e else if (addE acc ⟨(mulE (gti a k) (gti b k)).n, (mulE (gti a k) (gti b k)).d⟩).e ≠ 0 then FE.err (addE acc ⟨(mulE (gti a k) (gti b k)).n, (mulE (gti a k) (gti b k)).d⟩).e else dotG ⟨(addE acc ⟨(mulE (gti a k) (gti b k)).n, (mulE (gti a k) (gti b k)).d⟩).n, (addE acc ⟨(mulE (gti a k) (gti b k)).n, (mulE (gti a k) (gti b k)).d⟩).d⟩ (a.drop (k + 1)) (b.drop (k + 1)) := by
  have e1 : a.drop k = gti a k :: a.drop (k + 1) := by
    rw [List.drop_eq_getElem_cons h1]
    have := gti_get h1
    rw [List.getElem?_eq_getElem h1] at this
    rw [Option.some.inj this]
  have e2 : b.drop k = gti b k :: b.drop (k + 1) := by
    rw [List.drop_eq_getElem_cons h2]
    have := gti_get h2
    rw [List.getElem?_eq_getElem h2] at this
    rw [Option.some.inj this]
  rw [e1, e2, dotG]
theorem dotG_end {acc : Fr} {a b : List Fr} {k : Nat} (h : k = a.length) : dotG acc (a.drop k) (b.drop k) = ⟨acc.n, acc.d, 0⟩ := by
  subst h
  rw [List.drop_length, dotG]
  intro a ta b tb h; cases h
theorem dotE_arg {a b : List Fr} (h : ¬ (a.all Fr.okB = true ∧ b.all Fr.okB = true)) : dotE a b = ⟨0, 0, 1⟩ := if_pos h
theorem dotE_full {a b : List Fr} (h1 : a.all Fr.okB = true) (h2 : b.all Fr.okB = true) (h : 1000 < a.length ∨ 1000 < b.length) : dotE a b = ⟨0, 0, 5⟩ := by unfold dotE; rw [if_neg (fun h => h ⟨h1, h2⟩), if_pos h]; rfl
theorem dotE_size {a b : List Fr} (h1 : a.all Fr.okB = true) (h2 : b.all Fr.okB = true) (h3 : ¬ (1000 < a.length ∨ 1000 < b.length)) (h : a.length ≠ b.length) : dotE a b = ⟨0, 0, 29⟩ := by unfold dotE; rw [if_neg (fun h => h ⟨h1, h2⟩), if_neg h3, if_pos h]; rfl
theorem dotE_go {a b : List Fr} (h1 : a.all Fr.okB = true) (h2 : b.all Fr.okB = true) (h3 : ¬ (1000 < a.length ∨ 1000 < b.length)) (h : a.length = b.length) : dotE a b = dotG (Fr.of 0) (a.drop 0) (b.drop 0) := by unfold dotE; rw [if_neg (fun h => h ⟨h1, h2⟩), if_neg h3, if_neg (fun h' => h' h)]; rfl
set_option maxHeartbeats 1000000 in
theorem fDot_pf (a b : List Fr) : Pure P 64 [eL eF a, eL eF b] (eFE (dotE a b)) := by
  refine aw_fn (by rw [IsP.eq (P := P)]; exact Try.func64) rfl rfl rfl rfl rfl (by repeat' (first | exact Lo.s _ | exact zai | refine zad ?_ ?_ | refine zak ?_ | refine Lo.cells ?_ | refine Lo.agg _ ?_ | refine Lo.ref _ ?_ | refine Lo.tup _ ?_ | refine Lo.fn _ _ ?_ | refine Lo.sl _ ?_ | intro _)) (by repeat' (first | exact Lo.s _ | exact zai | refine zad ?_ ?_ | refine zak ?_ | refine Lo.cells ?_ | refine Lo.agg _ ?_ | refine Lo.ref _ ?_ | refine Lo.tup _ ?_ | refine Lo.fn _ _ ?_ | refine Lo.sl _ ?_ | intro _)) (by simp only [argF]; rfl) ?_
  repeat (first | refine zag ?_ | refine zap ?_ | refine zae ?_ | refine zar ?_ | refine zac ?_)
  refine aw_bdm (d := 0) rfl (fun hm1 => ?_)
  refine aw_bdm (d := 1) rfl (fun hm2 => ?_)
  unfold maxLen at hm1 hm2
  refine zaf ?_
  refine zab rfl rfl (zaa rfl) (zbt rfl ti59 rfl rfl) ?_
  refine zab rfl rfl (zaa rfl) (mv_s (.inr rfl) rfl) ?_
  refine zam ?_
  repeat (first | refine zag ?_ | refine zap ?_ | refine zae ?_ | refine zar ?_ | refine zac ?_)
  all_goals refine zaf ?_
  all_goals (first | refine zab rfl rfl (zaa rfl) (za9 (.inl rfl) rfl) ?_ | refine zab rfl rfl (zaa rfl) (zbp (.inl rfl) rfl) ?_ | refine zab rfl rfl (zaa rfl) (mv_s (.inl rfl) rfl) ?_ | refine zab rfl rfl (zaa rfl) (zba (.inl rfl) rfl) ?_)
  all_goals (first | refine zbm rfl rfl (zaa rfl) (za2 rfl rfl (fvalid_pf _) (zat rfl zbl)) (fun h12 => ?_) (fun h12 => ?_) | refine zbn rfl rfl (zaa rfl) (za2 rfl rfl (fvalid_pf _) (zat rfl zbl)) (fun h12 => ?_) (fun h12 => ?_))
  all_goals (first | refine zab rfl rfl (zaa rfl) (does_notp rfl rfl) ?_ | refine zab rfl rfl (zaa rfl) (does_not rfl rfl) ?_)
  all_goals refine zab rfl rfl (zaa rfl) (mv_s (.inl rfl) rfl) ?_
  all_goals (first | refine zab rfl rfl (zah rfl rfl rfl) (za9 (.inl rfl) rfl) ?_ | refine zab rfl rfl (zah rfl rfl rfl) (zbp (.inl rfl) rfl) ?_ | refine zab rfl rfl (zah rfl rfl rfl) (mv_s (.inl rfl) rfl) ?_ | refine zab rfl rfl (zah rfl rfl rfl) (zba (.inl rfl) rfl) ?_ | refine zaj rfl rfl (zaw rfl rfl rfl) ?_ | refine zaj rfl rfl (zau rfl rfl rfl) ?_)
  all_goals (first | refine zbm rfl rfl (zah rfl rfl rfl) (za2 rfl rfl (fvalid_pf _) (zat rfl zbl)) (fun h16 => ?_) (fun h16 => ?_) | refine zbn rfl rfl (zah rfl rfl rfl) (za2 rfl rfl (fvalid_pf _) (zat rfl zbl)) (fun h16 => ?_) (fun h16 => ?_) | refine zaj rfl rfl (zaw rfl rfl rfl) ?_ | refine zaj rfl rfl (zau rfl rfl rfl) ?_)
  all_goals (first | refine zab rfl rfl (zah rfl rfl rfl) (does_notp rfl rfl) ?_ | refine zab rfl rfl (zah rfl rfl rfl) (does_not rfl rfl) ?_ | refine zaj rfl rfl (zaw rfl rfl rfl) ?_ | refine zaj rfl rfl (zau rfl rfl rfl) ?_)
  all_goals (first | refine zab rfl rfl (zaa rfl) (pickT_s rfl rfl rfl) ?_ | refine zab rfl rfl (zaa rfl) (pickF_s rfl rfl rfl) ?_ | refine zab rfl rfl (zaa rfl) (zbi rfl rfl rfl) ?_ | refine zab rfl rfl (zaa rfl) (zbj rfl rfl rfl) ?_)
  all_goals refine zab rfl rfl (zaa rfl) (mv_s (.inr rfl) rfl) ?_
  all_goals refine zam ?_
  all_goals (repeat (first | refine zag ?_ | refine zap ?_ | refine zae ?_ | refine zar ?_ | refine zac ?_))
  all_goals (first | refine zbv rfl ?_ | refine zbr rfl ?_)
  all_goals (repeat (first | refine zag ?_ | refine zap ?_ | refine zae ?_ | refine zar ?_ | refine zac ?_))
  · skip
    all_goals refine zaf ?_
    all_goals (first | refine zab rfl rfl (zaa rfl) (za9 (.inl rfl) rfl) ?_ | refine zab rfl rfl (zaa rfl) (zbp (.inl rfl) rfl) ?_ | refine zab rfl rfl (zaa rfl) (mv_s (.inl rfl) rfl) ?_ | refine zab rfl rfl (zaa rfl) (zba (.inl rfl) rfl) ?_)
    all_goals (first | refine zab rfl rfl (zaa rfl) (za3 rfl ts27 rfl) ?_ | refine zab rfl rfl (zaa rfl) (za8 rfl ts27 rfl) ?_ | refine zab rfl rfl (zaa rfl) (za0 rfl ts27 rfl) ?_ | refine zab rfl rfl (zaa rfl) (zbe rfl ts27 rfl) ?_ | refine zab rfl rfl (zaa rfl) (za1 rfl ts27 rfl) ?_)
    all_goals (first | refine zbm rfl rfl (zaa rfl) (does_gtr rfl rfl rfl) (fun h23 => ?_) (fun h23 => ?_) | refine zbn rfl rfl (zaa rfl) (does_gtr rfl rfl rfl) (fun h23 => ?_) (fun h23 => ?_))
    all_goals refine zab rfl rfl (zaa rfl) (mv_s (.inl rfl) rfl) ?_
    all_goals (first | refine zab rfl rfl (zah rfl rfl rfl) (za9 (.inl rfl) rfl) ?_ | refine zab rfl rfl (zah rfl rfl rfl) (zbp (.inl rfl) rfl) ?_ | refine zab rfl rfl (zah rfl rfl rfl) (mv_s (.inl rfl) rfl) ?_ | refine zab rfl rfl (zah rfl rfl rfl) (zba (.inl rfl) rfl) ?_ | refine zaj rfl rfl (zaw rfl rfl rfl) ?_ | refine zaj rfl rfl (zau rfl rfl rfl) ?_)
    all_goals (first | refine zab rfl rfl (zah rfl rfl rfl) (za3 rfl ts27 rfl) ?_ | refine zab rfl rfl (zah rfl rfl rfl) (za8 rfl ts27 rfl) ?_ | refine zab rfl rfl (zah rfl rfl rfl) (za0 rfl ts27 rfl) ?_ | refine zab rfl rfl (zah rfl rfl rfl) (zbe rfl ts27 rfl) ?_ | refine zab rfl rfl (zah rfl rfl rfl) (za1 rfl ts27 rfl) ?_ | refine zaj rfl rfl (zaw rfl rfl rfl) ?_ | refine zaj rfl rfl (zau rfl rfl rfl) ?_)
    all_goals (first | refine zbm rfl rfl (zah rfl rfl rfl) (does_gtr rfl rfl rfl) (fun h27 => ?_) (fun h27 => ?_) | refine zbn rfl rfl (zah rfl rfl rfl) (does_gtr rfl rfl rfl) (fun h27 => ?_) (fun h27 => ?_) | refine zaj rfl rfl (zaw rfl rfl rfl) ?_ | refine zaj rfl rfl (zau rfl rfl rfl) ?_)
    all_goals (first | refine zab rfl rfl (zaa rfl) (pickT_s rfl rfl rfl) ?_ | refine zab rfl rfl (zaa rfl) (pickF_s rfl rfl rfl) ?_ | refine zab rfl rfl (zaa rfl) (zbi rfl rfl rfl) ?_ | refine zab rfl rfl (zaa rfl) (zbj rfl rfl rfl) ?_)
    all_goals refine zab rfl rfl (zaa rfl) (mv_s (.inr rfl) rfl) ?_
    all_goals refine zam ?_
    all_goals (repeat (first | refine zag ?_ | refine zap ?_ | refine zae ?_ | refine zar ?_ | refine zac ?_))
    all_goals (first | refine zbv rfl ?_ | refine zbr rfl ?_)
    all_goals (repeat (first | refine zag ?_ | refine zap ?_ | refine zae ?_ | refine zar ?_ | refine zac ?_))
    rotate_left 2
    · have h3 : ¬ (1000 < a.length ∨ 1000 < b.length) := by omega
      all_goals refine zaf ?_
      all_goals (first | refine zab rfl rfl (zaa rfl) (za9 (.inl rfl) rfl) ?_ | refine zab rfl rfl (zaa rfl) (zbp (.inl rfl) rfl) ?_ | refine zab rfl rfl (zaa rfl) (mv_s (.inl rfl) rfl) ?_ | refine zab rfl rfl (zaa rfl) (zba (.inl rfl) rfl) ?_)
      all_goals (first | refine zab rfl rfl (zaa rfl) (za3 rfl ts27 rfl) ?_ | refine zab rfl rfl (zaa rfl) (za8 rfl ts27 rfl) ?_ | refine zab rfl rfl (zaa rfl) (za0 rfl ts27 rfl) ?_ | refine zab rfl rfl (zaa rfl) (zbe rfl ts27 rfl) ?_ | refine zab rfl rfl (zaa rfl) (za1 rfl ts27 rfl) ?_)
      all_goals (first | refine zab rfl rfl (zaa rfl) (za9 (.inl rfl) rfl) ?_ | refine zab rfl rfl (zaa rfl) (zbp (.inl rfl) rfl) ?_ | refine zab rfl rfl (zaa rfl) (mv_s (.inl rfl) rfl) ?_ | refine zab rfl rfl (zaa rfl) (zba (.inl rfl) rfl) ?_)
      all_goals (first | refine zab rfl rfl (zaa rfl) (za3 rfl ts27 rfl) ?_ | refine zab rfl rfl (zaa rfl) (za8 rfl ts27 rfl) ?_ | refine zab rfl rfl (zaa rfl) (za0 rfl ts27 rfl) ?_ | refine zab rfl rfl (zaa rfl) (zbe rfl ts27 rfl) ?_ | refine zab rfl rfl (zaa rfl) (za1 rfl ts27 rfl) ?_)
      all_goals (first | refine zbm rfl rfl (zaa rfl) (does_neq rfl rfl rfl) (fun h35 => ?_) (fun h35 => ?_) | refine zbn rfl rfl (zaa rfl) (does_neq rfl rfl rfl) (fun h35 => ?_) (fun h35 => ?_))
      all_goals refine zab rfl rfl (zaa rfl) (mv_s (.inr rfl) rfl) ?_
      all_goals refine zam ?_
      all_goals (repeat (first | refine zag ?_ | refine zap ?_ | refine zae ?_ | refine zar ?_ | refine zac ?_))
      all_goals (first | refine zbv rfl ?_ | refine zbr rfl ?_)
      all_goals (repeat (first | refine zag ?_ | refine zap ?_ | refine zae ?_ | refine zar ?_ | refine zac ?_))
      · skip
        refine zaf ?_
        refine zab rfl rfl (zaa rfl) (does_build rfl ti59 tp59 rfl rfl) ?_
        refine ops_eff rfl (zaa rfl) (zbd rfl ti59 rfl rfl rfl rfl rfl rfl (by decide) (by decide)) ?_
        refine zab rfl rfl (zaa rfl) (mv_s (.inr rfl) rfl) ?_
        refine zam ?_
        repeat (first | refine zag ?_ | refine zap ?_ | refine zae ?_ | refine zar ?_ | refine zac ?_)
        (refine zbw ?_; repeat (first | refine ath_r ?_ | refine abl_r ?_))
        exact post_ct (.inr rfl) ta59 ti59 rfl rfl rfl rfl rfl rfl (by rw [dotE_size h12 h16 h3 (by omega)]; rfl)
      · have hl : a.length = b.length := by omega
        have HI := dotE_go h12 h16 h3 hl
        refine zaf ?_
        refine zab rfl rfl (zaa rfl) (does_build rfl ti59 tp59 rfl rfl) ?_
        refine zab rfl rfl (zaa rfl) (zbt rfl ti59 rfl rfl) ?_
        refine ops_eff rfl (zaa rfl) (zbd rfl ti59 rfl rfl rfl rfl rfl rfl (by decide) (by decide)) ?_
        refine zam ?_
        repeat (first | refine zag ?_ | refine zap ?_ | refine zae ?_ | refine zar ?_ | refine zac ?_)
        refine zaf ?_
        first | refine zab rfl rfl (zaa rfl) (za9 (.inl rfl) rfl) ?_ | refine zab rfl rfl (zaa rfl) (zbp (.inl rfl) rfl) ?_ | refine zab rfl rfl (zaa rfl) (mv_s (.inl rfl) rfl) ?_ | refine zab rfl rfl (zaa rfl) (zba (.inl rfl) rfl) ?_
        first | refine zab rfl rfl (zaa rfl) (za3 rfl ts27 rfl) ?_ | refine zab rfl rfl (zaa rfl) (za8 rfl ts27 rfl) ?_ | refine zab rfl rfl (zaa rfl) (za0 rfl ts27 rfl) ?_ | refine zab rfl rfl (zaa rfl) (zbe rfl ts27 rfl) ?_ | refine zab rfl rfl (zaa rfl) (za1 rfl ts27 rfl) ?_
        refine zab rfl rfl (zaa rfl) (mv_s (.inl rfl) rfl) ?_
        refine zam ?_
        repeat (first | refine zag ?_ | refine zap ?_ | refine zae ?_ | refine zar ?_ | refine zac ?_)
        refine aw_loops (S := Fr × Nat) (fun s => [(0, eL eF a), (1, eL eF b), (4, .ptr 0 2 0 0), (6, .ptr 1 2 0 0), (39, eI a.length), (40, eI s.2)]) (fun s => [.row 2 [.agg [eI 0, eI 0]], .row 2 [eF s.1]]) (fun s => s.2 ≤ a.length ∧ dotE a b = dotG s.1 (a.drop s.2) (b.drop s.2)) (fun s => a.length - s.2) (Fr.of 0, 0) (wk_st [0, 1] (by decide) ⟨⟨_, rfl, .rowE (by repeat' (first | exact Lo.s _ | exact zai | exact zbf | refine zad ?_ ?_ | refine za5 ?_ ?_ | refine zak ?_ | refine zbg ?_ | refine Lo.cells ?_ | refine Lo.agg _ ?_ | refine Lo.sl _ ?_ | intro _)) rfl⟩, ⟨_, rfl, .rowE (by repeat' (first | exact Lo.s _ | exact zai | exact zbf | refine zad ?_ ?_ | refine za5 ?_ ?_ | refine zak ?_ | refine zbg ?_ | refine Lo.cells ?_ | refine Lo.agg _ ?_ | refine Lo.sl _ ?_ | intro _)) rfl⟩, trivial⟩ ⟨.lo _ (by repeat' (first | exact Lo.s _ | exact zai | refine zad ?_ ?_ | refine zak ?_ | refine Lo.cells ?_ | refine Lo.agg _ ?_ | refine Lo.ref _ ?_ | refine Lo.tup _ ?_ | refine Lo.fn _ _ ?_ | refine Lo.sl _ ?_ | intro _)), .lo _ (by repeat' (first | exact Lo.s _ | exact zai | refine zad ?_ ?_ | refine zak ?_ | refine Lo.cells ?_ | refine Lo.agg _ ?_ | refine Lo.ref _ ?_ | refine Lo.tup _ ?_ | refine Lo.fn _ _ ?_ | refine Lo.sl _ ?_ | intro _)), .ptr 0 0 2 0 0 rfl, .ptr 1 1 2 0 0 rfl, .lo _ (by repeat' (first | exact Lo.s _ | exact zai | refine zad ?_ ?_ | refine zak ?_ | refine Lo.cells ?_ | refine Lo.agg _ ?_ | refine Lo.ref _ ?_ | refine Lo.tup _ ?_ | refine Lo.fn _ _ ?_ | refine Lo.sl _ ?_ | intro _)), .lo _ (by repeat' (first | exact Lo.s _ | exact zai | refine zad ?_ ?_ | refine zak ?_ | refine Lo.cells ?_ | refine Lo.agg _ ?_ | refine Lo.ref _ ?_ | refine Lo.tup _ ?_ | refine Lo.fn _ _ ?_ | refine Lo.sl _ ?_ | intro _)), trivial⟩) ⟨Nat.zero_le _, HI⟩ (fun s hk => ?_)
        obtain ⟨acc, k⟩ := s
        obtain ⟨hk, HI⟩ := hk
        dsimp only at hk HI ⊢
        repeat (first | refine zag ?_ | refine zap ?_ | refine zae ?_ | refine zar ?_ | refine zac ?_)
        all_goals refine zaf ?_
        all_goals (first | refine zbm rfl rfl (zaa rfl) (zbh rfl rfl rfl) (fun h41 => ?_) (fun h41 => ?_) | refine zbn rfl rfl (zaa rfl) (zbh rfl rfl rfl) (fun h41 => ?_) (fun h41 => ?_))
        all_goals refine zam ?_
        all_goals (repeat (first | refine zag ?_ | refine zap ?_ | refine zae ?_ | refine zar ?_ | refine zac ?_))
        all_goals (first | refine zbv rfl ?_ | refine zbr rfl ?_)
        all_goals (repeat (first | refine zag ?_ | refine zap ?_ | refine zae ?_ | refine zar ?_ | refine zac ?_))
        · have h1 : k < a.length := by omega
          have h2 : k < b.length := by omega
          rw [dotG_step h1 h2] at HI
          generalize hx : mulE (gti a k) (gti b k) = x at HI
          have hmul := fMul_pf (P := P) (gti a k) (gti b k)
          rw [hx] at hmul
          refine zaf ?_
          refine zab rfl rfl (zaa rfl) (mv_s (.inl rfl) rfl) ?_
          refine zab rfl rfl (zaa rfl) (mv_s (.inr rfl) rfl) ?_
          refine zam ?_
          repeat (first | refine zag ?_ | refine zap ?_ | refine zae ?_ | refine zar ?_ | refine zac ?_)
          all_goals refine aw_draw hmix ?_
          all_goals refine adraw_ex ?_
          all_goals (first | refine zaq rfl rfl (zaa rfl) (fun _ => (za9 (.inl rfl) rfl)) ?_ | refine zaq rfl rfl (zaa rfl) (fun _ => (zbp (.inl rfl) rfl)) ?_ | refine zaq rfl rfl (zaa rfl) (fun _ => (mv_s (.inl rfl) rfl)) ?_ | refine zaq rfl rfl (zaa rfl) (fun _ => (zba (.inl rfl) rfl)) ?_)
          all_goals refine zaq rfl rfl (zaa rfl) (fun _ => (mv_s (.inl rfl) rfl)) ?_
          all_goals (first | refine zaq rfl rfl (zaa rfl) (fun _ => (zaz rfl ts27 ti59 rfl rfl rfl (ix_map (by omega)) rfl)) ?_ | refine zaq rfl rfl (zaa rfl) (fun _ => (zay rfl ts27 ti59 rfl rfl rfl (by omega))) ?_)
          all_goals (first | refine zaq rfl rfl (zaa rfl) (fun _ => (zax rfl ta59 ti59 rfl rfl)) ?_ | refine ex_look rfl rfl (zaa rfl) (look_whole rfl ta59 ti59 rfl rfl rfl rfl rfl) ?_ | refine zaq rfl rfl (zaa rfl) (fun _ => (zav rfl ta59 ti59 rfl (Nat.le_of_ble_eq_true rfl))) ?_ | refine ex_look rfl rfl (zaa rfl) (look_ptrs rfl ta59 ti59 rfl rfl rfl rfl (Nat.le_of_ble_eq_true rfl)) ?_)
          all_goals (first | refine zaq rfl rfl (zaa rfl) (fun _ => (za9 (.inl rfl) rfl)) ?_ | refine zaq rfl rfl (zaa rfl) (fun _ => (zbp (.inl rfl) rfl)) ?_ | refine zaq rfl rfl (zaa rfl) (fun _ => (mv_s (.inl rfl) rfl)) ?_ | refine zaq rfl rfl (zaa rfl) (fun _ => (zba (.inl rfl) rfl)) ?_)
          all_goals refine zaq rfl rfl (zaa rfl) (fun _ => (mv_s (.inl rfl) rfl)) ?_
          all_goals (first | refine zaq rfl rfl (zaa rfl) (fun _ => (zaz rfl ts27 ti59 rfl rfl rfl (ix_map (by omega)) rfl)) ?_ | refine zaq rfl rfl (zaa rfl) (fun _ => (zay rfl ts27 ti59 rfl rfl rfl (by omega))) ?_)
          all_goals (first | refine zaq rfl rfl (zaa rfl) (fun _ => (zax rfl ta59 ti59 rfl rfl)) ?_ | refine ex_look rfl rfl (zaa rfl) (look_whole rfl ta59 ti59 rfl rfl rfl rfl rfl) ?_ | refine zaq rfl rfl (zaa rfl) (fun _ => (zav rfl ta59 ti59 rfl (Nat.le_of_ble_eq_true rfl))) ?_ | refine ex_look rfl rfl (zaa rfl) (look_ptrs rfl ta59 ti59 rfl rfl rfl rfl (Nat.le_of_ble_eq_true rfl)) ?_)
          all_goals refine zaq rfl rfl (zaa rfl) (fun _ => (za2 rfl rfl (hmul) (zat rfl (zat rfl zbl)))) ?_
          all_goals (first | refine zaq rfl rfl (zaa rfl) (fun _ => (mv_tup (.inl rfl) rfl)) ?_ | refine zaq rfl rfl (zaa rfl) (fun _ => (mv_s (.inl rfl) rfl)) ?_)
          all_goals refine zaq rfl rfl (zaa rfl) (fun _ => (zbb rfl rfl rfl)) ?_
          all_goals refine zaq rfl rfl (zaa rfl) (fun _ => (zbb rfl rfl rfl)) ?_
          all_goals refine ex_eff rfl rfl (zaa rfl) (zbt rfl ti59 rfl rfl) (fun _ h => app_other h) ?_
          all_goals refine ex_eff0 rfl (zaa rfl) (zbd rfl ti59 rfl rfl rfl rfl rfl rfl (by decide) (by decide)) (fun _ h => set_other h) ?_
          all_goals refine zaq rfl rfl (zaa rfl) (fun _ => (mv_s (.inr rfl) rfl)) ?_
          all_goals refine ex_nil (by kernel_rfl) ?_
          all_goals (repeat (first | refine zag ?_ | refine zap ?_ | refine zae ?_ | refine zar ?_ | refine zac ?_))
          all_goals refine zaf ?_
          all_goals refine zab rfl rfl (zaa rfl) (mv_s (.inl rfl) rfl) ?_
          all_goals (first | refine zbm rfl rfl (zaa rfl) (does_neq rfl rfl rfl) (fun h56 => ?_) (fun h56 => ?_) | refine zbn rfl rfl (zaa rfl) (does_neq rfl rfl rfl) (fun h56 => ?_) (fun h56 => ?_))
          all_goals refine zam ?_
          all_goals (repeat (first | refine zag ?_ | refine zap ?_ | refine zae ?_ | refine zar ?_ | refine zac ?_))
          all_goals (first | refine zbv rfl ?_ | refine zbr rfl ?_)
          all_goals (repeat (first | refine zag ?_ | refine zap ?_ | refine zae ?_ | refine zar ?_ | refine zac ?_))
          · rw [if_pos (by omega)] at HI
            refine zaf ?_
            refine zab rfl rfl (zaa rfl) (does_build rfl ti59 tp59 rfl rfl) ?_
            refine zab rfl rfl (zaa rfl) (mv_s (.inl rfl) rfl) ?_
            refine ops_eff rfl (zaa rfl) (zbd rfl ti59 rfl rfl rfl rfl rfl rfl (by decide) (by decide)) ?_
            refine zab rfl rfl (zaa rfl) (mv_s (.inr rfl) rfl) ?_
            refine zam ?_
            repeat (first | refine zag ?_ | refine zap ?_ | refine zae ?_ | refine zar ?_ | refine zac ?_)
            (refine zbw ?_; repeat (first | refine ath_r ?_ | refine abl_r ?_))
            exact post_ct (.inr rfl) ta59 ti59 rfl rfl rfl rfl rfl rfl (by rw [HI]; rfl)
          · rw [if_neg (by omega)] at HI
            generalize hy : addE acc ⟨x.n, x.d⟩ = y at HI
            have hadd := fAdd_pf (P := P) acc ⟨x.n, x.d⟩
            rw [hy] at hadd
            refine zaf ?_
            first | refine zab rfl rfl (zaa rfl) (zax rfl ta59 ti59 rfl rfl) ?_ | refine zab rfl rfl (zaa rfl) (za6 rfl ta59 ti59 rfl rfl rfl rfl rfl) ?_ | refine zab rfl rfl (zaa rfl) (zav rfl ta59 ti59 rfl (Nat.le_of_ble_eq_true rfl)) ?_ | refine zab rfl rfl (zaa rfl) (za7 rfl ta59 ti59 rfl rfl rfl rfl (Nat.le_of_ble_eq_true rfl)) ?_
            first | refine zab rfl rfl (zaa rfl) (zax rfl ta59 ti59 rfl rfl) ?_ | refine zab rfl rfl (zaa rfl) (za6 rfl ta59 ti59 rfl rfl rfl rfl rfl) ?_ | refine zab rfl rfl (zaa rfl) (zav rfl ta59 ti59 rfl (Nat.le_of_ble_eq_true rfl)) ?_ | refine zab rfl rfl (zaa rfl) (za7 rfl ta59 ti59 rfl rfl rfl rfl (Nat.le_of_ble_eq_true rfl)) ?_
            refine zab rfl rfl (zaa rfl) (za2 rfl rfl (hadd) (zat rfl (zat rfl zbl))) ?_
            first | refine zab rfl rfl (zaa rfl) (mv_tup (.inl rfl) rfl) ?_ | refine zab rfl rfl (zaa rfl) (mv_s (.inl rfl) rfl) ?_
            refine zab rfl rfl (zaa rfl) (zbb rfl rfl rfl) ?_
            refine zab rfl rfl (zaa rfl) (zbb rfl rfl rfl) ?_
            refine ops_eff rfl (zaa rfl) (zbd rfl ti59 rfl rfl rfl rfl rfl rfl (by decide) (by decide)) ?_
            refine zab rfl rfl (zaa rfl) (mv_s (.inr rfl) rfl) ?_
            refine zam ?_
            repeat (first | refine zag ?_ | refine zap ?_ | refine zae ?_ | refine zar ?_ | refine zac ?_)
            all_goals refine zaf ?_
            all_goals refine zab rfl rfl (zaa rfl) (mv_s (.inl rfl) rfl) ?_
            all_goals (first | refine zbm rfl rfl (zaa rfl) (does_neq rfl rfl rfl) (fun h66 => ?_) (fun h66 => ?_) | refine zbn rfl rfl (zaa rfl) (does_neq rfl rfl rfl) (fun h66 => ?_) (fun h66 => ?_))
            all_goals refine zam ?_
            all_goals (repeat (first | refine zag ?_ | refine zap ?_ | refine zae ?_ | refine zar ?_ | refine zac ?_))
            all_goals (first | refine zbv rfl ?_ | refine zbr rfl ?_)
            all_goals (repeat (first | refine zag ?_ | refine zap ?_ | refine zae ?_ | refine zar ?_ | refine zac ?_))
            · rw [if_pos (by omega)] at HI
              refine zaf ?_
              refine zab rfl rfl (zaa rfl) (does_build rfl ti59 tp59 rfl rfl) ?_
              refine zab rfl rfl (zaa rfl) (mv_s (.inl rfl) rfl) ?_
              refine ops_eff rfl (zaa rfl) (zbd rfl ti59 rfl rfl rfl rfl rfl rfl (by decide) (by decide)) ?_
              refine zab rfl rfl (zaa rfl) (mv_s (.inr rfl) rfl) ?_
              refine zam ?_
              repeat (first | refine zag ?_ | refine zap ?_ | refine zae ?_ | refine zar ?_ | refine zac ?_)
              (refine zbw ?_; repeat (first | refine ath_r ?_ | refine abl_r ?_))
              exact post_ct (.inr rfl) ta59 ti59 rfl rfl rfl rfl rfl rfl (by rw [HI]; rfl)
            · rw [if_neg (by omega)] at HI
              refine zaf ?_
              refine zab rfl rfl (zaa rfl) (does_add rfl rfl rfl (IntWalk.i64_in _ (by omega))) ?_
              refine zab rfl rfl (zaa rfl) (mv_s (.inl rfl) rfl) ?_
              refine zam ?_
              repeat (first | refine zag ?_ | refine zap ?_ | refine zae ?_ | refine zar ?_ | refine zac ?_)
              exact ⟨(⟨y.n, y.d⟩, k + 1), ⟨by dsimp only; omega, HI⟩, by dsimp only; omega, wk_st [0, 1] (by decide) ⟨⟨_, rfl, .rowE (by repeat' (first | exact Lo.s _ | exact zai | exact zbf | refine zad ?_ ?_ | refine za5 ?_ ?_ | refine zak ?_ | refine zbg ?_ | refine Lo.cells ?_ | refine Lo.agg _ ?_ | refine Lo.sl _ ?_ | intro _)) rfl⟩, ⟨_, rfl, .rowE (by repeat' (first | exact Lo.s _ | exact zai | exact zbf | refine zad ?_ ?_ | refine za5 ?_ ?_ | refine zak ?_ | refine zbg ?_ | refine Lo.cells ?_ | refine Lo.agg _ ?_ | refine Lo.sl _ ?_ | intro _)) rfl⟩, trivial⟩ ⟨.lo _ (by repeat' (first | exact Lo.s _ | exact zai | refine zad ?_ ?_ | refine zak ?_ | refine Lo.cells ?_ | refine Lo.agg _ ?_ | refine Lo.ref _ ?_ | refine Lo.tup _ ?_ | refine Lo.fn _ _ ?_ | refine Lo.sl _ ?_ | intro _)), .lo _ (by repeat' (first | exact Lo.s _ | exact zai | refine zad ?_ ?_ | refine zak ?_ | refine Lo.cells ?_ | refine Lo.agg _ ?_ | refine Lo.ref _ ?_ | refine Lo.tup _ ?_ | refine Lo.fn _ _ ?_ | refine Lo.sl _ ?_ | intro _)), .ptr 0 0 2 0 0 rfl, .ptr 1 1 2 0 0 rfl, .lo _ (by repeat' (first | exact Lo.s _ | exact zai | refine zad ?_ ?_ | refine zak ?_ | refine Lo.cells ?_ | refine Lo.agg _ ?_ | refine Lo.ref _ ?_ | refine Lo.tup _ ?_ | refine Lo.fn _ _ ?_ | refine Lo.sl _ ?_ | intro _)), .lo _ (by repeat' (first | exact Lo.s _ | exact zai | refine zad ?_ ?_ | refine zak ?_ | refine Lo.cells ?_ | refine Lo.agg _ ?_ | refine Lo.ref _ ?_ | refine Lo.tup _ ?_ | refine Lo.fn _ _ ?_ | refine Lo.sl _ ?_ | intro _)), trivial⟩⟩
        · rw [dotG_end (by omega)] at HI
          (refine aw_exit ?_; repeat (first | refine ath_x ?_ | refine abl_hit ?_ | refine abl_miss rfl ?_ | refine zar ?_ | refine zap ?_ | refine zag ?_ | refine zae ?_ | refine zac ?_))
          refine zaf ?_
          first | refine zab rfl rfl (zaa rfl) (zax rfl ta59 ti59 rfl rfl) ?_ | refine zab rfl rfl (zaa rfl) (za6 rfl ta59 ti59 rfl rfl rfl rfl rfl) ?_ | refine zab rfl rfl (zaa rfl) (zav rfl ta59 ti59 rfl (Nat.le_of_ble_eq_true rfl)) ?_ | refine zab rfl rfl (zaa rfl) (za7 rfl ta59 ti59 rfl rfl rfl rfl (Nat.le_of_ble_eq_true rfl)) ?_
          refine ops_eff rfl (zaa rfl) (zbd rfl ti59 rfl rfl rfl rfl rfl rfl (by decide) (by decide)) ?_
          refine zab rfl rfl (zaa rfl) (mv_s (.inr rfl) rfl) ?_
          refine zam ?_
          repeat (first | refine zag ?_ | refine zap ?_ | refine zae ?_ | refine zar ?_ | refine zac ?_)
          (refine zbw ?_; repeat (first | refine ath_r ?_ | refine abl_r ?_))
          exact post_ct (.inr rfl) ta59 ti59 rfl rfl rfl rfl rfl rfl (by rw [HI]; rfl)
    all_goals (refine zaf ?_)
    all_goals (refine zab rfl rfl (zaa rfl) (does_build rfl ti59 tp59 rfl rfl) ?_)
    all_goals (refine ops_eff rfl (zaa rfl) (zbd rfl ti59 rfl rfl rfl rfl rfl rfl (by decide) (by decide)) ?_)
    all_goals (refine zab rfl rfl (zaa rfl) (mv_s (.inr rfl) rfl) ?_)
    all_goals (refine zam ?_)
    all_goals (repeat (first | refine zag ?_ | refine zap ?_ | refine zae ?_ | refine zar ?_ | refine zac ?_))
    all_goals (refine zbw ?_; repeat (first | refine ath_r ?_ | refine abl_r ?_))
    all_goals exact post_ct (.inr rfl) ta59 ti59 rfl rfl rfl rfl rfl rfl (by rw [dotE_full h12 h16 (by omega)]; rfl)
  all_goals (refine zaf ?_)
  all_goals (refine zab rfl rfl (zaa rfl) (does_build rfl ti59 tp59 rfl rfl) ?_)
  all_goals (refine ops_eff rfl (zaa rfl) (zbd rfl ti59 rfl rfl rfl rfl rfl rfl (by decide) (by decide)) ?_)
  all_goals (refine zab rfl rfl (zaa rfl) (mv_s (.inr rfl) rfl) ?_)
  all_goals (refine zam ?_)
  all_goals (repeat (first | refine zag ?_ | refine zap ?_ | refine zae ?_ | refine zar ?_ | refine zac ?_))
  all_goals (refine zbw ?_; repeat (first | refine ath_r ?_ | refine abl_r ?_))
  all_goals exact post_ct (.inr rfl) ta59 ti59 rfl rfl rfl rfl rfl rfl (by rw [dotE_arg (by rintro ⟨q1, q2⟩; first | exact Bool.noConfusion (q1.symm.trans h12) | exact Bool.noConfusion (q2.symm.trans h16))]; rfl)
end Go.Proofs.Ytmoipmnhgdmkpaa.Aw
end
section
namespace Go.Proofs.Ytmoipmnhgdmkpaa.Aw
set_option linter.unusedSimpArgs false
set_option linter.unusedVariables false
set_option linter.unusedSectionVars false
open Go.RowKit Go.Proofs
variable {P : Program} [IsP P]

theorem whole_pf (n : Int) : Pure P 42 [eI n] (eF (Fr.of n)) := by
  refine aw_fn (by rw [IsP.eq (P := P)]; exact Try.func42) rfl rfl rfl rfl rfl (by repeat' (first | exact Lo.s _ | exact zai | refine zad ?_ ?_ | refine zak ?_ | refine Lo.cells ?_ | refine Lo.agg _ ?_ | refine Lo.ref _ ?_ | refine Lo.tup _ ?_ | refine Lo.fn _ _ ?_ | refine Lo.sl _ ?_ | intro _)) (by repeat' (first | exact Lo.s _ | exact zai | refine zad ?_ ?_ | refine zak ?_ | refine Lo.cells ?_ | refine Lo.agg _ ?_ | refine Lo.ref _ ?_ | refine Lo.tup _ ?_ | refine Lo.fn _ _ ?_ | refine Lo.sl _ ?_ | intro _)) (by simp only [argF]; rfl) ?_
  repeat (first | refine zag ?_ | refine zap ?_ | refine zae ?_ | refine zar ?_ | refine zac ?_)
  refine zaf ?_
  refine zab rfl rfl (zaa rfl) (zbt rfl ti59 rfl rfl) ?_
  refine zam ?_
  repeat (first | refine zag ?_ | refine zap ?_ | refine zae ?_ | refine zar ?_ | refine zac ?_)
  refine zaf ?_
  refine zab rfl rfl (zaa rfl) (mv_s (.inl rfl) rfl) ?_
  refine zab rfl rfl (zaa rfl) (does_build rfl ti59 tp59 rfl rfl) ?_
  refine ops_eff rfl (zaa rfl) (zbd rfl ti59 rfl rfl rfl rfl rfl rfl (by decide) (by decide)) ?_
  refine zam ?_
  repeat (first | refine zag ?_ | refine zap ?_ | refine zae ?_ | refine zar ?_ | refine zac ?_)
  (refine zbw ?_; repeat (first | refine ath_r ?_ | refine abl_r ?_))
  exact post_c1 (N := 0) (.inr rfl) ta59 ti59 rfl rfl rfl rfl rfl (.refl _)
/-- a price less the multipliers of the periods -/
def prG (y : List Fr) (pd : List Int) : Nat → Nat → Fr → FE
  | 0, _, a => ⟨a.n, a.d, 0⟩
  | n + 1, k, a => if (subE a (gti y (gti pd k).toNat)).e ≠ 0 then FE.err (subE a (gti y (gti pd k).toNat)).e else prG y pd n (k + 1) ⟨(subE a (gti y (gti pd k).toNat)).n, (subE a (gti y (gti pd k).toNat)).d⟩
def prE (y : List Fr) (s : Sft) : FE := prG y s.pd s.pd.length 0 (Fr.of s.cost)
def bdG (l : List Sft) (lo hi : List Int) (y : List Fr) : Nat → Nat → Fr → Fr × Bool
  | 0, _, s => (s, true)
  | n + 1, i, s => if (prE y (gti l i)).e ≠ 0 then (⟨0, 0⟩, false) else
    if (mulE ⟨(prE y (gti l i)).n, (prE y (gti l i)).d⟩ (Fr.of (if (prE y (gti l i)).n < 0 then gti hi i else gti lo i))).e ≠ 0 then (⟨0, 0⟩, false) else
    if (addE s ⟨(mulE ⟨(prE y (gti l i)).n, (prE y (gti l i)).d⟩ (Fr.of (if (prE y (gti l i)).n < 0 then gti hi i else gti lo i))).n, (mulE ⟨(prE y (gti l i)).n, (prE y (gti l i)).d⟩ (Fr.of (if (prE y (gti l i)).n < 0 then gti hi i else gti lo i))).d⟩).e ≠ 0 then (⟨0, 0⟩, false) else
    bdG l lo hi y n (i + 1) ⟨(addE s ⟨(mulE ⟨(prE y (gti l i)).n, (prE y (gti l i)).d⟩ (Fr.of (if (prE y (gti l i)).n < 0 then gti hi i else gti lo i))).n, (mulE ⟨(prE y (gti l i)).n, (prE y (gti l i)).d⟩ (Fr.of (if (prE y (gti l i)).n < 0 then gti hi i else gti lo i))).d⟩).n, (addE s ⟨(mulE ⟨(prE y (gti l i)).n, (prE y (gti l i)).d⟩ (Fr.of (if (prE y (gti l i)).n < 0 then gti hi i else gti lo i))).n, (mulE ⟨(prE y (gti l i)).n, (prE y (gti l i)).d⟩ (Fr.of (if (prE y (gti l i)).n < 0 then gti hi i else gti lo i))).d⟩).d⟩
def bdE (d : List Int) (l : List Sft) (lo hi : List Int) (y : List Fr) : Fr × Bool := if (dotE (d.map Fr.of) y).e ≠ 0 then (⟨0, 0⟩, false) else bdG l lo hi y l.length 0 ⟨(dotE (d.map Fr.of) y).n, (dotE (d.map Fr.of) y).d⟩
def eFB (r : Fr × Bool) : AV := .tup [eF r.1, eB r.2]
theorem ofL_gti {d : List Int} {k : Nat} (h : k < d.length) : gti (d.map Fr.of) k = Fr.of (gti d k) := by
  have h1 : (d.map Fr.of)[k]? = some (Fr.of (gti d k)) := by rw [List.getElem?_map, gti_get h]; rfl
  unfold gti at *
  rw [h1]; rfl
set_option maxHeartbeats 4000000 in
theorem bound_pf (d : List Int) (l : List Sft) (lo hi : List Int) (y : List Fr) (hv : validS d l = true) (hy : y.length = d.length) (hlo : lo.length = l.length) (hhi : hi.length = l.length) : Pure P 56 [eL eI d, eL eSh l, eBx lo hi, eL eF y] (eFB (bdE d l lo hi y)) := by
  obtain ⟨⟨q1, q2, q3⟩, qd, ql⟩ := validS_iff hv
  have HI : bdE d l lo hi y = if (dotE (d.map Fr.of) y).e ≠ 0 then (⟨0, 0⟩, false) else bdG l lo hi y l.length 0 ⟨(dotE (d.map Fr.of) y).n, (dotE (d.map Fr.of) y).d⟩ := rfl
  generalize bdE d l lo hi y = R at HI ⊢
  refine aw_fn (by rw [IsP.eq (P := P)]; exact Try.func56) rfl rfl rfl rfl rfl (by repeat' (first | exact Lo.s _ | exact zai | refine zad ?_ ?_ | refine zak ?_ | refine Lo.cells ?_ | refine Lo.agg _ ?_ | refine Lo.ref _ ?_ | refine Lo.tup _ ?_ | refine Lo.fn _ _ ?_ | refine Lo.sl _ ?_ | intro _)) (by repeat' (first | exact Lo.s _ | exact zai | refine zad ?_ ?_ | refine zak ?_ | refine Lo.cells ?_ | refine Lo.agg _ ?_ | refine Lo.ref _ ?_ | refine Lo.tup _ ?_ | refine Lo.fn _ _ ?_ | refine Lo.sl _ ?_ | intro _)) (by simp only [argF]; rfl) ?_
  repeat (first | refine zag ?_ | refine zap ?_ | refine zae ?_ | refine zar ?_ | refine zac ?_)
  refine zaf ?_
  refine zab rfl rfl (zaa rfl) (does_box rfl rfl rfl rfl) ?_
  refine zbo (wk_froz (id := 0) rfl) (zbo (wk_ref (d := 6) rfl rfl rfl) ?_)
  refine zab rfl rfl (zaa rfl) (zbt rfl ti59 rfl rfl) ?_
  refine zab rfl rfl (zaa rfl) (mv_s (.inr rfl) rfl) ?_
  refine zam ?_
  repeat (first | refine zag ?_ | refine zap ?_ | refine zae ?_ | refine zar ?_ | refine zac ?_)
  refine zaf ?_
  first | refine zab rfl rfl (zaa rfl) (za9 (.inr rfl) rfl) ?_ | refine zab rfl rfl (zaa rfl) (zbp (.inr rfl) rfl) ?_ | refine zab rfl rfl (zaa rfl) (mv_s (.inr rfl) rfl) ?_ | refine zab rfl rfl (zaa rfl) (zba (.inr rfl) rfl) ?_
  refine zam ?_
  repeat (first | refine zag ?_ | refine zap ?_ | refine zae ?_ | refine zar ?_ | refine zac ?_)
  refine zaf ?_
  first | refine zab rfl rfl (zaa rfl) (za9 (.inl rfl) rfl) ?_ | refine zab rfl rfl (zaa rfl) (zbp (.inl rfl) rfl) ?_ | refine zab rfl rfl (zaa rfl) (mv_s (.inl rfl) rfl) ?_ | refine zab rfl rfl (zaa rfl) (zba (.inl rfl) rfl) ?_
  first | refine zab rfl rfl (zaa rfl) (za3 rfl ts22 rfl) ?_ | refine zab rfl rfl (zaa rfl) (za8 rfl ts22 rfl) ?_ | refine zab rfl rfl (zaa rfl) (za0 rfl ts22 rfl) ?_ | refine zab rfl rfl (zaa rfl) (zbe rfl ts22 rfl) ?_ | refine zab rfl rfl (zaa rfl) (za1 rfl ts22 rfl) ?_
  refine zab rfl rfl (zaa rfl) (mv_s (.inl rfl) rfl) ?_
  refine zam ?_
  repeat (first | refine zag ?_ | refine zap ?_ | refine zae ?_ | refine zar ?_ | refine zac ?_)
  refine aw_weak (wk_own (d := 10) 2 rfl (.inr rfl)) ?_
  refine aw_loops (S := Nat) (fun k => [(1, eL eSh l), (3, eL eF y), (6, .ref (eBx lo hi).cells), (8, .ptr 0 2 0 0), (9, eB false), (23, eL eI d), (24, eI d.length), (25, eI k), (10, .own 1 2 k)]) (fun k => [.row 2 [.agg [eI 0, eI 0]], .row 2 (((d.map Fr.of).take k).map eF)]) (fun k => k ≤ d.length) (fun k => d.length - k) 0 (wk_st [1, 2] (by decide) ⟨⟨_, rfl, .rowE (by repeat' (first | exact Lo.s _ | exact zai | exact zbf | refine zad ?_ ?_ | refine za5 ?_ ?_ | refine zak ?_ | refine zbg ?_ | refine Lo.cells ?_ | refine Lo.agg _ ?_ | refine Lo.sl _ ?_ | intro _)) rfl⟩, ⟨_, rfl, .rowE (by repeat' (first | exact Lo.s _ | exact zai | exact zbf | refine zad ?_ ?_ | refine za5 ?_ ?_ | refine zak ?_ | refine zbg ?_ | refine Lo.cells ?_ | refine Lo.agg _ ?_ | refine Lo.sl _ ?_ | intro _)) rfl⟩, trivial⟩ ⟨.lo _ (by repeat' (first | exact Lo.s _ | exact zai | refine zad ?_ ?_ | refine zak ?_ | refine Lo.cells ?_ | refine Lo.agg _ ?_ | refine Lo.ref _ ?_ | refine Lo.tup _ ?_ | refine Lo.fn _ _ ?_ | refine Lo.sl _ ?_ | intro _)), .lo _ (by repeat' (first | exact Lo.s _ | exact zai | refine zad ?_ ?_ | refine zak ?_ | refine Lo.cells ?_ | refine Lo.agg _ ?_ | refine Lo.ref _ ?_ | refine Lo.tup _ ?_ | refine Lo.fn _ _ ?_ | refine Lo.sl _ ?_ | intro _)), .lo _ (by repeat' (first | exact Lo.s _ | exact zai | refine zad ?_ ?_ | refine zak ?_ | refine Lo.cells ?_ | refine Lo.agg _ ?_ | refine Lo.ref _ ?_ | refine Lo.tup _ ?_ | refine Lo.fn _ _ ?_ | refine Lo.sl _ ?_ | intro _)), .ptr 1 0 2 0 0 rfl, .lo _ (by repeat' (first | exact Lo.s _ | exact zai | refine zad ?_ ?_ | refine zak ?_ | refine Lo.cells ?_ | refine Lo.agg _ ?_ | refine Lo.ref _ ?_ | refine Lo.tup _ ?_ | refine Lo.fn _ _ ?_ | refine Lo.sl _ ?_ | intro _)), .lo _ (by repeat' (first | exact Lo.s _ | exact zai | refine zad ?_ ?_ | refine zak ?_ | refine Lo.cells ?_ | refine Lo.agg _ ?_ | refine Lo.ref _ ?_ | refine Lo.tup _ ?_ | refine Lo.fn _ _ ?_ | refine Lo.sl _ ?_ | intro _)), .lo _ (by repeat' (first | exact Lo.s _ | exact zai | refine zad ?_ ?_ | refine zak ?_ | refine Lo.cells ?_ | refine Lo.agg _ ?_ | refine Lo.ref _ ?_ | refine Lo.tup _ ?_ | refine Lo.fn _ _ ?_ | refine Lo.sl _ ?_ | intro _)), .lo _ (by repeat' (first | exact Lo.s _ | exact zai | refine zad ?_ ?_ | refine zak ?_ | refine Lo.cells ?_ | refine Lo.agg _ ?_ | refine Lo.ref _ ?_ | refine Lo.tup _ ?_ | refine Lo.fn _ _ ?_ | refine Lo.sl _ ?_ | intro _)), .own 2 1 2 _ _ rfl rfl, trivial⟩) (Nat.zero_le _) (fun k hk => ?_)
  have hol : (d.map Fr.of).length = d.length := by simp
  repeat (first | refine zag ?_ | refine zap ?_ | refine zae ?_ | refine zar ?_ | refine zac ?_)
  all_goals refine zaf ?_
  all_goals (first | refine zbm rfl rfl (zaa rfl) (zbh rfl rfl rfl) (fun h26 => ?_) (fun h26 => ?_) | refine zbn rfl rfl (zaa rfl) (zbh rfl rfl rfl) (fun h26 => ?_) (fun h26 => ?_))
  all_goals refine zam ?_
  all_goals (repeat (first | refine zag ?_ | refine zap ?_ | refine zae ?_ | refine zar ?_ | refine zac ?_))
  all_goals (first | refine zbv rfl ?_ | refine zbr rfl ?_)
  all_goals (repeat (first | refine zag ?_ | refine zap ?_ | refine zae ?_ | refine zar ?_ | refine zac ?_))
  · have hlt : k < d.length := by omega
    have htk : (((d.map Fr.of).take k).map eF).length = k := by simp; omega
    have hrow : ((d.map Fr.of).take (k + 1)).map eF = ((d.map Fr.of).take k).map eF ++ [eF (Fr.of (gti d k))] := by
      rw [take_snoc (by omega), List.map_append, ofL_gti hlt]; rfl
    refine zaf ?_
    first | refine zab rfl rfl (zaa rfl) (zaz rfl ts22 ti3 rfl rfl rfl (ix_map (by omega)) rfl) ?_ | refine zab rfl rfl (zaa rfl) (zay rfl ts22 ti3 rfl rfl rfl (by omega)) ?_
    first | refine zab rfl rfl (zaa rfl) (zan rfl ta3 rfl) ?_ | refine zab rfl rfl (zaa rfl) (zas rfl ta3 rfl rfl rfl rfl rfl) ?_
    refine zab rfl rfl (zaa rfl) (mv_s (.inr rfl) rfl) ?_
    refine zam ?_
    repeat (first | refine zag ?_ | refine zap ?_ | refine zae ?_ | refine zar ?_ | refine zac ?_)
    refine zaf ?_
    first | refine zab rfl rfl (zaa rfl) (za9 (.inl rfl) rfl) ?_ | refine zab rfl rfl (zaa rfl) (zbp (.inl rfl) rfl) ?_ | refine zab rfl rfl (zaa rfl) (mv_s (.inl rfl) rfl) ?_ | refine zab rfl rfl (zaa rfl) (zba (.inl rfl) rfl) ?_
    refine zab rfl rfl (zaa rfl) (mv_s (.inl rfl) rfl) ?_
    refine zab rfl rfl (zaa rfl) (za2 rfl rfl ((whole_pf _)) (zat rfl zbl)) ?_
    first | refine zab rfl rfl (zaa rfl) (lit1_sF rfl ts27 ti59 rfl rfl rfl rfl) ?_ | refine zab rfl rfl (zaa rfl) (lit1_slF rfl ts27 ti59 rfl rfl rfl rfl (by repeat' (first | exact Lo.s _ | exact zai | refine zad ?_ ?_ | refine zak ?_ | refine Lo.cells ?_ | refine Lo.agg _ ?_ | refine Lo.ref _ ?_ | refine Lo.tup _ ?_ | refine Lo.fn _ _ ?_ | refine Lo.sl _ ?_ | intro _))) ?_ | refine zab rfl rfl (zaa rfl) (does_litAF rfl ts27 ti59 rfl rfl (by decide) (by decide) rfl rfl rfl (by repeat' (first | exact Lo.s _ | exact zai | refine zad ?_ ?_ | refine zak ?_ | refine Lo.cells ?_ | refine Lo.agg _ ?_ | refine Lo.ref _ ?_ | refine Lo.tup _ ?_ | refine Lo.fn _ _ ?_ | refine Lo.sl _ ?_ | intro _))) ?_
    first | refine zab rfl rfl (zaa rfl) (does_append rfl ts27 ti59 rfl (by decide) rfl rfl (by first | rfl | (simp; done) | (simp; omega)) rfl (by first | exact .own _ _ _ rfl rfl _ (by first | rfl | simp) | exact .emp | exact .nil | exact .sl _ (by first | simp; done | intro e he; simp at he; obtain ⟨_, _, rfl⟩ := he; rfl)) (by first | omega | (simp; omega) | (unfold maxLen; simp; omega)) (by first | omega | (simp; omega) | (unfold maxLen; simp; omega))) ?_ | refine zab rfl rfl (zaa rfl) (does_append0 rfl ts27 ti59 rfl (by decide) rfl (.inl rfl) rfl (by first | exact .own _ _ _ rfl rfl _ (by first | rfl | simp) | exact .emp | exact .nil | exact .sl _ (by first | simp; done | intro e he; simp at he; obtain ⟨_, _, rfl⟩ := he; rfl)) (by first | omega | (simp; omega) | (unfold maxLen; simp; omega)) (by first | omega | (simp; omega) | (unfold maxLen; simp; omega))) ?_ | refine zab rfl rfl (zaa rfl) (does_append0 rfl ts27 ti59 rfl (by decide) rfl (.inr rfl) rfl (by first | exact .own _ _ _ rfl rfl _ (by first | rfl | simp) | exact .emp | exact .nil | exact .sl _ (by first | simp; done | intro e he; simp at he; obtain ⟨_, _, rfl⟩ := he; rfl)) (by first | omega | (simp; omega) | (unfold maxLen; simp; omega)) (by first | omega | (simp; omega) | (unfold maxLen; simp; omega))) ?_
    first | refine zab rfl rfl (zaa rfl) (za9 (.inr rfl) rfl) ?_ | refine zab rfl rfl (zaa rfl) (zbp (.inr rfl) rfl) ?_ | refine zab rfl rfl (zaa rfl) (mv_s (.inr rfl) rfl) ?_ | refine zab rfl rfl (zaa rfl) (zba (.inr rfl) rfl) ?_
    refine zam ?_
    repeat (first | refine zag ?_ | refine zap ?_ | refine zae ?_ | refine zar ?_ | refine zac ?_)
    refine zaf ?_
    refine zab rfl rfl (zaa rfl) (does_add rfl rfl rfl (IntWalk.i64_in _ (by omega))) ?_
    refine zab rfl rfl (zaa rfl) (mv_s (.inl rfl) rfl) ?_
    refine zam ?_
    repeat (first | refine zag ?_ | refine zap ?_ | refine zae ?_ | refine zar ?_ | refine zac ?_)
    exact ⟨k + 1, by omega, by omega, wk_st [0, 2] (by decide) ⟨⟨_, rfl, .rowE (by repeat' (first | exact Lo.s _ | exact zai | exact zbf | refine zad ?_ ?_ | refine za5 ?_ ?_ | refine zak ?_ | refine zbg ?_ | refine Lo.cells ?_ | refine Lo.agg _ ?_ | refine Lo.sl _ ?_ | intro _)) rfl⟩, ⟨_, rfl, .rowE (by repeat' (first | exact Lo.s _ | exact zai | exact zbf | refine zad ?_ ?_ | refine za5 ?_ ?_ | refine zak ?_ | refine zbg ?_ | refine Lo.cells ?_ | refine Lo.agg _ ?_ | refine Lo.sl _ ?_ | intro _)) (Eq.trans (b := ((d.map Fr.of).take k).map eF ++ [eF (Fr.of (gti d k))]) rfl hrow.symm)⟩, trivial⟩ ⟨.lo _ (by repeat' (first | exact Lo.s _ | exact zai | refine zad ?_ ?_ | refine zak ?_ | refine Lo.cells ?_ | refine Lo.agg _ ?_ | refine Lo.ref _ ?_ | refine Lo.tup _ ?_ | refine Lo.fn _ _ ?_ | refine Lo.sl _ ?_ | intro _)), .lo _ (by repeat' (first | exact Lo.s _ | exact zai | refine zad ?_ ?_ | refine zak ?_ | refine Lo.cells ?_ | refine Lo.agg _ ?_ | refine Lo.ref _ ?_ | refine Lo.tup _ ?_ | refine Lo.fn _ _ ?_ | refine Lo.sl _ ?_ | intro _)), .lo _ (by repeat' (first | exact Lo.s _ | exact zai | refine zad ?_ ?_ | refine zak ?_ | refine Lo.cells ?_ | refine Lo.agg _ ?_ | refine Lo.ref _ ?_ | refine Lo.tup _ ?_ | refine Lo.fn _ _ ?_ | refine Lo.sl _ ?_ | intro _)), .ptr 0 0 2 0 0 rfl, .lo _ (by repeat' (first | exact Lo.s _ | exact zai | refine zad ?_ ?_ | refine zak ?_ | refine Lo.cells ?_ | refine Lo.agg _ ?_ | refine Lo.ref _ ?_ | refine Lo.tup _ ?_ | refine Lo.fn _ _ ?_ | refine Lo.sl _ ?_ | intro _)), .lo _ (by repeat' (first | exact Lo.s _ | exact zai | refine zad ?_ ?_ | refine zak ?_ | refine Lo.cells ?_ | refine Lo.agg _ ?_ | refine Lo.ref _ ?_ | refine Lo.tup _ ?_ | refine Lo.fn _ _ ?_ | refine Lo.sl _ ?_ | intro _)), .lo _ (by repeat' (first | exact Lo.s _ | exact zai | refine zad ?_ ?_ | refine zak ?_ | refine Lo.cells ?_ | refine Lo.agg _ ?_ | refine Lo.ref _ ?_ | refine Lo.tup _ ?_ | refine Lo.fn _ _ ?_ | refine Lo.sl _ ?_ | intro _)), .lo _ (by repeat' (first | exact Lo.s _ | exact zai | refine zad ?_ ?_ | refine zak ?_ | refine Lo.cells ?_ | refine Lo.agg _ ?_ | refine Lo.ref _ ?_ | refine Lo.tup _ ?_ | refine Lo.fn _ _ ?_ | refine Lo.sl _ ?_ | intro _)), .own 2 1 2 _ _ rfl (by simp; omega), trivial⟩⟩
  (refine aw_exit ?_; repeat (first | refine ath_x ?_ | refine abl_hit ?_ | refine abl_miss rfl ?_ | refine zar ?_ | refine zap ?_ | refine zag ?_ | refine zae ?_ | refine zac ?_))
  have e : (d.map Fr.of).take k = d.map Fr.of := List.take_of_length_le (by omega)
  rw [e]
  have hdot := fDot_pf (P := P) (d.map Fr.of) y
  generalize dotE (d.map Fr.of) y = dt at HI hdot
  refine zaf ?_
  first | refine zab rfl rfl (zaa rfl) (za9 (.inl rfl) rfl) ?_ | refine zab rfl rfl (zaa rfl) (zbp (.inl rfl) rfl) ?_ | refine zab rfl rfl (zaa rfl) (mv_s (.inl rfl) rfl) ?_ | refine zab rfl rfl (zaa rfl) (zba (.inl rfl) rfl) ?_
  refine zbo (wk_froz (id := 1) rfl) (zbo (wk_sl (d := 36) rfl rfl (by first | rfl | (simp; done) | (simp; omega))) ?_)
  first | refine zab rfl rfl (zaa rfl) (za9 (.inl rfl) rfl) ?_ | refine zab rfl rfl (zaa rfl) (zbp (.inl rfl) rfl) ?_ | refine zab rfl rfl (zaa rfl) (mv_s (.inl rfl) rfl) ?_ | refine zab rfl rfl (zaa rfl) (zba (.inl rfl) rfl) ?_
  refine zab rfl rfl (zaa rfl) (za2 rfl rfl (hdot) (zat rfl (zat rfl zbl))) ?_
  first | refine zab rfl rfl (zaa rfl) (mv_tup (.inl rfl) rfl) ?_ | refine zab rfl rfl (zaa rfl) (mv_s (.inl rfl) rfl) ?_
  refine zab rfl rfl (zaa rfl) (zbb rfl rfl rfl) ?_
  refine zab rfl rfl (zaa rfl) (zbb rfl rfl rfl) ?_
  refine zab rfl rfl (zaa rfl) (zbt rfl ti59 rfl rfl) ?_
  refine ops_eff rfl (zaa rfl) (zbd rfl ti59 rfl rfl rfl rfl rfl rfl (by decide) (by decide)) ?_
  refine zab rfl rfl (zaa rfl) (mv_s (.inr rfl) rfl) ?_
  refine zam ?_
  repeat (first | refine zag ?_ | refine zap ?_ | refine zae ?_ | refine zar ?_ | refine zac ?_)
  all_goals refine zaf ?_
  all_goals refine zab rfl rfl (zaa rfl) (mv_s (.inl rfl) rfl) ?_
  all_goals (first | refine zbm rfl rfl (zaa rfl) (does_neq rfl rfl rfl) (fun h42 => ?_) (fun h42 => ?_) | refine zbn rfl rfl (zaa rfl) (does_neq rfl rfl rfl) (fun h42 => ?_) (fun h42 => ?_))
  all_goals refine zam ?_
  all_goals (repeat (first | refine zag ?_ | refine zap ?_ | refine zae ?_ | refine zar ?_ | refine zac ?_))
  all_goals (first | refine zbv rfl ?_ | refine zbr rfl ?_)
  all_goals (repeat (first | refine zag ?_ | refine zap ?_ | refine zae ?_ | refine zar ?_ | refine zac ?_))
  · rw [if_pos (by omega)] at HI
    refine zaf ?_
    refine zab rfl rfl (zaa rfl) (does_build rfl ti59 tp59 rfl rfl) ?_
    refine ops_eff rfl (zaa rfl) (zbd rfl ti59 rfl rfl rfl rfl rfl rfl (by decide) (by decide)) ?_
    refine zab rfl rfl (zaa rfl) (mv_s (.inr rfl) rfl) ?_
    refine zam ?_
    repeat (first | refine zag ?_ | refine zap ?_ | refine zae ?_ | refine zar ?_ | refine zac ?_)
    (refine zbw ?_; repeat (first | refine ath_r ?_ | refine abl_r ?_))
    exact post_ct (.inr rfl) ta59 ti59 rfl rfl rfl rfl rfl rfl (by rw [HI]; rfl)
  rw [if_neg (by omega)] at HI
  refine zaf ?_
  first | refine zab rfl rfl (zaa rfl) (za9 (.inl rfl) rfl) ?_ | refine zab rfl rfl (zaa rfl) (zbp (.inl rfl) rfl) ?_ | refine zab rfl rfl (zaa rfl) (mv_s (.inl rfl) rfl) ?_ | refine zab rfl rfl (zaa rfl) (zba (.inl rfl) rfl) ?_
  first | refine zab rfl rfl (zaa rfl) (za3 rfl ts23 rfl) ?_ | refine zab rfl rfl (zaa rfl) (za8 rfl ts23 rfl) ?_ | refine zab rfl rfl (zaa rfl) (za0 rfl ts23 rfl) ?_ | refine zab rfl rfl (zaa rfl) (zbe rfl ts23 rfl) ?_ | refine zab rfl rfl (zaa rfl) (za1 rfl ts23 rfl) ?_
  refine zab rfl rfl (zaa rfl) (mv_s (.inl rfl) rfl) ?_
  refine zam ?_
  repeat (first | refine zag ?_ | refine zap ?_ | refine zae ?_ | refine zar ?_ | refine zac ?_)
  refine aw_loops (S := Fr × Nat) (fun s => [(3, eL eF y), (6, .ref (eBx lo hi).cells), (8, .ptr 0 2 0 0), (13, .ptr 1 2 0 0), (44, eL eSh l), (45, eI l.length), (46, eI s.2)]) (fun s => [.row 2 [.agg [eI 0, eI 0]], .row 2 [eF s.1]]) (fun s => s.2 ≤ l.length ∧ R = bdG l lo hi y (l.length - s.2) s.2 s.1) (fun s => l.length - s.2) (⟨dt.n, dt.d⟩, 0) (wk_st [0, 2] (by decide) ⟨⟨_, rfl, .rowE (by repeat' (first | exact Lo.s _ | exact zai | exact zbf | refine zad ?_ ?_ | refine za5 ?_ ?_ | refine zak ?_ | refine zbg ?_ | refine Lo.cells ?_ | refine Lo.agg _ ?_ | refine Lo.sl _ ?_ | intro _)) rfl⟩, ⟨_, rfl, .rowE (by repeat' (first | exact Lo.s _ | exact zai | exact zbf | refine zad ?_ ?_ | refine za5 ?_ ?_ | refine zak ?_ | refine zbg ?_ | refine Lo.cells ?_ | refine Lo.agg _ ?_ | refine Lo.sl _ ?_ | intro _)) rfl⟩, trivial⟩ ⟨.lo _ (by repeat' (first | exact Lo.s _ | exact zai | refine zad ?_ ?_ | refine zak ?_ | refine Lo.cells ?_ | refine Lo.agg _ ?_ | refine Lo.ref _ ?_ | refine Lo.tup _ ?_ | refine Lo.fn _ _ ?_ | refine Lo.sl _ ?_ | intro _)), .lo _ (by repeat' (first | exact Lo.s _ | exact zai | refine zad ?_ ?_ | refine zak ?_ | refine Lo.cells ?_ | refine Lo.agg _ ?_ | refine Lo.ref _ ?_ | refine Lo.tup _ ?_ | refine Lo.fn _ _ ?_ | refine Lo.sl _ ?_ | intro _)), .ptr 0 0 2 0 0 rfl, .ptr 2 1 2 0 0 rfl, .lo _ (by repeat' (first | exact Lo.s _ | exact zai | refine zad ?_ ?_ | refine zak ?_ | refine Lo.cells ?_ | refine Lo.agg _ ?_ | refine Lo.ref _ ?_ | refine Lo.tup _ ?_ | refine Lo.fn _ _ ?_ | refine Lo.sl _ ?_ | intro _)), .lo _ (by repeat' (first | exact Lo.s _ | exact zai | refine zad ?_ ?_ | refine zak ?_ | refine Lo.cells ?_ | refine Lo.agg _ ?_ | refine Lo.ref _ ?_ | refine Lo.tup _ ?_ | refine Lo.fn _ _ ?_ | refine Lo.sl _ ?_ | intro _)), .lo _ (by repeat' (first | exact Lo.s _ | exact zai | refine zad ?_ ?_ | refine zak ?_ | refine Lo.cells ?_ | refine Lo.agg _ ?_ | refine Lo.ref _ ?_ | refine Lo.tup _ ?_ | refine Lo.fn _ _ ?_ | refine Lo.sl _ ?_ | intro _)), trivial⟩) ⟨Nat.zero_le _, HI⟩ (fun s hs => ?_)
  obtain ⟨sm, i⟩ := s
  obtain ⟨hi1, HJ⟩ := hs
  dsimp only at hi1 HJ ⊢
  clear HI hdot e
  repeat (first | refine zag ?_ | refine zap ?_ | refine zae ?_ | refine zar ?_ | refine zac ?_)
  all_goals refine zaf ?_
  all_goals (first | refine zbm rfl rfl (zaa rfl) (zbh rfl rfl rfl) (fun h47 => ?_) (fun h47 => ?_) | refine zbn rfl rfl (zaa rfl) (zbh rfl rfl rfl) (fun h47 => ?_) (fun h47 => ?_))
  all_goals refine zam ?_
  all_goals (repeat (first | refine zag ?_ | refine zap ?_ | refine zae ?_ | refine zar ?_ | refine zac ?_))
  all_goals (first | refine zbv rfl ?_ | refine zbr rfl ?_)
  all_goals (repeat (first | refine zag ?_ | refine zap ?_ | refine zae ?_ | refine zar ?_ | refine zac ?_))
  · have hlt : i < l.length := by omega
    rw [show l.length - i = (l.length - (i + 1)) + 1 by omega, bdG] at HJ
    obtain ⟨sf, hsf⟩ : ∃ sf, gti l i = sf := ⟨_, rfl⟩
    have hix : (l.map eSh)[i]? = some (eSh sf) := by rw [← hsf]; exact ix_map hlt
    have hsl := (ql i hlt).2
    rw [hsf] at hsl HJ
    refine zaf ?_
    refine zab rfl rfl (zaa rfl) (mv_s (.inl rfl) rfl) ?_
    first | refine zab rfl rfl (zaa rfl) (zaz rfl ts23 ti39 rfl rfl rfl hix rfl) ?_ | refine zab rfl rfl (zaa rfl) (zay rfl ts23 ti39 rfl rfl rfl hix) ?_
    first | refine zab rfl rfl (zaa rfl) (zax rfl ta39 ti39 rfl rfl) ?_ | refine zab rfl rfl (zaa rfl) (za6 rfl ta39 ti39 rfl rfl rfl rfl rfl) ?_ | refine zab rfl rfl (zaa rfl) (zav rfl ta39 ti39 rfl (Nat.le_of_ble_eq_true rfl)) ?_ | refine zab rfl rfl (zaa rfl) (za7 rfl ta39 ti39 rfl rfl rfl rfl (Nat.le_of_ble_eq_true rfl)) ?_
    refine zab rfl rfl (zaa rfl) (zbt rfl ti39 rfl rfl) ?_
    refine zab rfl rfl (zaa rfl) (mv_s (.inr rfl) rfl) ?_
    refine ops_eff rfl (zaa rfl) (zbd rfl ti39 rfl rfl rfl rfl rfl rfl (by decide) (by decide)) ?_
    refine zam ?_
    repeat (first | refine zag ?_ | refine zap ?_ | refine zae ?_ | refine zar ?_ | refine zac ?_)
    refine aw_weak (wk_froz (id := 2) rfl) ?_
    refine aw_weak (wk_ref (d := 16) rfl rfl rfl) ?_
    refine zaf ?_
    first | refine zab rfl rfl (zaa rfl) (zao rfl tf39_1 (by decide) rfl) ?_ | refine zab rfl rfl (zaa rfl) (zal rfl tf39_1 (by decide) rfl) ?_
    first | refine zab rfl rfl (zaa rfl) (zan rfl ta3 rfl) ?_ | refine zab rfl rfl (zaa rfl) (zas rfl ta3 rfl rfl rfl rfl rfl) ?_
    refine zab rfl rfl (zaa rfl) (za2 rfl rfl ((whole_pf _)) (zat rfl zbl)) ?_
    refine zab rfl rfl (zaa rfl) (zbt rfl ti59 rfl rfl) ?_
    refine ops_eff rfl (zaa rfl) (zbd rfl ti59 rfl rfl rfl rfl rfl rfl (by decide) (by decide)) ?_
    refine zam ?_
    repeat (first | refine zag ?_ | refine zap ?_ | refine zae ?_ | refine zar ?_ | refine zac ?_)
    refine zaf ?_
    first | refine zab rfl rfl (zaa rfl) (zao rfl tf39_0 (by decide) rfl) ?_ | refine zab rfl rfl (zaa rfl) (zal rfl tf39_0 (by decide) rfl) ?_
    first | refine zab rfl rfl (zaa rfl) (zan rfl ta22 rfl) ?_ | refine zab rfl rfl (zaa rfl) (zas rfl ta22 rfl rfl rfl rfl rfl) ?_
    first | refine zab rfl rfl (zaa rfl) (za3 rfl ts22 rfl) ?_ | refine zab rfl rfl (zaa rfl) (za8 rfl ts22 rfl) ?_ | refine zab rfl rfl (zaa rfl) (za0 rfl ts22 rfl) ?_ | refine zab rfl rfl (zaa rfl) (zbe rfl ts22 rfl) ?_ | refine zab rfl rfl (zaa rfl) (za1 rfl ts22 rfl) ?_
    refine zab rfl rfl (zaa rfl) (mv_s (.inl rfl) rfl) ?_
    refine zam ?_
    repeat (first | refine zag ?_ | refine zap ?_ | refine zae ?_ | refine zar ?_ | refine zac ?_)
    refine aw_bdm (d := 55) rfl (fun hm3 => ?_)
    unfold maxLen at hm3
    obtain ⟨pe, hpe⟩ : ∃ pe, pe = prE y sf := ⟨_, rfl⟩
    rw [← hpe] at HJ
    have HK : pe = prG y sf.pd sf.pd.length 0 (Fr.of sf.cost) := hpe
    clear hpe
    refine aw_loops (S := Fr × Nat) (fun s => [(3, eL eF y), (6, .ref (eBx lo hi).cells), (8, .ptr 0 2 0 0), (13, .ptr 1 2 0 0), (17, .ptr 2 2 0 0), (15, eI i), (44, eL eSh l), (45, eI l.length), (46, eI i), (55, eL eI sf.pd), (56, eI sf.pd.length), (57, eI s.2)]) (fun s => [.row 2 [.agg [eI 0, eI 0]], .row 2 [eF sm], .row 2 [eF s.1]]) (fun s => s.2 ≤ sf.pd.length ∧ pe = prG y sf.pd (sf.pd.length - s.2) s.2 s.1) (fun s => sf.pd.length - s.2) (Fr.of sf.cost, 0) (wk_st [0, 1, 3] (by decide) ⟨⟨_, rfl, .rowE (by repeat' (first | exact Lo.s _ | exact zai | exact zbf | refine zad ?_ ?_ | refine za5 ?_ ?_ | refine zak ?_ | refine zbg ?_ | refine Lo.cells ?_ | refine Lo.agg _ ?_ | refine Lo.sl _ ?_ | intro _)) rfl⟩, ⟨_, rfl, .rowE (by repeat' (first | exact Lo.s _ | exact zai | exact zbf | refine zad ?_ ?_ | refine za5 ?_ ?_ | refine zak ?_ | refine zbg ?_ | refine Lo.cells ?_ | refine Lo.agg _ ?_ | refine Lo.sl _ ?_ | intro _)) rfl⟩, ⟨_, rfl, .rowE (by repeat' (first | exact Lo.s _ | exact zai | exact zbf | refine zad ?_ ?_ | refine za5 ?_ ?_ | refine zak ?_ | refine zbg ?_ | refine Lo.cells ?_ | refine Lo.agg _ ?_ | refine Lo.sl _ ?_ | intro _)) rfl⟩, trivial⟩ ⟨.lo _ (by repeat' (first | exact Lo.s _ | exact zai | refine zad ?_ ?_ | refine zak ?_ | refine Lo.cells ?_ | refine Lo.agg _ ?_ | refine Lo.ref _ ?_ | refine Lo.tup _ ?_ | refine Lo.fn _ _ ?_ | refine Lo.sl _ ?_ | intro _)), .lo _ (by repeat' (first | exact Lo.s _ | exact zai | refine zad ?_ ?_ | refine zak ?_ | refine Lo.cells ?_ | refine Lo.agg _ ?_ | refine Lo.ref _ ?_ | refine Lo.tup _ ?_ | refine Lo.fn _ _ ?_ | refine Lo.sl _ ?_ | intro _)), .ptr 0 0 2 0 0 rfl, .ptr 1 1 2 0 0 rfl, .ptr 3 2 2 0 0 rfl, .lo _ (by repeat' (first | exact Lo.s _ | exact zai | refine zad ?_ ?_ | refine zak ?_ | refine Lo.cells ?_ | refine Lo.agg _ ?_ | refine Lo.ref _ ?_ | refine Lo.tup _ ?_ | refine Lo.fn _ _ ?_ | refine Lo.sl _ ?_ | intro _)), .lo _ (by repeat' (first | exact Lo.s _ | exact zai | refine zad ?_ ?_ | refine zak ?_ | refine Lo.cells ?_ | refine Lo.agg _ ?_ | refine Lo.ref _ ?_ | refine Lo.tup _ ?_ | refine Lo.fn _ _ ?_ | refine Lo.sl _ ?_ | intro _)), .lo _ (by repeat' (first | exact Lo.s _ | exact zai | refine zad ?_ ?_ | refine zak ?_ | refine Lo.cells ?_ | refine Lo.agg _ ?_ | refine Lo.ref _ ?_ | refine Lo.tup _ ?_ | refine Lo.fn _ _ ?_ | refine Lo.sl _ ?_ | intro _)), .lo _ (by repeat' (first | exact Lo.s _ | exact zai | refine zad ?_ ?_ | refine zak ?_ | refine Lo.cells ?_ | refine Lo.agg _ ?_ | refine Lo.ref _ ?_ | refine Lo.tup _ ?_ | refine Lo.fn _ _ ?_ | refine Lo.sl _ ?_ | intro _)), .lo _ (by repeat' (first | exact Lo.s _ | exact zai | refine zad ?_ ?_ | refine zak ?_ | refine Lo.cells ?_ | refine Lo.agg _ ?_ | refine Lo.ref _ ?_ | refine Lo.tup _ ?_ | refine Lo.fn _ _ ?_ | refine Lo.sl _ ?_ | intro _)), .lo _ (by repeat' (first | exact Lo.s _ | exact zai | refine zad ?_ ?_ | refine zak ?_ | refine Lo.cells ?_ | refine Lo.agg _ ?_ | refine Lo.ref _ ?_ | refine Lo.tup _ ?_ | refine Lo.fn _ _ ?_ | refine Lo.sl _ ?_ | intro _)), .lo _ (by repeat' (first | exact Lo.s _ | exact zai | refine zad ?_ ?_ | refine zak ?_ | refine Lo.cells ?_ | refine Lo.agg _ ?_ | refine Lo.ref _ ?_ | refine Lo.tup _ ?_ | refine Lo.fn _ _ ?_ | refine Lo.sl _ ?_ | intro _)), trivial⟩) ⟨Nat.zero_le _, HK⟩ (fun s hs => ?_)
    obtain ⟨pr, j⟩ := s
    obtain ⟨hj, HK⟩ := hs
    dsimp only at hj HK ⊢
    repeat (first | refine zag ?_ | refine zap ?_ | refine zae ?_ | refine zar ?_ | refine zac ?_)
    all_goals refine zaf ?_
    all_goals (first | refine zbm rfl rfl (zaa rfl) (zbh rfl rfl rfl) (fun h58 => ?_) (fun h58 => ?_) | refine zbn rfl rfl (zaa rfl) (zbh rfl rfl rfl) (fun h58 => ?_) (fun h58 => ?_))
    all_goals refine zam ?_
    all_goals (repeat (first | refine zag ?_ | refine zap ?_ | refine zae ?_ | refine zar ?_ | refine zac ?_))
    all_goals (first | refine zbv rfl ?_ | refine zbr rfl ?_)
    all_goals (repeat (first | refine zag ?_ | refine zap ?_ | refine zae ?_ | refine zar ?_ | refine zac ?_))
    · have hlt2 : j < sf.pd.length := by omega
      obtain ⟨g1, g2, g3⟩ := hsl j hlt2
      obtain ⟨p, hp⟩ : ∃ p : Nat, gti sf.pd j = (p : Int) := ⟨(gti sf.pd j).toNat, by omega⟩
      have hpy : p < y.length := by omega
      rw [show sf.pd.length - j = (sf.pd.length - (j + 1)) + 1 by omega, prG, hp, Int.toNat_natCast] at HK
      have hsub := fSub_pf (P := P) pr (gti y p)
      generalize subE pr (gti y p) = x at HK hsub
      refine zaf ?_
      first | refine zab rfl rfl (zaa rfl) (zaz rfl ts22 ti3 rfl rfl rfl (ix_map (by omega)) rfl) ?_ | refine zab rfl rfl (zaa rfl) (zay rfl ts22 ti3 rfl rfl rfl (by omega)) ?_
      first | refine zab rfl rfl (zaa rfl) (zan rfl ta3 rfl) ?_ | refine zab rfl rfl (zaa rfl) (zas rfl ta3 rfl rfl rfl rfl rfl) ?_
      refine zab rfl rfl (zaa rfl) (mv_s (.inr rfl) rfl) ?_
      refine zam ?_
      repeat (first | refine zag ?_ | refine zap ?_ | refine zae ?_ | refine zar ?_ | refine zac ?_)
      all_goals refine aw_draw hmix ?_
      all_goals refine adraw_ex ?_
      all_goals (first | refine zaq rfl rfl (zaa rfl) (fun _ => (zax rfl ta59 ti59 rfl rfl)) ?_ | refine ex_look rfl rfl (zaa rfl) (look_whole rfl ta59 ti59 rfl rfl rfl rfl rfl) ?_ | refine zaq rfl rfl (zaa rfl) (fun _ => (zav rfl ta59 ti59 rfl (Nat.le_of_ble_eq_true rfl))) ?_ | refine ex_look rfl rfl (zaa rfl) (look_ptrs rfl ta59 ti59 rfl rfl rfl rfl (Nat.le_of_ble_eq_true rfl)) ?_)
      all_goals (first | refine zaq rfl rfl (zaa rfl) (fun _ => (za9 (.inl rfl) rfl)) ?_ | refine zaq rfl rfl (zaa rfl) (fun _ => (zbp (.inl rfl) rfl)) ?_ | refine zaq rfl rfl (zaa rfl) (fun _ => (mv_s (.inl rfl) rfl)) ?_ | refine zaq rfl rfl (zaa rfl) (fun _ => (zba (.inl rfl) rfl)) ?_)
      all_goals refine zaq rfl rfl (zaa rfl) (fun _ => (mv_s (.inl rfl) rfl)) ?_
      all_goals (first | refine zaq rfl rfl (zaa rfl) (fun _ => (zaz rfl ts27 ti59 rfl rfl hp (ix_map hpy) rfl)) ?_ | refine zaq rfl rfl (zaa rfl) (fun _ => (zay rfl ts27 ti59 rfl rfl hp (ix_map hpy))) ?_)
      all_goals (first | refine zaq rfl rfl (zaa rfl) (fun _ => (zax rfl ta59 ti59 rfl rfl)) ?_ | refine ex_look rfl rfl (zaa rfl) (look_whole rfl ta59 ti59 rfl rfl rfl rfl rfl) ?_ | refine zaq rfl rfl (zaa rfl) (fun _ => (zav rfl ta59 ti59 rfl (Nat.le_of_ble_eq_true rfl))) ?_ | refine ex_look rfl rfl (zaa rfl) (look_ptrs rfl ta59 ti59 rfl rfl rfl rfl (Nat.le_of_ble_eq_true rfl)) ?_)
      all_goals refine zaq rfl rfl (zaa rfl) (fun _ => (za2 rfl rfl (hsub) (zat rfl (zat rfl zbl)))) ?_
      all_goals (first | refine zaq rfl rfl (zaa rfl) (fun _ => (mv_tup (.inl rfl) rfl)) ?_ | refine zaq rfl rfl (zaa rfl) (fun _ => (mv_s (.inl rfl) rfl)) ?_)
      all_goals refine zaq rfl rfl (zaa rfl) (fun _ => (zbb rfl rfl rfl)) ?_
      all_goals refine zaq rfl rfl (zaa rfl) (fun _ => (zbb rfl rfl rfl)) ?_
      all_goals refine ex_eff0 rfl (zaa rfl) (zbd rfl ti59 rfl rfl rfl rfl rfl rfl (by decide) (by decide)) (fun _ h => set_other h) ?_
      all_goals refine zaq rfl rfl (zaa rfl) (fun _ => (mv_s (.inr rfl) rfl)) ?_
      all_goals refine ex_nil (by kernel_rfl) ?_
      all_goals (repeat (first | refine zag ?_ | refine zap ?_ | refine zae ?_ | refine zar ?_ | refine zac ?_))
      all_goals refine zaf ?_
      all_goals refine zab rfl rfl (zaa rfl) (mv_s (.inl rfl) rfl) ?_
      all_goals (first | refine zbm rfl rfl (zaa rfl) (does_neq rfl rfl rfl) (fun h71 => ?_) (fun h71 => ?_) | refine zbn rfl rfl (zaa rfl) (does_neq rfl rfl rfl) (fun h71 => ?_) (fun h71 => ?_))
      all_goals refine zam ?_
      all_goals (repeat (first | refine zag ?_ | refine zap ?_ | refine zae ?_ | refine zar ?_ | refine zac ?_))
      all_goals (first | refine zbv rfl ?_ | refine zbr rfl ?_)
      all_goals (repeat (first | refine zag ?_ | refine zap ?_ | refine zae ?_ | refine zar ?_ | refine zac ?_))
      · rw [if_pos (by omega)] at HK
        subst HK
        rw [if_pos (by show x.e ≠ 0; omega)] at HJ
        refine zaf ?_
        refine zab rfl rfl (zaa rfl) (does_build rfl ti59 tp59 rfl rfl) ?_
        refine ops_eff rfl (zaa rfl) (zbd rfl ti59 rfl rfl rfl rfl rfl rfl (by decide) (by decide)) ?_
        refine zab rfl rfl (zaa rfl) (mv_s (.inr rfl) rfl) ?_
        refine zam ?_
        repeat (first | refine zag ?_ | refine zap ?_ | refine zae ?_ | refine zar ?_ | refine zac ?_)
        (refine zbw ?_; repeat (first | refine ath_r ?_ | refine abl_r ?_))
        exact post_ct (.inr rfl) ta59 ti59 rfl rfl rfl rfl rfl rfl (by rw [HJ]; rfl)
      · rw [if_neg (by omega)] at HK
        refine zaf ?_
        refine zab rfl rfl (zaa rfl) (does_add rfl rfl rfl (IntWalk.i64_in _ (by omega))) ?_
        refine zab rfl rfl (zaa rfl) (mv_s (.inl rfl) rfl) ?_
        refine zam ?_
        repeat (first | refine zag ?_ | refine zap ?_ | refine zae ?_ | refine zar ?_ | refine zac ?_)
        exact ⟨(⟨x.n, x.d⟩, j + 1), ⟨by dsimp only; omega, HK⟩, by dsimp only; omega, wk_st [0, 1, 2] (by decide) ⟨⟨_, rfl, .rowE (by repeat' (first | exact Lo.s _ | exact zai | exact zbf | refine zad ?_ ?_ | refine za5 ?_ ?_ | refine zak ?_ | refine zbg ?_ | refine Lo.cells ?_ | refine Lo.agg _ ?_ | refine Lo.sl _ ?_ | intro _)) rfl⟩, ⟨_, rfl, .rowE (by repeat' (first | exact Lo.s _ | exact zai | exact zbf | refine zad ?_ ?_ | refine za5 ?_ ?_ | refine zak ?_ | refine zbg ?_ | refine Lo.cells ?_ | refine Lo.agg _ ?_ | refine Lo.sl _ ?_ | intro _)) rfl⟩, ⟨_, rfl, .rowE (by repeat' (first | exact Lo.s _ | exact zai | exact zbf | refine zad ?_ ?_ | refine za5 ?_ ?_ | refine zak ?_ | refine zbg ?_ | refine Lo.cells ?_ | refine Lo.agg _ ?_ | refine Lo.sl _ ?_ | intro _)) rfl⟩, trivial⟩ ⟨.lo _ (by repeat' (first | exact Lo.s _ | exact zai | refine zad ?_ ?_ | refine zak ?_ | refine Lo.cells ?_ | refine Lo.agg _ ?_ | refine Lo.ref _ ?_ | refine Lo.tup _ ?_ | refine Lo.fn _ _ ?_ | refine Lo.sl _ ?_ | intro _)), .lo _ (by repeat' (first | exact Lo.s _ | exact zai | refine zad ?_ ?_ | refine zak ?_ | refine Lo.cells ?_ | refine Lo.agg _ ?_ | refine Lo.ref _ ?_ | refine Lo.tup _ ?_ | refine Lo.fn _ _ ?_ | refine Lo.sl _ ?_ | intro _)), .ptr 0 0 2 0 0 rfl, .ptr 1 1 2 0 0 rfl, .ptr 2 2 2 0 0 rfl, .lo _ (by repeat' (first | exact Lo.s _ | exact zai | refine zad ?_ ?_ | refine zak ?_ | refine Lo.cells ?_ | refine Lo.agg _ ?_ | refine Lo.ref _ ?_ | refine Lo.tup _ ?_ | refine Lo.fn _ _ ?_ | refine Lo.sl _ ?_ | intro _)), .lo _ (by repeat' (first | exact Lo.s _ | exact zai | refine zad ?_ ?_ | refine zak ?_ | refine Lo.cells ?_ | refine Lo.agg _ ?_ | refine Lo.ref _ ?_ | refine Lo.tup _ ?_ | refine Lo.fn _ _ ?_ | refine Lo.sl _ ?_ | intro _)), .lo _ (by repeat' (first | exact Lo.s _ | exact zai | refine zad ?_ ?_ | refine zak ?_ | refine Lo.cells ?_ | refine Lo.agg _ ?_ | refine Lo.ref _ ?_ | refine Lo.tup _ ?_ | refine Lo.fn _ _ ?_ | refine Lo.sl _ ?_ | intro _)), .lo _ (by repeat' (first | exact Lo.s _ | exact zai | refine zad ?_ ?_ | refine zak ?_ | refine Lo.cells ?_ | refine Lo.agg _ ?_ | refine Lo.ref _ ?_ | refine Lo.tup _ ?_ | refine Lo.fn _ _ ?_ | refine Lo.sl _ ?_ | intro _)), .lo _ (by repeat' (first | exact Lo.s _ | exact zai | refine zad ?_ ?_ | refine zak ?_ | refine Lo.cells ?_ | refine Lo.agg _ ?_ | refine Lo.ref _ ?_ | refine Lo.tup _ ?_ | refine Lo.fn _ _ ?_ | refine Lo.sl _ ?_ | intro _)), .lo _ (by repeat' (first | exact Lo.s _ | exact zai | refine zad ?_ ?_ | refine zak ?_ | refine Lo.cells ?_ | refine Lo.agg _ ?_ | refine Lo.ref _ ?_ | refine Lo.tup _ ?_ | refine Lo.fn _ _ ?_ | refine Lo.sl _ ?_ | intro _)), .lo _ (by repeat' (first | exact Lo.s _ | exact zai | refine zad ?_ ?_ | refine zak ?_ | refine Lo.cells ?_ | refine Lo.agg _ ?_ | refine Lo.ref _ ?_ | refine Lo.tup _ ?_ | refine Lo.fn _ _ ?_ | refine Lo.sl _ ?_ | intro _)), trivial⟩⟩
    · rw [show sf.pd.length - j = 0 by omega, prG] at HK
      subst HK
      rw [if_neg (by simp)] at HJ
      dsimp only at HJ
      obtain ⟨ch, hch⟩ : ∃ ch, gti hi i = ch := ⟨_, rfl⟩
      obtain ⟨cl, hcl⟩ : ∃ cl, gti lo i = cl := ⟨_, rfl⟩
      have hixh : (hi.map eI)[i]? = some (eI ch) := by rw [← hch]; exact ix_map (by omega)
      have hixl : (lo.map eI)[i]? = some (eI cl) := by rw [← hcl]; exact ix_map (by omega)
      rw [hch, hcl] at HJ
      obtain ⟨CH, hCH⟩ : ∃ CH, CH = if pr.n < 0 then ch else cl := ⟨_, rfl⟩
      rw [← hCH] at HJ
      clear hch hcl
      (refine aw_exit ?_; repeat (first | refine ath_x ?_ | refine abl_hit ?_ | refine abl_miss rfl ?_ | refine zar ?_ | refine zap ?_ | refine zag ?_ | refine zae ?_ | refine zac ?_))
      refine zaf ?_
      first | refine zab rfl rfl (zaa rfl) (zao rfl tf69_0 (by decide) rfl) ?_ | refine zab rfl rfl (zaa rfl) (zal rfl tf69_0 (by decide) rfl) ?_
      first | refine zab rfl rfl (zaa rfl) (zan rfl ta22 rfl) ?_ | refine zab rfl rfl (zaa rfl) (zas rfl ta22 rfl rfl rfl rfl rfl) ?_
      refine zab rfl rfl (zaa rfl) (mv_s (.inl rfl) rfl) ?_
      first | refine zab rfl rfl (zaa rfl) (zaz rfl ts22 ti3 rfl rfl rfl hixl rfl) ?_ | refine zab rfl rfl (zaa rfl) (zay rfl ts22 ti3 rfl rfl rfl hixl) ?_
      first | refine zab rfl rfl (zaa rfl) (zan rfl ta3 rfl) ?_ | refine zab rfl rfl (zaa rfl) (zas rfl ta3 rfl rfl rfl rfl rfl) ?_
      refine zab rfl rfl (zaa rfl) (mv_s (.inr rfl) rfl) ?_
      refine zam ?_
      repeat (first | refine zag ?_ | refine zap ?_ | refine zae ?_ | refine zar ?_ | refine zac ?_)
      all_goals refine zaf ?_
      all_goals (first | refine zab rfl rfl (zaa rfl) (zao rfl tf59_0 (by decide) rfl) ?_ | refine zab rfl rfl (zaa rfl) (zal rfl tf59_0 (by decide) rfl) ?_)
      all_goals (first | refine zab rfl rfl (zaa rfl) (zan rfl ta3 rfl) ?_ | refine zab rfl rfl (zaa rfl) (zas rfl ta3 rfl rfl rfl rfl rfl) ?_)
      all_goals (first | refine zbm rfl rfl (zaa rfl) (zbh rfl rfl rfl) (fun h81 => ?_) (fun h81 => ?_) | refine zbn rfl rfl (zaa rfl) (zbh rfl rfl rfl) (fun h81 => ?_) (fun h81 => ?_))
      all_goals refine zam ?_
      all_goals (repeat (first | refine zag ?_ | refine zap ?_ | refine zae ?_ | refine zar ?_ | refine zac ?_))
      all_goals (first | refine zbv rfl ?_ | refine zbr rfl ?_)
      all_goals (repeat (first | refine zag ?_ | refine zap ?_ | refine zae ?_ | refine zar ?_ | refine zac ?_))
      all_goals first
        | skip
          refine zaf ?_
          first | refine zab rfl rfl (zaa rfl) (zao rfl tf69_1 (by decide) rfl) ?_ | refine zab rfl rfl (zaa rfl) (zal rfl tf69_1 (by decide) rfl) ?_
          first | refine zab rfl rfl (zaa rfl) (zan rfl ta22 rfl) ?_ | refine zab rfl rfl (zaa rfl) (zas rfl ta22 rfl rfl rfl rfl rfl) ?_
          refine zab rfl rfl (zaa rfl) (mv_s (.inl rfl) rfl) ?_
          first | refine zab rfl rfl (zaa rfl) (zaz rfl ts22 ti3 rfl rfl rfl hixh rfl) ?_ | refine zab rfl rfl (zaa rfl) (zay rfl ts22 ti3 rfl rfl rfl hixh) ?_
          first | refine zab rfl rfl (zaa rfl) (zan rfl ta3 rfl) ?_ | refine zab rfl rfl (zaa rfl) (zas rfl ta3 rfl rfl rfl rfl rfl) ?_
          refine zab rfl rfl (zaa rfl) (mv_s (.inr rfl) rfl) ?_
          refine zam ?_
          repeat (first | refine zag ?_ | refine zap ?_ | refine zae ?_ | refine zar ?_ | refine zac ?_)
          rw [if_pos (by omega)] at hCH
          subst hCH
        | skip
          rw [if_neg (by omega)] at hCH
          subst hCH
      all_goals have hmul := fMul_pf (P := P) pr (Fr.of CH)
      all_goals generalize mulE pr (Fr.of CH) = x at HJ hmul
      all_goals (all_goals refine aw_draw hmix ?_)
      all_goals (all_goals refine adraw_ex ?_)
      all_goals (all_goals (first | refine zaq rfl rfl (zaa rfl) (fun _ => (zax rfl ta59 ti59 rfl rfl)) ?_ | refine ex_look rfl rfl (zaa rfl) (look_whole rfl ta59 ti59 rfl rfl rfl rfl rfl) ?_ | refine zaq rfl rfl (zaa rfl) (fun _ => (zav rfl ta59 ti59 rfl (Nat.le_of_ble_eq_true rfl))) ?_ | refine ex_look rfl rfl (zaa rfl) (look_ptrs rfl ta59 ti59 rfl rfl rfl rfl (Nat.le_of_ble_eq_true rfl)) ?_))
      all_goals (all_goals refine zaq rfl rfl (zaa rfl) (fun _ => (mv_s (.inl rfl) rfl)) ?_)
      all_goals (all_goals refine zaq rfl rfl (zaa rfl) (fun _ => (za2 rfl rfl ((whole_pf _)) (zat rfl zbl))) ?_)
      all_goals (all_goals refine zaq rfl rfl (zaa rfl) (fun _ => (za2 rfl rfl (hmul) (zat rfl (zat rfl zbl)))) ?_)
      all_goals (all_goals (first | refine zaq rfl rfl (zaa rfl) (fun _ => (mv_tup (.inl rfl) rfl)) ?_ | refine zaq rfl rfl (zaa rfl) (fun _ => (mv_s (.inl rfl) rfl)) ?_))
      all_goals (all_goals refine zaq rfl rfl (zaa rfl) (fun _ => (zbb rfl rfl rfl)) ?_)
      all_goals (all_goals refine zaq rfl rfl (zaa rfl) (fun _ => (zbb rfl rfl rfl)) ?_)
      all_goals (all_goals refine ex_eff rfl rfl (zaa rfl) (zbt rfl ti59 rfl rfl) (fun _ h => app_other h) ?_)
      all_goals (all_goals refine ex_eff0 rfl (zaa rfl) (zbd rfl ti59 rfl rfl rfl rfl rfl rfl (by decide) (by decide)) (fun _ h => set_other h) ?_)
      all_goals (all_goals refine zaq rfl rfl (zaa rfl) (fun _ => (mv_s (.inr rfl) rfl)) ?_)
      all_goals (all_goals refine ex_nil (by kernel_rfl) ?_)
      all_goals (all_goals (repeat (first | refine zag ?_ | refine zap ?_ | refine zae ?_ | refine zar ?_ | refine zac ?_)))
      all_goals (all_goals refine zaf ?_)
      all_goals (all_goals refine zab rfl rfl (zaa rfl) (mv_s (.inl rfl) rfl) ?_)
      all_goals (all_goals (first | refine zbm rfl rfl (zaa rfl) (does_neq rfl rfl rfl) (fun h95 => ?_) (fun h95 => ?_) | refine zbn rfl rfl (zaa rfl) (does_neq rfl rfl rfl) (fun h95 => ?_) (fun h95 => ?_)))
      all_goals (all_goals refine zam ?_)
      all_goals (all_goals (repeat (first | refine zag ?_ | refine zap ?_ | refine zae ?_ | refine zar ?_ | refine zac ?_)))
      all_goals (all_goals (first | refine zbv rfl ?_ | refine zbr rfl ?_))
      all_goals (all_goals (repeat (first | refine zag ?_ | refine zap ?_ | refine zae ?_ | refine zar ?_ | refine zac ?_)))
      all_goals first
        | skip
          rw [if_pos (by omega)] at HJ
          refine zaf ?_
          refine zab rfl rfl (zaa rfl) (does_build rfl ti59 tp59 rfl rfl) ?_
          refine ops_eff rfl (zaa rfl) (zbd rfl ti59 rfl rfl rfl rfl rfl rfl (by decide) (by decide)) ?_
          refine zab rfl rfl (zaa rfl) (mv_s (.inr rfl) rfl) ?_
          refine zam ?_
          repeat (first | refine zag ?_ | refine zap ?_ | refine zae ?_ | refine zar ?_ | refine zac ?_)
          (refine zbw ?_; repeat (first | refine ath_r ?_ | refine abl_r ?_))
          exact post_ct (.inr rfl) ta59 ti59 rfl rfl rfl rfl rfl rfl (by rw [HJ]; rfl)
        | skip
          rw [if_neg (by omega)] at HJ
      all_goals have hadd := fAdd_pf (P := P) sm ⟨x.n, x.d⟩
      all_goals generalize addE sm ⟨x.n, x.d⟩ = t at HJ hadd
      all_goals (refine zaf ?_)
      all_goals (first | refine zab rfl rfl (zaa rfl) (zax rfl ta59 ti59 rfl rfl) ?_ | refine zab rfl rfl (zaa rfl) (za6 rfl ta59 ti59 rfl rfl rfl rfl rfl) ?_ | refine zab rfl rfl (zaa rfl) (zav rfl ta59 ti59 rfl (Nat.le_of_ble_eq_true rfl)) ?_ | refine zab rfl rfl (zaa rfl) (za7 rfl ta59 ti59 rfl rfl rfl rfl (Nat.le_of_ble_eq_true rfl)) ?_)
      all_goals (first | refine zab rfl rfl (zaa rfl) (zax rfl ta59 ti59 rfl rfl) ?_ | refine zab rfl rfl (zaa rfl) (za6 rfl ta59 ti59 rfl rfl rfl rfl rfl) ?_ | refine zab rfl rfl (zaa rfl) (zav rfl ta59 ti59 rfl (Nat.le_of_ble_eq_true rfl)) ?_ | refine zab rfl rfl (zaa rfl) (za7 rfl ta59 ti59 rfl rfl rfl rfl (Nat.le_of_ble_eq_true rfl)) ?_)
      all_goals (refine zab rfl rfl (zaa rfl) (za2 rfl rfl (hadd) (zat rfl (zat rfl zbl))) ?_)
      all_goals (first | refine zab rfl rfl (zaa rfl) (mv_tup (.inl rfl) rfl) ?_ | refine zab rfl rfl (zaa rfl) (mv_s (.inl rfl) rfl) ?_)
      all_goals (refine zab rfl rfl (zaa rfl) (zbb rfl rfl rfl) ?_)
      all_goals (refine zab rfl rfl (zaa rfl) (zbb rfl rfl rfl) ?_)
      all_goals (refine ops_eff rfl (zaa rfl) (zbd rfl ti59 rfl rfl rfl rfl rfl rfl (by decide) (by decide)) ?_)
      all_goals (refine zab rfl rfl (zaa rfl) (mv_s (.inr rfl) rfl) ?_)
      all_goals (refine zam ?_)
      all_goals (repeat (first | refine zag ?_ | refine zap ?_ | refine zae ?_ | refine zar ?_ | refine zac ?_))
      all_goals (all_goals refine zaf ?_)
      all_goals (all_goals refine zab rfl rfl (zaa rfl) (mv_s (.inl rfl) rfl) ?_)
      all_goals (all_goals (first | refine zbm rfl rfl (zaa rfl) (does_neq rfl rfl rfl) (fun h104 => ?_) (fun h104 => ?_) | refine zbn rfl rfl (zaa rfl) (does_neq rfl rfl rfl) (fun h104 => ?_) (fun h104 => ?_)))
      all_goals (all_goals refine zam ?_)
      all_goals (all_goals (repeat (first | refine zag ?_ | refine zap ?_ | refine zae ?_ | refine zar ?_ | refine zac ?_)))
      all_goals (all_goals (first | refine zbv rfl ?_ | refine zbr rfl ?_))
      all_goals (all_goals (repeat (first | refine zag ?_ | refine zap ?_ | refine zae ?_ | refine zar ?_ | refine zac ?_)))
      all_goals first
        | skip
          rw [if_pos (by omega)] at HJ
          refine zaf ?_
          refine zab rfl rfl (zaa rfl) (does_build rfl ti59 tp59 rfl rfl) ?_
          refine ops_eff rfl (zaa rfl) (zbd rfl ti59 rfl rfl rfl rfl rfl rfl (by decide) (by decide)) ?_
          refine zab rfl rfl (zaa rfl) (mv_s (.inr rfl) rfl) ?_
          refine zam ?_
          repeat (first | refine zag ?_ | refine zap ?_ | refine zae ?_ | refine zar ?_ | refine zac ?_)
          (refine zbw ?_; repeat (first | refine ath_r ?_ | refine abl_r ?_))
          exact post_ct (.inr rfl) ta59 ti59 rfl rfl rfl rfl rfl rfl (by rw [HJ]; rfl)
        | skip
          rw [if_neg (by omega)] at HJ
          refine zaf ?_
          refine zab rfl rfl (zaa rfl) (does_add rfl rfl rfl (IntWalk.i64_in _ (by omega))) ?_
          refine zab rfl rfl (zaa rfl) (mv_s (.inl rfl) rfl) ?_
          refine zam ?_
          repeat (first | refine zag ?_ | refine zap ?_ | refine zae ?_ | refine zar ?_ | refine zac ?_)
          exact ⟨(⟨t.n, t.d⟩, i + 1), ⟨by dsimp only; omega, HJ⟩, by dsimp only; omega, wk_st [0, 1] (by decide) ⟨⟨_, rfl, .rowE (by repeat' (first | exact Lo.s _ | exact zai | exact zbf | refine zad ?_ ?_ | refine za5 ?_ ?_ | refine zak ?_ | refine zbg ?_ | refine Lo.cells ?_ | refine Lo.agg _ ?_ | refine Lo.sl _ ?_ | intro _)) rfl⟩, ⟨_, rfl, .rowE (by repeat' (first | exact Lo.s _ | exact zai | exact zbf | refine zad ?_ ?_ | refine za5 ?_ ?_ | refine zak ?_ | refine zbg ?_ | refine Lo.cells ?_ | refine Lo.agg _ ?_ | refine Lo.sl _ ?_ | intro _)) rfl⟩, trivial⟩ ⟨.lo _ (by repeat' (first | exact Lo.s _ | exact zai | refine zad ?_ ?_ | refine zak ?_ | refine Lo.cells ?_ | refine Lo.agg _ ?_ | refine Lo.ref _ ?_ | refine Lo.tup _ ?_ | refine Lo.fn _ _ ?_ | refine Lo.sl _ ?_ | intro _)), .lo _ (by repeat' (first | exact Lo.s _ | exact zai | refine zad ?_ ?_ | refine zak ?_ | refine Lo.cells ?_ | refine Lo.agg _ ?_ | refine Lo.ref _ ?_ | refine Lo.tup _ ?_ | refine Lo.fn _ _ ?_ | refine Lo.sl _ ?_ | intro _)), .ptr 0 0 2 0 0 rfl, .ptr 1 1 2 0 0 rfl, .lo _ (by repeat' (first | exact Lo.s _ | exact zai | refine zad ?_ ?_ | refine zak ?_ | refine Lo.cells ?_ | refine Lo.agg _ ?_ | refine Lo.ref _ ?_ | refine Lo.tup _ ?_ | refine Lo.fn _ _ ?_ | refine Lo.sl _ ?_ | intro _)), .lo _ (by repeat' (first | exact Lo.s _ | exact zai | refine zad ?_ ?_ | refine zak ?_ | refine Lo.cells ?_ | refine Lo.agg _ ?_ | refine Lo.ref _ ?_ | refine Lo.tup _ ?_ | refine Lo.fn _ _ ?_ | refine Lo.sl _ ?_ | intro _)), .lo _ (by repeat' (first | exact Lo.s _ | exact zai | refine zad ?_ ?_ | refine zak ?_ | refine Lo.cells ?_ | refine Lo.agg _ ?_ | refine Lo.ref _ ?_ | refine Lo.tup _ ?_ | refine Lo.fn _ _ ?_ | refine Lo.sl _ ?_ | intro _)), trivial⟩⟩
  · rw [show l.length - i = 0 by omega, bdG] at HJ
    (refine aw_exit ?_; repeat (first | refine ath_x ?_ | refine abl_hit ?_ | refine abl_miss rfl ?_ | refine zar ?_ | refine zap ?_ | refine zag ?_ | refine zae ?_ | refine zac ?_))
    refine zaf ?_
    first | refine zab rfl rfl (zaa rfl) (zax rfl ta59 ti59 rfl rfl) ?_ | refine zab rfl rfl (zaa rfl) (za6 rfl ta59 ti59 rfl rfl rfl rfl rfl) ?_ | refine zab rfl rfl (zaa rfl) (zav rfl ta59 ti59 rfl (Nat.le_of_ble_eq_true rfl)) ?_ | refine zab rfl rfl (zaa rfl) (za7 rfl ta59 ti59 rfl rfl rfl rfl (Nat.le_of_ble_eq_true rfl)) ?_
    refine ops_eff rfl (zaa rfl) (zbd rfl ti59 rfl rfl rfl rfl rfl rfl (by decide) (by decide)) ?_
    refine zab rfl rfl (zaa rfl) (mv_s (.inr rfl) rfl) ?_
    refine zam ?_
    repeat (first | refine zag ?_ | refine zap ?_ | refine zae ?_ | refine zar ?_ | refine zac ?_)
    (refine zbw ?_; repeat (first | refine ath_r ?_ | refine abl_r ?_))
    exact post_ct (.inr rfl) ta59 ti59 rfl rfl rfl rfl rfl rfl (by rw [HJ]; rfl)
def badM (a : Fr) : Bool := !a.okB || decide (a.n < 0)
theorem proves1_pf (a : Fr) : Pure P 54 [eF a] (eB (badM a)) := by
  have hd : badM a = (!a.okB || decide (a.n < 0)) := rfl
  have hv := fValid_pf (P := P) a
  generalize a.okB = z at hd hv
  generalize badM a = R at hd ⊢
  refine aw_fn (by rw [IsP.eq (P := P)]; exact Try.func54) rfl rfl rfl rfl rfl (by repeat' (first | exact Lo.s _ | exact zai | refine zad ?_ ?_ | refine zak ?_ | refine Lo.cells ?_ | refine Lo.agg _ ?_ | refine Lo.ref _ ?_ | refine Lo.tup _ ?_ | refine Lo.fn _ _ ?_ | refine Lo.sl _ ?_ | intro _)) (by repeat' (first | exact Lo.s _ | exact zai | refine zad ?_ ?_ | refine zak ?_ | refine Lo.cells ?_ | refine Lo.agg _ ?_ | refine Lo.ref _ ?_ | refine Lo.tup _ ?_ | refine Lo.fn _ _ ?_ | refine Lo.sl _ ?_ | intro _)) (by simp only [argF]; rfl) ?_
  repeat (first | refine zag ?_ | refine zap ?_ | refine zae ?_ | refine zar ?_ | refine zac ?_)
  refine zaf ?_
  refine zab rfl rfl (zaa rfl) (does_box rfl rfl rfl rfl) ?_
  refine zbo (wk_froz (id := 0) rfl) (zbo (wk_ref (d := 1) rfl rfl rfl) ?_)
  refine zab rfl rfl (zaa rfl) (mv_s (.inr rfl) rfl) ?_
  refine zam ?_
  repeat (first | refine zag ?_ | refine zap ?_ | refine zae ?_ | refine zar ?_ | refine zac ?_)
  all_goals refine zaf ?_
  all_goals (first | refine zab rfl rfl (zaa rfl) (zax rfl ta59 ti59 rfl rfl) ?_ | refine zab rfl rfl (zaa rfl) (za6 rfl ta59 ti59 rfl rfl rfl rfl rfl) ?_ | refine zab rfl rfl (zaa rfl) (zav rfl ta59 ti59 rfl (Nat.le_of_ble_eq_true rfl)) ?_ | refine zab rfl rfl (zaa rfl) (za7 rfl ta59 ti59 rfl rfl rfl rfl (Nat.le_of_ble_eq_true rfl)) ?_)
  all_goals (first | refine zbm rfl rfl (zaa rfl) (za2 rfl rfl (hv) (zat rfl zbl)) (fun h4 => ?_) (fun h4 => ?_) | refine zbn rfl rfl (zaa rfl) (za2 rfl rfl (hv) (zat rfl zbl)) (fun h4 => ?_) (fun h4 => ?_))
  all_goals (first | refine zab rfl rfl (zaa rfl) (does_notp rfl rfl) ?_ | refine zab rfl rfl (zaa rfl) (does_not rfl rfl) ?_)
  all_goals refine zab rfl rfl (zaa rfl) (mv_s (.inl rfl) rfl) ?_
  all_goals (first | refine zab rfl rfl (zah rfl rfl rfl) (zao rfl tf59_0 (by decide) rfl) ?_ | refine zab rfl rfl (zah rfl rfl rfl) (zal rfl tf59_0 (by decide) rfl) ?_ | refine zaj rfl rfl (zaw rfl rfl rfl) ?_ | refine zaj rfl rfl (zau rfl rfl rfl) ?_)
  all_goals (first | refine zab rfl rfl (zah rfl rfl rfl) (zan rfl ta3 rfl) ?_ | refine zab rfl rfl (zah rfl rfl rfl) (zas rfl ta3 rfl rfl rfl rfl rfl) ?_ | refine zaj rfl rfl (zaw rfl rfl rfl) ?_ | refine zaj rfl rfl (zau rfl rfl rfl) ?_)
  all_goals (first | refine zbm rfl rfl (zah rfl rfl rfl) (zbh rfl rfl rfl) (fun h9 => ?_) (fun h9 => ?_) | refine zbn rfl rfl (zah rfl rfl rfl) (zbh rfl rfl rfl) (fun h9 => ?_) (fun h9 => ?_) | refine zaj rfl rfl (zaw rfl rfl rfl) ?_ | refine zaj rfl rfl (zau rfl rfl rfl) ?_)
  all_goals (first | refine zab rfl rfl (zaa rfl) (pickT_s rfl rfl rfl) ?_ | refine zab rfl rfl (zaa rfl) (pickF_s rfl rfl rfl) ?_ | refine zab rfl rfl (zaa rfl) (zbi rfl rfl rfl) ?_ | refine zab rfl rfl (zaa rfl) (zbj rfl rfl rfl) ?_)
  all_goals refine zab rfl rfl (zaa rfl) (mv_s (.inr rfl) rfl) ?_
  all_goals refine zam ?_
  all_goals (repeat (first | refine zag ?_ | refine zap ?_ | refine zae ?_ | refine zar ?_ | refine zac ?_))
  all_goals (refine zbw ?_; repeat (first | refine ath_r ?_ | refine abl_r ?_))
  all_goals exact post1 (.inr rfl) rfl (congrArg eB (by
    rw [hd, h4]
    first
    | rfl
    | (rw [decide_eq_true (by omega)]; rfl)
    | (rw [decide_eq_false (by omega)]; rfl)))
def mulB (d : List Int) (y : List Fr) : Bool := decide (y.length = d.length) && !(y.any badM)
/-- whether multipliers prove that nothing in a box is cheaper -/
def prvB (d : List Int) (l : List Sft) (lo hi : List Int) (y : List Fr) (c : Int) : Bool := mulB d y && ((bdE d l lo hi y).2 && (decide ((cmpE (bdE d l lo hi y).1 (Fr.of (c - 1))).2 = 0) && decide (0 < (cmpE (bdE d l lo hi y).1 (Fr.of (c - 1))).1)))
set_option maxHeartbeats 2000000 in
theorem proves_pf (d : List Int) (l : List Sft) (lo hi : List Int) (y : List Fr) (c : Int) (hv : validS d l = true) (hlo : lo.length = l.length) (hhi : hi.length = l.length) (hc1 : 0 ≤ c) (hc2 : c ≤ 1000000) : Pure P 40 [eL eI d, eL eSh l, eBx lo hi, eL eF y, eI c] (eB (prvB d l lo hi y c)) := by
  have hcb := containsFF_pf (P := P) 54 [] badM y lo_F (.fn _ _ (by simp)) (fun a _ => proves1_pf a)
  have HI : prvB d l lo hi y c = (mulB d y && ((bdE d l lo hi y).2 && (decide ((cmpE (bdE d l lo hi y).1 (Fr.of (c - 1))).2 = 0) && decide (0 < (cmpE (bdE d l lo hi y).1 (Fr.of (c - 1))).1)))) := rfl
  generalize prvB d l lo hi y c = R at HI ⊢
  have hm : mulB d y = (decide (y.length = d.length) && !(y.any badM)) := rfl
  generalize y.any badM = z at hcb hm
  generalize mulB d y = zm at hm HI
  refine aw_fn (by rw [IsP.eq (P := P)]; exact Try.func40) rfl rfl rfl rfl rfl (by repeat' (first | exact Lo.s _ | exact zai | refine zad ?_ ?_ | refine zak ?_ | refine Lo.cells ?_ | refine Lo.agg _ ?_ | refine Lo.ref _ ?_ | refine Lo.tup _ ?_ | refine Lo.fn _ _ ?_ | refine Lo.sl _ ?_ | intro _)) (by repeat' (first | exact Lo.s _ | exact zai | refine zad ?_ ?_ | refine zak ?_ | refine Lo.cells ?_ | refine Lo.agg _ ?_ | refine Lo.ref _ ?_ | refine Lo.tup _ ?_ | refine Lo.fn _ _ ?_ | refine Lo.sl _ ?_ | intro _)) (by simp only [argF]; rfl) ?_
  repeat (first | refine zag ?_ | refine zap ?_ | refine zae ?_ | refine zar ?_ | refine zac ?_)
  refine aw_bdm (d := 0) rfl (fun hm1 => ?_)
  refine aw_bdm (d := 3) rfl (fun hm2 => ?_)
  unfold maxLen at hm1 hm2
  refine zaf ?_
  refine zab rfl rfl (zaa rfl) (does_box rfl rfl rfl rfl) ?_
  refine zbo (wk_froz (id := 0) rfl) (zbo (wk_ref (d := 7) rfl rfl rfl) ?_)
  refine zab rfl rfl (zaa rfl) (mv_s (.inr rfl) rfl) ?_
  refine zam ?_
  repeat (first | refine zag ?_ | refine zap ?_ | refine zae ?_ | refine zar ?_ | refine zac ?_)
  all_goals refine zaf ?_
  all_goals (first | refine zab rfl rfl (zaa rfl) (za9 (.inl rfl) rfl) ?_ | refine zab rfl rfl (zaa rfl) (zbp (.inl rfl) rfl) ?_ | refine zab rfl rfl (zaa rfl) (mv_s (.inl rfl) rfl) ?_ | refine zab rfl rfl (zaa rfl) (zba (.inl rfl) rfl) ?_)
  all_goals (first | refine zab rfl rfl (zaa rfl) (za3 rfl ts27 rfl) ?_ | refine zab rfl rfl (zaa rfl) (za8 rfl ts27 rfl) ?_ | refine zab rfl rfl (zaa rfl) (za0 rfl ts27 rfl) ?_ | refine zab rfl rfl (zaa rfl) (zbe rfl ts27 rfl) ?_ | refine zab rfl rfl (zaa rfl) (za1 rfl ts27 rfl) ?_)
  all_goals (first | refine zab rfl rfl (zaa rfl) (za9 (.inl rfl) rfl) ?_ | refine zab rfl rfl (zaa rfl) (zbp (.inl rfl) rfl) ?_ | refine zab rfl rfl (zaa rfl) (mv_s (.inl rfl) rfl) ?_ | refine zab rfl rfl (zaa rfl) (zba (.inl rfl) rfl) ?_)
  all_goals (first | refine zab rfl rfl (zaa rfl) (za3 rfl ts22 rfl) ?_ | refine zab rfl rfl (zaa rfl) (za8 rfl ts22 rfl) ?_ | refine zab rfl rfl (zaa rfl) (za0 rfl ts22 rfl) ?_ | refine zab rfl rfl (zaa rfl) (zbe rfl ts22 rfl) ?_ | refine zab rfl rfl (zaa rfl) (za1 rfl ts22 rfl) ?_)
  all_goals (first | refine zbm rfl rfl (zaa rfl) (does_neq rfl rfl rfl) (fun h19 => ?_) (fun h19 => ?_) | refine zbn rfl rfl (zaa rfl) (does_neq rfl rfl rfl) (fun h19 => ?_) (fun h19 => ?_))
  all_goals refine zab rfl rfl (zaa rfl) (mv_s (.inl rfl) rfl) ?_
  all_goals (first | refine zab rfl rfl (zah rfl rfl rfl) (za9 (.inl rfl) rfl) ?_ | refine zab rfl rfl (zah rfl rfl rfl) (zbp (.inl rfl) rfl) ?_ | refine zab rfl rfl (zah rfl rfl rfl) (mv_s (.inl rfl) rfl) ?_ | refine zab rfl rfl (zah rfl rfl rfl) (zba (.inl rfl) rfl) ?_ | refine zaj rfl rfl (zaw rfl rfl rfl) ?_ | refine zaj rfl rfl (zau rfl rfl rfl) ?_)
  all_goals (first | refine zbm rfl rfl (zah rfl rfl rfl) (za2 rfl rfl (hcb) (zat rfl (zat rfl zbl))) (fun h22 => ?_) (fun h22 => ?_) | refine zbn rfl rfl (zah rfl rfl rfl) (za2 rfl rfl (hcb) (zat rfl (zat rfl zbl))) (fun h22 => ?_) (fun h22 => ?_) | refine zaj rfl rfl (zaw rfl rfl rfl) ?_ | refine zaj rfl rfl (zau rfl rfl rfl) ?_)
  all_goals (first | refine zab rfl rfl (zaa rfl) (pickT_s rfl rfl rfl) ?_ | refine zab rfl rfl (zaa rfl) (pickF_s rfl rfl rfl) ?_ | refine zab rfl rfl (zaa rfl) (zbi rfl rfl rfl) ?_ | refine zab rfl rfl (zaa rfl) (zbj rfl rfl rfl) ?_)
  all_goals refine zam ?_
  all_goals (repeat (first | refine zag ?_ | refine zap ?_ | refine zae ?_ | refine zar ?_ | refine zac ?_))
  all_goals (first | refine zbv rfl ?_ | refine zbr rfl ?_)
  all_goals (repeat (first | refine zag ?_ | refine zap ?_ | refine zae ?_ | refine zar ?_ | refine zac ?_))
  all_goals first
    | skip
      refine zaf ?_
      refine zab rfl rfl (zaa rfl) (mv_s (.inr rfl) rfl) ?_
      refine zam ?_
      repeat (first | refine zag ?_ | refine zap ?_ | refine zae ?_ | refine zar ?_ | refine zac ?_)
      (refine zbw ?_; repeat (first | refine ath_r ?_ | refine abl_r ?_))
      exact post1 (.inr rfl) rfl (congrArg eB (by
        rw [HI, hm]
        first
        | (rw [h22, Bool.not_true, Bool.and_false]; rfl)
        | (rw [decide_eq_false (by omega)]; rfl)))
    | skip
  have hyl : y.length = d.length := by omega
  have hzm : zm = true := by rw [hm, h22, decide_eq_true hyl]; rfl
  rw [hzm, Bool.true_and] at HI
  have hbd := bound_pf (P := P) d l lo hi y hv hyl hlo hhi
  generalize bdE d l lo hi y = b at HI hbd
  obtain ⟨bf, bz⟩ := b
  replace hbd : Pure P 56 [eL eI d, eL eSh l, eBx lo hi, eL eF y] (.tup [eF bf, eB bz]) := hbd
  dsimp only at HI
  cases bz with
  | false =>
    refine zaf ?_
    first | refine zab rfl rfl (zaa rfl) (za9 (.inl rfl) rfl) ?_ | refine zab rfl rfl (zaa rfl) (zbp (.inl rfl) rfl) ?_ | refine zab rfl rfl (zaa rfl) (mv_s (.inl rfl) rfl) ?_ | refine zab rfl rfl (zaa rfl) (zba (.inl rfl) rfl) ?_
    first | refine zab rfl rfl (zaa rfl) (za9 (.inl rfl) rfl) ?_ | refine zab rfl rfl (zaa rfl) (zbp (.inl rfl) rfl) ?_ | refine zab rfl rfl (zaa rfl) (mv_s (.inl rfl) rfl) ?_ | refine zab rfl rfl (zaa rfl) (zba (.inl rfl) rfl) ?_
    first | refine zab rfl rfl (zaa rfl) (zax rfl ta69 ti69 rfl rfl) ?_ | refine zab rfl rfl (zaa rfl) (za6 rfl ta69 ti69 rfl rfl rfl rfl rfl) ?_ | refine zab rfl rfl (zaa rfl) (zav rfl ta69 ti69 rfl (Nat.le_of_ble_eq_true rfl)) ?_ | refine zab rfl rfl (zaa rfl) (za7 rfl ta69 ti69 rfl rfl rfl rfl (Nat.le_of_ble_eq_true rfl)) ?_
    first | refine zab rfl rfl (zaa rfl) (za9 (.inl rfl) rfl) ?_ | refine zab rfl rfl (zaa rfl) (zbp (.inl rfl) rfl) ?_ | refine zab rfl rfl (zaa rfl) (mv_s (.inl rfl) rfl) ?_ | refine zab rfl rfl (zaa rfl) (zba (.inl rfl) rfl) ?_
    refine zab rfl rfl (zaa rfl) (za2 rfl rfl (hbd) (zat rfl (zat rfl (zat rfl (zat rfl zbl))))) ?_
    first | refine zab rfl rfl (zaa rfl) (mv_tup (.inl rfl) rfl) ?_ | refine zab rfl rfl (zaa rfl) (mv_s (.inl rfl) rfl) ?_
    refine zab rfl rfl (zaa rfl) (zbb rfl rfl rfl) ?_
    refine zab rfl rfl (zaa rfl) (zbb rfl rfl rfl) ?_
    refine zab rfl rfl (zaa rfl) (zbt rfl ti59 rfl rfl) ?_
    refine ops_eff rfl (zaa rfl) (zbd rfl ti59 rfl rfl rfl rfl rfl rfl (by decide) (by decide)) ?_
    refine zab rfl rfl (zaa rfl) (mv_s (.inr rfl) rfl) ?_
    refine zam ?_
    repeat (first | refine zag ?_ | refine zap ?_ | refine zae ?_ | refine zar ?_ | refine zac ?_)
    refine zaf ?_
    refine zab rfl rfl (zaa rfl) (mv_s (.inl rfl) rfl) ?_
    first | refine zab rfl rfl (zaa rfl) (does_notp rfl rfl) ?_ | refine zab rfl rfl (zaa rfl) (does_not rfl rfl) ?_
    refine zam ?_
    repeat (first | refine zag ?_ | refine zap ?_ | refine zae ?_ | refine zar ?_ | refine zac ?_)
    refine zbv rfl ?_
    repeat (first | refine zag ?_ | refine zap ?_ | refine zae ?_ | refine zar ?_ | refine zac ?_)
    refine zaf ?_
    refine zab rfl rfl (zaa rfl) (mv_s (.inr rfl) rfl) ?_
    refine zam ?_
    repeat (first | refine zag ?_ | refine zap ?_ | refine zae ?_ | refine zar ?_ | refine zac ?_)
    (refine zbw ?_; repeat (first | refine ath_r ?_ | refine abl_r ?_))
    exact post1 (.inr rfl) rfl (congrArg eB (by rw [HI]; rfl))
  | true =>
    rw [Bool.true_and] at HI
    have hcm := fCmp_pf (P := P) bf (Fr.of (c - 1))
    generalize cmpE bf (Fr.of (c - 1)) = cm at HI hcm
    refine zaf ?_
    first | refine zab rfl rfl (zaa rfl) (za9 (.inl rfl) rfl) ?_ | refine zab rfl rfl (zaa rfl) (zbp (.inl rfl) rfl) ?_ | refine zab rfl rfl (zaa rfl) (mv_s (.inl rfl) rfl) ?_ | refine zab rfl rfl (zaa rfl) (zba (.inl rfl) rfl) ?_
    first | refine zab rfl rfl (zaa rfl) (za9 (.inl rfl) rfl) ?_ | refine zab rfl rfl (zaa rfl) (zbp (.inl rfl) rfl) ?_ | refine zab rfl rfl (zaa rfl) (mv_s (.inl rfl) rfl) ?_ | refine zab rfl rfl (zaa rfl) (zba (.inl rfl) rfl) ?_
    first | refine zab rfl rfl (zaa rfl) (zax rfl ta69 ti69 rfl rfl) ?_ | refine zab rfl rfl (zaa rfl) (za6 rfl ta69 ti69 rfl rfl rfl rfl rfl) ?_ | refine zab rfl rfl (zaa rfl) (zav rfl ta69 ti69 rfl (Nat.le_of_ble_eq_true rfl)) ?_ | refine zab rfl rfl (zaa rfl) (za7 rfl ta69 ti69 rfl rfl rfl rfl (Nat.le_of_ble_eq_true rfl)) ?_
    first | refine zab rfl rfl (zaa rfl) (za9 (.inl rfl) rfl) ?_ | refine zab rfl rfl (zaa rfl) (zbp (.inl rfl) rfl) ?_ | refine zab rfl rfl (zaa rfl) (mv_s (.inl rfl) rfl) ?_ | refine zab rfl rfl (zaa rfl) (zba (.inl rfl) rfl) ?_
    refine zab rfl rfl (zaa rfl) (za2 rfl rfl (hbd) (zat rfl (zat rfl (zat rfl (zat rfl zbl))))) ?_
    first | refine zab rfl rfl (zaa rfl) (mv_tup (.inl rfl) rfl) ?_ | refine zab rfl rfl (zaa rfl) (mv_s (.inl rfl) rfl) ?_
    refine zab rfl rfl (zaa rfl) (zbb rfl rfl rfl) ?_
    refine zab rfl rfl (zaa rfl) (zbb rfl rfl rfl) ?_
    refine zab rfl rfl (zaa rfl) (zbt rfl ti59 rfl rfl) ?_
    refine ops_eff rfl (zaa rfl) (zbd rfl ti59 rfl rfl rfl rfl rfl rfl (by decide) (by decide)) ?_
    refine zab rfl rfl (zaa rfl) (mv_s (.inr rfl) rfl) ?_
    refine zam ?_
    repeat (first | refine zag ?_ | refine zap ?_ | refine zae ?_ | refine zar ?_ | refine zac ?_)
    refine zaf ?_
    refine zab rfl rfl (zaa rfl) (mv_s (.inl rfl) rfl) ?_
    first | refine zab rfl rfl (zaa rfl) (does_notp rfl rfl) ?_ | refine zab rfl rfl (zaa rfl) (does_not rfl rfl) ?_
    refine zam ?_
    repeat (first | refine zag ?_ | refine zap ?_ | refine zae ?_ | refine zar ?_ | refine zac ?_)
    refine zbr rfl ?_
    repeat (first | refine zag ?_ | refine zap ?_ | refine zae ?_ | refine zar ?_ | refine zac ?_)
    refine aw_draw hmix ?_
    refine adraw_quiet (by kernel_rfl) ?_
    first | refine za4 rfl rfl (zaa rfl) (zax rfl ta59 ti59 rfl rfl) ?_ | refine za4 rfl rfl (zaa rfl) (za6 rfl ta59 ti59 rfl rfl rfl rfl rfl) ?_ | refine za4 rfl rfl (zaa rfl) (zav rfl ta59 ti59 rfl (Nat.le_of_ble_eq_true rfl)) ?_ | refine za4 rfl rfl (zaa rfl) (za7 rfl ta59 ti59 rfl rfl rfl rfl (Nat.le_of_ble_eq_true rfl)) ?_
    refine za4 rfl rfl (zaa rfl) (mv_s (.inl rfl) rfl) ?_
    refine za4 rfl rfl (zaa rfl) (does_sub rfl rfl rfl (IntWalk.i64_in _ (by omega))) ?_
    refine za4 rfl rfl (zaa rfl) (za2 rfl rfl ((whole_pf _)) (zat rfl zbl)) ?_
    refine za4 rfl rfl (zaa rfl) (za2 rfl rfl (hcm) (zat rfl (zat rfl zbl))) ?_
    first | refine za4 rfl rfl (zaa rfl) (mv_tup (.inl rfl) rfl) ?_ | refine za4 rfl rfl (zaa rfl) (mv_s (.inl rfl) rfl) ?_
    refine za4 rfl rfl (zaa rfl) (zbb rfl rfl rfl) ?_
    refine za4 rfl rfl (zaa rfl) (zbb rfl rfl rfl) ?_
    refine za4 rfl rfl (zaa rfl) (mv_s (.inr rfl) rfl) ?_
    refine za4 rfl rfl (zaa rfl) (mv_s (.inr rfl) rfl) ?_
    refine qx_nil ?_
    repeat (first | refine zag ?_ | refine zap ?_ | refine zae ?_ | refine zar ?_ | refine zac ?_)
    all_goals refine zaf ?_
    all_goals refine zab rfl rfl (zaa rfl) (mv_s (.inl rfl) rfl) ?_
    all_goals (first | refine zbm rfl rfl (zaa rfl) (does_eql rfl rfl rfl) (fun h43 => ?_) (fun h43 => ?_) | refine zbn rfl rfl (zaa rfl) (does_eql rfl rfl rfl) (fun h43 => ?_) (fun h43 => ?_))
    all_goals refine zab rfl rfl (zaa rfl) (mv_s (.inl rfl) rfl) ?_
    all_goals (first | refine zab rfl rfl (zah rfl rfl rfl) (mv_s (.inl rfl) rfl) ?_ | refine zaj rfl rfl (runs_nt rfl rfl rfl) ?_ | refine zaj rfl rfl (zau rfl rfl rfl) ?_)
    all_goals (first | refine zbm rfl rfl (zah rfl rfl rfl) (does_gtr rfl rfl rfl) (fun h46 => ?_) (fun h46 => ?_) | refine zbn rfl rfl (zah rfl rfl rfl) (does_gtr rfl rfl rfl) (fun h46 => ?_) (fun h46 => ?_) | refine zaj rfl rfl (runs_nt rfl rfl rfl) ?_ | refine zaj rfl rfl (zau rfl rfl rfl) ?_)
    all_goals (first | refine zab rfl rfl (zaa rfl) (pickT_s rfl rfl rfl) ?_ | refine zab rfl rfl (zaa rfl) (pickF_s rfl rfl rfl) ?_ | refine zab rfl rfl (zaa rfl) (zbi rfl rfl rfl) ?_ | refine zab rfl rfl (zaa rfl) (zbj rfl rfl rfl) ?_)
    all_goals refine zab rfl rfl (zaa rfl) (mv_s (.inr rfl) rfl) ?_
    all_goals refine zam ?_
    all_goals (repeat (first | refine zag ?_ | refine zap ?_ | refine zae ?_ | refine zar ?_ | refine zac ?_))
    all_goals (refine zbw ?_; repeat (first | refine ath_r ?_ | refine abl_r ?_))
    all_goals exact post1 (.inr rfl) rfl (congrArg eB (by
      rw [HI]
      first
      | (rw [decide_eq_false (show ¬ (cm.2 = 0) by omega)]; rfl)
      | (rw [decide_eq_true (show cm.2 = 0 by omega), decide_eq_true (show 0 < cm.1 by omega)]; rfl)
      | (rw [decide_eq_true (show cm.2 = 0 by omega), decide_eq_false (show ¬ (0 < cm.1) by omega)]; rfl)))
end Go.Proofs.Ytmoipmnhgdmkpaa.Aw
end
