/-
  Texts joined: ShRc, EvL, ShQ, ShRd, ShRe, Orc, ClE. Conditions: none.
-/
import Derived.Test.YtmoipmnhgdmkpaaGreatJC11
import Derived.Test.YtmoipmnhgdmkpaaGreatJC7
import Derived.Test.YtmoipmnhgdmkpaaGreatJC4
import Derived.Test.YtmoipmnhgdmkpaaGreatJC10
import Derived.Carry
import Derived.Test.YtmoipmnhgdmkpaaGreatJC8
import Derived.Test.YtmoipmnhgdmkpaaGreatJC5
section
namespace Go.Proofs.YtmoipmnhgdmkpaaGreat.Aw
set_option linter.unusedSimpArgs false
set_option linter.unusedVariables false
set_option linter.unusedSectionVars false
open Go.RowKit Go.Proofs
variable {P : Program} [IsP P]

theorem does_makeF {o : Oper} {F : Frm} {σ : List Ob} {t e : TypeId} {y y' : Operand} {kl kc : IntKind} {l c : Nat} {i i' : Int} {z : Value} {n bt : Nat} (ho : o.op = .makeSlice t y y') (ht : zbu P t = some e) (hi : zb3 P e = some (some z, n, bt))
    (h1 : (ofValue z).cells.all AV.one = true) (hn : (ofValue z).cells.length = n) (h0 : 0 < n) (hy : F.eval y = .s (.int kl i)) (hy' : F.eval y' = .s (.int kc i')) (hil : i = (l : Int)) (hic : i' = (c : Int)) (hlc : l ≤ c) (hb : bt * c ≤ 281474976710656) (hm : c ≤ 9223372036854775807)
    (hl : Lo 0 (.sl (List.replicate l (ofValue z)))) : Does P o F σ (.sl (List.replicate l (ofValue z))) σ :=
  does_fin (does_make ho ht hi h1 hn h0 hy hy' hil hic hlc hb hm) (by simp) (fun u hu => by
    simp [ho, Op.operands] at hu
    rcases hu with rfl | rfl
    · rw [hy]; exact .s _
    · rw [hy']; exact .s _) hl
theorem addE_okr {a b : Fr} (h : (addE a b).e = 0) : (Fr.mk (addE a b).n (addE a b).d).ok := by
  unfold addE at h ⊢
  split at h
  · rename_i hk
    rw [if_pos hk]
    simp only [Bool.and_eq_true, Fr.okB_iff] at hk
    cases hf : fadd a b with
    | none => rw [hf] at h; simp [FE.of] at h
    | some c =>
      have h1 : a.d ≠ 0 := by have := hk.1.2.2.1; omega
      have h2 : b.d ≠ 0 := by have := hk.2.2.2.1; omega
      exact mkF_ok (Int.mul_ne_zero h1 h2) hf
  · simp [FE.err] at h
theorem of_ok {n : Int} (h1 : -1000000 ≤ n) (h2 : n ≤ 1000000) : (Fr.of n).ok := by
  refine ⟨by show -1073741824 ≤ n; omega, by show n ≤ 1073741824; omega, by show (1 : Int) ≤ 1; decide, by show (1 : Int) ≤ 1073741824; decide, ?_⟩
  show Int.gcd n 1 = 1
  simp
theorem dotG_okr : ∀ (a b : List Fr) (acc : Fr), acc.ok → (dotG acc a b).e = 0 → (Fr.mk (dotG acc a b).n (dotG acc a b).d).ok
  | [], b, acc, h, _ => by rw [dotG]; exact h; intro a ta b tb h; cases h
  | a :: ta, [], acc, h, _ => by rw [dotG]; exact h; intro a ta b tb h h2; cases h2
  | a :: ta, b :: tb, acc, h, he => by
    rw [dotG] at he ⊢
    split at he
    · rename_i h1; exact absurd he h1
    · rename_i h1
      split at he
      · rename_i h2; exact absurd he h2
      · rename_i h2
        rw [if_neg h1, if_neg h2]
        exact dotG_okr ta tb _ (addE_okr (Decidable.not_not.1 h2)) he
theorem dotE_okr {a b : List Fr} (h : (dotE a b).e = 0) : (Fr.mk (dotE a b).n (dotE a b).d).ok := by
  unfold dotE at h ⊢
  split at h
  · simp [FE.err] at h
  · rename_i h1
    split at h
    · simp [FE.err] at h
    · rename_i h2
      split at h
      · simp [FE.err] at h
      · rename_i h3
        rw [if_neg h1, if_neg h2, if_neg h3]
        exact dotG_okr a b _ (of_ok (by decide) (by decide)) h
theorem bdG_okr (l : List Sft) (lo hi : List Int) (y : List Fr) : ∀ (n i : Nat) (s : Fr), s.ok → (bdG l lo hi y n i s).2 = true → (bdG l lo hi y n i s).1.ok
  | 0, i, s, h, _ => by rw [bdG]; exact h
  | n + 1, i, s, h, h2 => by
    rw [bdG] at h2 ⊢
    generalize (if (prE y (gti l i)).n < 0 then gti hi i else gti lo i) = ch at h2 ⊢
    split at h2
    · cases h2
    · rename_i g1
      split at h2
      · cases h2
      · rename_i g2
        split at h2
        · cases h2
        · rename_i g3
          rw [if_neg g1, if_neg g2, if_neg g3]
          exact bdG_okr l lo hi y n (i + 1) _ (addE_okr (Decidable.not_not.1 g3)) h2
theorem bdE_okr {d : List Int} {l : List Sft} {lo hi : List Int} {y : List Fr} (h : (bdE d l lo hi y).2 = true) : (bdE d l lo hi y).1.ok := by
  unfold bdE at h ⊢
  split at h
  · cases h
  · rename_i h1
    rw [if_neg h1]
    exact bdG_okr l lo hi y _ _ _ (dotE_okr (Decidable.not_not.1 h1)) h
/-- nodes left, or -1 -/
def lftI (x : Bool × Int) : Int := if x.1 = true then x.2 else -1
theorem lft_t {x : Int} : lftI (true, x) = x := if_pos rfl
theorem lft_f {x : Int} : lftI (false, x) = -1 := if_neg (by simp)
theorem prv_f {d : List Int} {l : List Sft} {lo hi : List Int} {y : List Fr} {c : Int} (h : mulB d y = false) : prvB d l lo hi y c = false := by unfold prvB; rw [h]; rfl
theorem prv_b {d : List Int} {l : List Sft} {lo hi : List Int} {y : List Fr} {c : Int} {f : Fr} (h : bdE d l lo hi y = (f, false)) : prvB d l lo hi y c = false := by unfold prvB; rw [h]; simp
theorem prv_c {d : List Int} {l : List Sft} {lo hi : List Int} {y : List Fr} {c : Int} {f : Fr} (h0 : mulB d y = true) (h : bdE d l lo hi y = (f, true)) (h1 : f.ok) (h2 : (Fr.of (c - 1)).ok) : prvB d l lo hi y c = decide (0 < cmpN f (Fr.of (c - 1))) := by
  unfold prvB
  have e : cmpE f (Fr.of (c - 1)) = (cmpN f (Fr.of (c - 1)), 0) := by
    unfold cmpE
    rw [Fr.okB_of h1, Fr.okB_of h2]; rfl
  rw [h0, h, e]
  simp
set_option maxHeartbeats 8000000 in
theorem rproves_n (d : List Int) (l : List Sft) (c : Int) (hv : zde d l = true) (hc1 : 0 ≤ c) (hc2 : c ≤ 1000000) : ∀ (m : Nat) (b : Br) (lo hi : List Int) (n : Int), SizeOf.sizeOf b < m → BX l lo hi → 0 ≤ n → n ≤ 20000 → Pure P 23 [eL eI d, eL eSh l, eL eI lo, eL eI hi, eI c, eBr b, eI n] (eI (lftI (rgtE d l c b lo hi n))) := by
  intro m
  induction m
  · intro b lo hi n h; omega
  rename_i m IH0
  intro b lo hi n hsz hb hn1 hn2
  obtain ⟨s, t, L, y⟩ := b
  have IH : ∀ b', b' ∈ L → ∀ (lo hi : List Int) (n : Int), BX l lo hi → 0 ≤ n → n ≤ 20000 → Pure P 23 [eL eI d, eL eSh l, eL eI lo, eL eI hi, eI c, eBr b', eI n] (eI (lftI (rgtE d l c b' lo hi n))) := fun b' hb' lo hi n h1 h2 h3 => IH0 b' lo hi n (by have := List.sizeOf_lt_of_mem hb'; simp at hsz; omega) h1 h2 h3
  clear IH0 hsz
  obtain ⟨⟨q1, q2, q3⟩, qd, ql⟩ := zcz hv
  have hbx := hb
  obtain ⟨z1, z2, z3, z4⟩ := hb
  obtain ⟨R, HR⟩ : ∃ R, R = rgtE d l c (.mk s t L y) lo hi n := ⟨_, rfl⟩
  rw [← HR]
  have hlo : ∀ x ∈ [eL eI d, eL eSh l, eL eI lo, eL eI hi, eI c, eBr (.mk s t L y), eI n], Lo 0 x := zae (by repeat' (first | exact Lo.s _ | exact zaj | refine zae ?_ ?_ | refine zak ?_ | refine Lo.cells ?_ | refine Lo.agg _ ?_ | refine Lo.ref _ ?_ | refine Lo.tup _ ?_ | refine Lo.fn _ _ ?_ | refine Lo.sl _ ?_ | intro _)) (zae (zak lo_Sh) (zae (by repeat' (first | exact Lo.s _ | exact zaj | refine zae ?_ ?_ | refine zak ?_ | refine Lo.cells ?_ | refine Lo.agg _ ?_ | refine Lo.ref _ ?_ | refine Lo.tup _ ?_ | refine Lo.fn _ _ ?_ | refine Lo.sl _ ?_ | intro _)) (zae (by repeat' (first | exact Lo.s _ | exact zaj | refine zae ?_ ?_ | refine zak ?_ | refine Lo.cells ?_ | refine Lo.agg _ ?_ | refine Lo.ref _ ?_ | refine Lo.tup _ ?_ | refine Lo.fn _ _ ?_ | refine Lo.sl _ ?_ | intro _)) (zae (.s _) (zae (lo_Br _) (zae (.s _) zaj))))))
  rw [eBr_mk] at hlo ⊢
  refine zc4 (by rw [IsP.eq (P := P)]; exact Tryz.func23) rfl rfl rfl rfl rfl hlo (.s _) (by simp only [argF]; rfl) ?_
  repeat (first | refine zag ?_ | refine zar ?_ | refine zad ?_ | refine zas ?_ | refine zac ?_)
  refine zc5 (d := 1) rfl (fun hm1 => ?_)
  unfold maxLen at hm1
  refine zaf ?_
  refine zab rfl rfl (zaa rfl) (zcv rfl rfl rfl rfl) ?_
  refine zbq (zcd (id := 0) rfl) (zbq (zcy (d := 12) rfl rfl rfl) ?_)
  refine zab rfl rfl (zaa rfl) (mv_s (.inr rfl) rfl) ?_
  refine zan ?_
  repeat (first | refine zag ?_ | refine zar ?_ | refine zad ?_ | refine zas ?_ | refine zac ?_)
  refine zaf ?_
  refine zab rfl rfl (zaa rfl) (mv_s (.inl rfl) rfl) ?_
  refine zab rfl rfl (zaa rfl) (does_sub rfl rfl rfl (IntWalk.i64_in _ (by omega))) ?_
  refine zab rfl rfl (zaa rfl) (mv_s (.inr rfl) rfl) ?_
  refine zan ?_
  repeat (first | refine zag ?_ | refine zar ?_ | refine zad ?_ | refine zas ?_ | refine zac ?_)
  all_goals refine zaf ?_
  all_goals refine zab rfl rfl (zaa rfl) (mv_s (.inl rfl) rfl) ?_
  all_goals (first | refine zbh rfl rfl (zaa rfl) (zbb rfl rfl rfl) (fun h20 => ?_) (fun h20 => ?_) | refine zbi rfl rfl (zaa rfl) (zbb rfl rfl rfl) (fun h20 => ?_) (fun h20 => ?_))
  all_goals refine zan ?_
  all_goals (repeat (first | refine zag ?_ | refine zar ?_ | refine zad ?_ | refine zas ?_ | refine zac ?_))
  all_goals (first | refine zbp rfl ?_ | refine zbm rfl ?_)
  all_goals (repeat (first | refine zag ?_ | refine zar ?_ | refine zad ?_ | refine zas ?_ | refine zac ?_))
  · rw [rgt_0 (by omega)] at HR
    refine zaf ?_
    refine zab rfl rfl (zaa rfl) (mv_s (.inr rfl) rfl) ?_
    refine zan ?_
    repeat (first | refine zag ?_ | refine zar ?_ | refine zad ?_ | refine zas ?_ | refine zac ?_)
    (refine zbs ?_; repeat (first | refine zb8 ?_ | refine zb9 ?_))
    exact zcm (.inr rfl) rfl (congrArg eI (by rw [HR, lft_f]))
  have hn0 : ¬ n ≤ 0 := by omega
  refine zaf ?_
  first | refine zab rfl rfl (zaa rfl) (zal rfl tf29_2 (by decide) rfl) ?_ | refine zab rfl rfl (zaa rfl) (zai rfl tf29_2 (by decide) rfl) ?_
  first | refine zab rfl rfl (zaa rfl) (zam rfl ta26 rfl) ?_ | refine zab rfl rfl (zaa rfl) (zap rfl ta26 rfl rfl rfl rfl rfl) ?_
  first | refine zab rfl rfl (zaa rfl) (za4 rfl ts26 rfl) ?_ | refine zab rfl rfl (zaa rfl) (za8 rfl ts26 rfl) ?_ | refine zab rfl rfl (zaa rfl) (za2 rfl ts26 rfl) ?_ | refine zab rfl rfl (zaa rfl) (zbc rfl ts26 rfl) ?_ | refine zab rfl rfl (zaa rfl) (za3 rfl ts26 rfl) ?_
  refine zab rfl rfl (zaa rfl) (zcr rfl rfl rfl) ?_
  refine zan ?_
  repeat (first | refine zag ?_ | refine zar ?_ | refine zad ?_ | refine zas ?_ | refine zac ?_)
  refine zc5 (d := 22) rfl (fun hm2 => ?_)
  unfold maxLen at hm2
  refine aw_if rfl (fun h => ?_) (fun h => ?_)
  · repeat (first | refine zag ?_ | refine zar ?_ | refine zad ?_ | refine zas ?_ | refine zac ?_)
    rw [rgt_leaf hn0 (by omega)] at HR
    have hmu := multipliers_pf (P := P) d y
    have pf := @prv_f d l lo hi y c
    have pb := @prv_b d l lo hi y c
    have pc := @prv_c d l lo hi y c
    have hml : mulB d y = true → y.length = d.length := fun h => by
      unfold mulB at h; simp only [Bool.and_eq_true, decide_eq_true_eq] at h; exact h.1
    generalize mulB d y = zm at hmu hml pf pc
    generalize prvB d l lo hi y c = zp at HR pf pb pc
    all_goals refine zaf ?_
    all_goals (first | refine zab rfl rfl (zaa rfl) (zal rfl zdc (by decide) rfl) ?_ | refine zab rfl rfl (zaa rfl) (zai rfl zdc (by decide) rfl) ?_)
    all_goals (first | refine zab rfl rfl (zaa rfl) (zam rfl ta3 rfl) ?_ | refine zab rfl rfl (zaa rfl) (zap rfl ta3 rfl rfl rfl rfl rfl) ?_)
    all_goals (first | refine zbh rfl rfl (zaa rfl) (zbv rfl rfl rfl) (fun h27 => ?_) (fun h27 => ?_) | refine zbi rfl rfl (zaa rfl) (zbv rfl rfl rfl) (fun h27 => ?_) (fun h27 => ?_))
    all_goals refine zab rfl rfl (zaa rfl) (mv_s (.inl rfl) rfl) ?_
    all_goals (first | refine zab rfl rfl (zah rfl rfl rfl) (zal rfl tf29_1 (by decide) rfl) ?_ | refine zab rfl rfl (zah rfl rfl rfl) (zai rfl tf29_1 (by decide) rfl) ?_ | refine zaq rfl rfl (zax rfl rfl rfl) ?_ | refine zaq rfl rfl (zav rfl rfl rfl) ?_)
    all_goals (first | refine zab rfl rfl (zah rfl rfl rfl) (zam rfl ta3 rfl) ?_ | refine zab rfl rfl (zah rfl rfl rfl) (zap rfl ta3 rfl rfl rfl rfl rfl) ?_ | refine zaq rfl rfl (zax rfl rfl rfl) ?_ | refine zaq rfl rfl (zav rfl rfl rfl) ?_)
    all_goals (first | refine zbh rfl rfl (zah rfl rfl rfl) (zbv rfl rfl rfl) (fun h31 => ?_) (fun h31 => ?_) | refine zbi rfl rfl (zah rfl rfl rfl) (zbv rfl rfl rfl) (fun h31 => ?_) (fun h31 => ?_) | refine zaq rfl rfl (zax rfl rfl rfl) ?_ | refine zaq rfl rfl (zav rfl rfl rfl) ?_)
    all_goals (first | refine zab rfl rfl (zaa rfl) (zbx rfl rfl rfl) ?_ | refine zab rfl rfl (zaa rfl) (zby rfl rfl rfl) ?_ | refine zab rfl rfl (zaa rfl) (zbk rfl rfl rfl) ?_ | refine zab rfl rfl (zaa rfl) (zbl rfl rfl rfl) ?_)
    all_goals refine zab rfl rfl (zaa rfl) (mv_s (.inl rfl) rfl) ?_
    all_goals (first | refine zab rfl rfl (zah rfl rfl rfl) (za6 (.inl rfl) rfl) ?_ | refine zab rfl rfl (zah rfl rfl rfl) (zbg (.inl rfl) rfl) ?_ | refine zab rfl rfl (zah rfl rfl rfl) (mv_s (.inl rfl) rfl) ?_ | refine zab rfl rfl (zah rfl rfl rfl) (za7 (.inl rfl) rfl) ?_ | refine zaq rfl rfl (zax rfl rfl rfl) ?_ | refine zaq rfl rfl (zav rfl rfl rfl) ?_)
    all_goals (first | refine zab rfl rfl (zah rfl rfl rfl) (zal rfl tf29_3 (by decide) rfl) ?_ | refine zab rfl rfl (zah rfl rfl rfl) (zai rfl tf29_3 (by decide) rfl) ?_ | refine zaq rfl rfl (zax rfl rfl rfl) ?_ | refine zaq rfl rfl (zav rfl rfl rfl) ?_)
    all_goals (first | refine zab rfl rfl (zah rfl rfl rfl) (zam rfl ta27 rfl) ?_ | refine zab rfl rfl (zah rfl rfl rfl) (zap rfl ta27 rfl rfl rfl rfl rfl) ?_ | refine zaq rfl rfl (zax rfl rfl rfl) ?_ | refine zaq rfl rfl (zav rfl rfl rfl) ?_)
    all_goals (first | refine zbh rfl rfl (zah rfl rfl rfl) (za5 rfl rfl (hmu) (zau rfl (zau rfl zbj))) (fun h37 => ?_) (fun h37 => ?_) | refine zbi rfl rfl (zah rfl rfl rfl) (za5 rfl rfl (hmu) (zau rfl (zau rfl zbj))) (fun h37 => ?_) (fun h37 => ?_) | refine zaq rfl rfl (zax rfl rfl rfl) ?_ | refine zaq rfl rfl (zav rfl rfl rfl) ?_)
    all_goals (first | refine zab rfl rfl (zah rfl rfl rfl) (zcf rfl rfl) ?_ | refine zab rfl rfl (zah rfl rfl rfl) (zcj rfl rfl) ?_ | refine zaq rfl rfl (zax rfl rfl rfl) ?_ | refine zaq rfl rfl (zav rfl rfl rfl) ?_)
    all_goals (first | refine zab rfl rfl (zaa rfl) (zbx rfl rfl rfl) ?_ | refine zab rfl rfl (zaa rfl) (zby rfl rfl rfl) ?_ | refine zab rfl rfl (zaa rfl) (zbk rfl rfl rfl) ?_ | refine zab rfl rfl (zaa rfl) (zbl rfl rfl rfl) ?_)
    all_goals refine zan ?_
    all_goals (repeat (first | refine zag ?_ | refine zar ?_ | refine zad ?_ | refine zas ?_ | refine zac ?_))
    all_goals (first | refine zbp rfl ?_ | refine zbm rfl ?_)
    all_goals (repeat (first | refine zag ?_ | refine zar ?_ | refine zad ?_ | refine zas ?_ | refine zac ?_))
    all_goals first
      | skip
        refine zaf ?_
        refine zab rfl rfl (zaa rfl) (mv_s (.inr rfl) rfl) ?_
        refine zan ?_
        repeat (first | refine zag ?_ | refine zar ?_ | refine zad ?_ | refine zas ?_ | refine zac ?_)
        (refine zbs ?_; repeat (first | refine zb8 ?_ | refine zb9 ?_))
        exact zcm (.inr rfl) rfl (congrArg eI (by
          rw [HR]
          first
          | (rw [decide_eq_false (show ¬ (s = 0) by omega)]; rfl)
          | (rw [decide_eq_true (show s = 0 by omega), decide_eq_false (show ¬ (t = 0) by omega)]; rfl)
          | (rw [pf h37, Bool.and_false, Bool.and_false]; rfl)))
      | skip
    rw [decide_eq_true (show s = 0 by omega), decide_eq_true (show t = 0 by omega), Bool.true_and, Bool.true_and] at HR
    have hbd := rBound_pf (P := P) d l lo hi y hv (hml h37) z1 z2
    have hok := @bdE_okr d l lo hi y
    generalize bdE d l lo hi y = bb at hbd hok pb pc
    obtain ⟨bf, bz⟩ := bb
    replace hbd : Pure P 35 [eL eI d, eL eSh l, eL eI lo, eL eI hi, eL eF y] (.tup [eF bf, eB bz]) := hbd
    have hoc := of_ok (n := c - 1) (by omega) (by omega)
    cases bz with
    | false =>
      rw [pb rfl] at HR
      refine zaf ?_
      first | refine zab rfl rfl (zaa rfl) (za6 (.inl rfl) rfl) ?_ | refine zab rfl rfl (zaa rfl) (zbg (.inl rfl) rfl) ?_ | refine zab rfl rfl (zaa rfl) (mv_s (.inl rfl) rfl) ?_ | refine zab rfl rfl (zaa rfl) (za7 (.inl rfl) rfl) ?_
      first | refine zab rfl rfl (zaa rfl) (za6 (.inl rfl) rfl) ?_ | refine zab rfl rfl (zaa rfl) (zbg (.inl rfl) rfl) ?_ | refine zab rfl rfl (zaa rfl) (mv_s (.inl rfl) rfl) ?_ | refine zab rfl rfl (zaa rfl) (za7 (.inl rfl) rfl) ?_
      first | refine zab rfl rfl (zaa rfl) (za6 (.inl rfl) rfl) ?_ | refine zab rfl rfl (zaa rfl) (zbg (.inl rfl) rfl) ?_ | refine zab rfl rfl (zaa rfl) (mv_s (.inl rfl) rfl) ?_ | refine zab rfl rfl (zaa rfl) (za7 (.inl rfl) rfl) ?_
      first | refine zab rfl rfl (zaa rfl) (za6 (.inl rfl) rfl) ?_ | refine zab rfl rfl (zaa rfl) (zbg (.inl rfl) rfl) ?_ | refine zab rfl rfl (zaa rfl) (mv_s (.inl rfl) rfl) ?_ | refine zab rfl rfl (zaa rfl) (za7 (.inl rfl) rfl) ?_
      first | refine zab rfl rfl (zaa rfl) (zal rfl tf29_3 (by decide) rfl) ?_ | refine zab rfl rfl (zaa rfl) (zai rfl tf29_3 (by decide) rfl) ?_
      first | refine zab rfl rfl (zaa rfl) (zam rfl ta27 rfl) ?_ | refine zab rfl rfl (zaa rfl) (zap rfl ta27 rfl rfl rfl rfl rfl) ?_
      refine zab rfl rfl (zaa rfl) (za5 rfl rfl (hbd) (zau rfl (zau rfl (zau rfl (zau rfl (zau rfl zbj)))))) ?_
      first | refine zab rfl rfl (zaa rfl) (mv_tup (.inl rfl) rfl) ?_ | refine zab rfl rfl (zaa rfl) (mv_s (.inl rfl) rfl) ?_
      refine zab rfl rfl (zaa rfl) (zbf rfl rfl rfl) ?_
      refine zab rfl rfl (zaa rfl) (zbf rfl rfl rfl) ?_
      refine zab rfl rfl (zaa rfl) (zbr rfl ti41 rfl rfl) ?_
      refine zb0 rfl (zaa rfl) (zbd rfl ti41 rfl rfl rfl rfl rfl rfl (by decide) (by decide)) ?_
      refine zab rfl rfl (zaa rfl) (mv_s (.inr rfl) rfl) ?_
      refine zan ?_
      repeat (first | refine zag ?_ | refine zar ?_ | refine zad ?_ | refine zas ?_ | refine zac ?_)
      refine zch hmix ?_
      refine zco (by kernel_rfl) ?_
      refine zat rfl rfl (zaa rfl) (mv_s (.inl rfl) rfl) ?_
      first | refine zat rfl rfl (zaa rfl) (zcf rfl rfl) ?_ | refine zat rfl rfl (zaa rfl) (zcj rfl rfl) ?_
      refine zat rfl rfl (zaa rfl) (mv_s (.inl rfl) rfl) ?_
      first | refine zat rfl rfl (zah rfl rfl rfl) (za0 rfl ta41 ti41 rfl rfl) ?_ | refine zat rfl rfl (zah rfl rfl rfl) (za9 rfl ta41 ti41 rfl rfl rfl rfl rfl) ?_ | refine zat rfl rfl (zah rfl rfl rfl) (zaz rfl ta41 ti41 rfl (Nat.le_of_ble_eq_true rfl)) ?_ | refine zat rfl rfl (zah rfl rfl rfl) (zba rfl ta41 ti41 rfl rfl rfl rfl (Nat.le_of_ble_eq_true rfl)) ?_ | refine zaw rfl rfl (zax rfl rfl rfl) ?_ | refine zaw rfl rfl (zav rfl rfl rfl) ?_
      first | refine zat rfl rfl (zah rfl rfl rfl) (mv_s (.inl rfl) rfl) ?_ | refine zaw rfl rfl (zax rfl rfl rfl) ?_ | refine zaw rfl rfl (zav rfl rfl rfl) ?_
      first | refine zat rfl rfl (zah rfl rfl rfl) (does_sub rfl rfl rfl (IntWalk.i64_in _ (by omega))) ?_ | refine zaw rfl rfl (zax rfl rfl rfl) ?_ | refine zaw rfl rfl (zav rfl rfl rfl) ?_
      first | refine zat rfl rfl (zah rfl rfl rfl) (za5 rfl rfl (rOf_pf _) (zau rfl zbj)) ?_ | refine zaw rfl rfl (zax rfl rfl rfl) ?_ | refine zaw rfl rfl (zav rfl rfl rfl) ?_
      first | refine zat rfl rfl (zah rfl rfl rfl) (za5 rfl rfl (by assumption) (zau rfl (zau rfl zbj))) ?_ | refine zaw rfl rfl (zax rfl rfl rfl) ?_ | refine zaw rfl rfl (zav rfl rfl rfl) ?_
      first | refine zat rfl rfl (zah rfl rfl rfl) (does_leq rfl rfl rfl) ?_ | refine zaw rfl rfl (zax rfl rfl rfl) ?_ | refine zaw rfl rfl (zav rfl rfl rfl) ?_
      first | refine zat rfl rfl (zaa rfl) (zbx rfl rfl rfl) ?_ | refine zat rfl rfl (zaa rfl) (zby rfl rfl rfl) ?_ | refine zat rfl rfl (zaa rfl) (zbk rfl rfl rfl) ?_ | refine zat rfl rfl (zaa rfl) (zbl rfl rfl rfl) ?_
      refine qx_nil ?_
      repeat (first | refine zag ?_ | refine zar ?_ | refine zad ?_ | refine zas ?_ | refine zac ?_)
      refine zbp rfl ?_
      repeat (first | refine zag ?_ | refine zar ?_ | refine zad ?_ | refine zas ?_ | refine zac ?_)
      refine zaf ?_
      refine zab rfl rfl (zaa rfl) (mv_s (.inr rfl) rfl) ?_
      refine zan ?_
      repeat (first | refine zag ?_ | refine zar ?_ | refine zad ?_ | refine zas ?_ | refine zac ?_)
      (refine zbs ?_; repeat (first | refine zb8 ?_ | refine zb9 ?_))
      exact zcm (.inr rfl) rfl (congrArg eI (by rw [HR, lft_f]))
    | true =>
      have hfo := hok rfl
      have hcm := rCmp_pf (P := P) bf (Fr.of (c - 1)) hfo hoc
      rw [pc h37 rfl hfo hoc] at HR
      clear pc pb pf
      generalize cmpN bf (Fr.of (c - 1)) = cm at HR hcm
      refine zaf ?_
      first | refine zab rfl rfl (zaa rfl) (za6 (.inl rfl) rfl) ?_ | refine zab rfl rfl (zaa rfl) (zbg (.inl rfl) rfl) ?_ | refine zab rfl rfl (zaa rfl) (mv_s (.inl rfl) rfl) ?_ | refine zab rfl rfl (zaa rfl) (za7 (.inl rfl) rfl) ?_
      first | refine zab rfl rfl (zaa rfl) (za6 (.inl rfl) rfl) ?_ | refine zab rfl rfl (zaa rfl) (zbg (.inl rfl) rfl) ?_ | refine zab rfl rfl (zaa rfl) (mv_s (.inl rfl) rfl) ?_ | refine zab rfl rfl (zaa rfl) (za7 (.inl rfl) rfl) ?_
      first | refine zab rfl rfl (zaa rfl) (za6 (.inl rfl) rfl) ?_ | refine zab rfl rfl (zaa rfl) (zbg (.inl rfl) rfl) ?_ | refine zab rfl rfl (zaa rfl) (mv_s (.inl rfl) rfl) ?_ | refine zab rfl rfl (zaa rfl) (za7 (.inl rfl) rfl) ?_
      first | refine zab rfl rfl (zaa rfl) (za6 (.inl rfl) rfl) ?_ | refine zab rfl rfl (zaa rfl) (zbg (.inl rfl) rfl) ?_ | refine zab rfl rfl (zaa rfl) (mv_s (.inl rfl) rfl) ?_ | refine zab rfl rfl (zaa rfl) (za7 (.inl rfl) rfl) ?_
      first | refine zab rfl rfl (zaa rfl) (zal rfl tf29_3 (by decide) rfl) ?_ | refine zab rfl rfl (zaa rfl) (zai rfl tf29_3 (by decide) rfl) ?_
      first | refine zab rfl rfl (zaa rfl) (zam rfl ta27 rfl) ?_ | refine zab rfl rfl (zaa rfl) (zap rfl ta27 rfl rfl rfl rfl rfl) ?_
      refine zab rfl rfl (zaa rfl) (za5 rfl rfl (hbd) (zau rfl (zau rfl (zau rfl (zau rfl (zau rfl zbj)))))) ?_
      first | refine zab rfl rfl (zaa rfl) (mv_tup (.inl rfl) rfl) ?_ | refine zab rfl rfl (zaa rfl) (mv_s (.inl rfl) rfl) ?_
      refine zab rfl rfl (zaa rfl) (zbf rfl rfl rfl) ?_
      refine zab rfl rfl (zaa rfl) (zbf rfl rfl rfl) ?_
      refine zab rfl rfl (zaa rfl) (zbr rfl ti41 rfl rfl) ?_
      refine zb0 rfl (zaa rfl) (zbd rfl ti41 rfl rfl rfl rfl rfl rfl (by decide) (by decide)) ?_
      refine zab rfl rfl (zaa rfl) (mv_s (.inr rfl) rfl) ?_
      refine zan ?_
      repeat (first | refine zag ?_ | refine zar ?_ | refine zad ?_ | refine zas ?_ | refine zac ?_)
      all_goals refine zch hmix ?_
      all_goals refine zco (by kernel_rfl) ?_
      all_goals refine zat rfl rfl (zaa rfl) (mv_s (.inl rfl) rfl) ?_
      all_goals (first | refine zat rfl rfl (zaa rfl) (zcf rfl rfl) ?_ | refine zat rfl rfl (zaa rfl) (zcj rfl rfl) ?_)
      all_goals refine zat rfl rfl (zaa rfl) (mv_s (.inl rfl) rfl) ?_
      all_goals (first | refine zat rfl rfl (zah rfl rfl rfl) (za0 rfl ta41 ti41 rfl rfl) ?_ | refine zat rfl rfl (zah rfl rfl rfl) (za9 rfl ta41 ti41 rfl rfl rfl rfl rfl) ?_ | refine zat rfl rfl (zah rfl rfl rfl) (zaz rfl ta41 ti41 rfl (Nat.le_of_ble_eq_true rfl)) ?_ | refine zat rfl rfl (zah rfl rfl rfl) (zba rfl ta41 ti41 rfl rfl rfl rfl (Nat.le_of_ble_eq_true rfl)) ?_ | refine zaw rfl rfl (zax rfl rfl rfl) ?_ | refine zaw rfl rfl (zav rfl rfl rfl) ?_)
      all_goals (first | refine zat rfl rfl (zah rfl rfl rfl) (mv_s (.inl rfl) rfl) ?_ | refine zaw rfl rfl (zax rfl rfl rfl) ?_ | refine zaw rfl rfl (zav rfl rfl rfl) ?_)
      all_goals (first | refine zat rfl rfl (zah rfl rfl rfl) (does_sub rfl rfl rfl (IntWalk.i64_in _ (by omega))) ?_ | refine zaw rfl rfl (zax rfl rfl rfl) ?_ | refine zaw rfl rfl (zav rfl rfl rfl) ?_)
      all_goals (first | refine zat rfl rfl (zah rfl rfl rfl) (za5 rfl rfl (rOf_pf _) (zau rfl zbj)) ?_ | refine zaw rfl rfl (zax rfl rfl rfl) ?_ | refine zaw rfl rfl (zav rfl rfl rfl) ?_)
      all_goals (first | refine zat rfl rfl (zah rfl rfl rfl) (za5 rfl rfl (hcm) (zau rfl (zau rfl zbj))) ?_ | refine zaw rfl rfl (zax rfl rfl rfl) ?_ | refine zaw rfl rfl (zav rfl rfl rfl) ?_)
      all_goals (first | refine zdg rfl rfl (zah rfl rfl rfl) (does_leq rfl rfl rfl) (fun h58 => ?_) (fun h58 => ?_) | refine zdh rfl rfl (zah rfl rfl rfl) (does_leq rfl rfl rfl) (fun h58 => ?_) (fun h58 => ?_) | refine zaw rfl rfl (zax rfl rfl rfl) ?_ | refine zaw rfl rfl (zav rfl rfl rfl) ?_)
      all_goals (first | refine zat rfl rfl (zaa rfl) (zbx rfl rfl rfl) ?_ | refine zat rfl rfl (zaa rfl) (zby rfl rfl rfl) ?_ | refine zat rfl rfl (zaa rfl) (zbk rfl rfl rfl) ?_ | refine zat rfl rfl (zaa rfl) (zbl rfl rfl rfl) ?_)
      all_goals refine qx_nil ?_
      all_goals (repeat (first | refine zag ?_ | refine zar ?_ | refine zad ?_ | refine zas ?_ | refine zac ?_))
      all_goals (first | refine zbp rfl ?_ | refine zbm rfl ?_)
      all_goals (repeat (first | refine zag ?_ | refine zar ?_ | refine zad ?_ | refine zas ?_ | refine zac ?_))
      · skip
        refine zaf ?_
        refine zab rfl rfl (zaa rfl) (mv_s (.inr rfl) rfl) ?_
        refine zan ?_
        repeat (first | refine zag ?_ | refine zar ?_ | refine zad ?_ | refine zas ?_ | refine zac ?_)
        (refine zbs ?_; repeat (first | refine zb8 ?_ | refine zb9 ?_))
        exact zcm (.inr rfl) rfl (congrArg eI (by rw [HR, decide_eq_false (by omega), lft_f]))
      · skip
        refine zaf ?_
        refine zab rfl rfl (zaa rfl) (mv_s (.inl rfl) rfl) ?_
        refine zab rfl rfl (zaa rfl) (mv_s (.inr rfl) rfl) ?_
        refine zan ?_
        repeat (first | refine zag ?_ | refine zar ?_ | refine zad ?_ | refine zas ?_ | refine zac ?_)
        (refine zbs ?_; repeat (first | refine zb8 ?_ | refine zb9 ?_))
        exact zcm (.inr rfl) rfl (congrArg eI (by rw [HR, decide_eq_true (by omega), lft_t]))
  have hL0 : L.length ≠ 0 := by omega
  repeat (first | refine zag ?_ | refine zar ?_ | refine zad ?_ | refine zas ?_ | refine zac ?_)
  refine zc5 (d := 22) rfl (fun hm4 => ?_)
  all_goals refine zch hmix ?_
  all_goals refine zco (by kernel_rfl) ?_
  all_goals (first | refine zat rfl rfl (zaa rfl) (zal rfl tf29_2 (by decide) rfl) ?_ | refine zat rfl rfl (zaa rfl) (zai rfl tf29_2 (by decide) rfl) ?_)
  all_goals (first | refine zat rfl rfl (zaa rfl) (zam rfl ta26 rfl) ?_ | refine zat rfl rfl (zaa rfl) (zap rfl ta26 rfl rfl rfl rfl rfl) ?_)
  all_goals (first | refine zat rfl rfl (zaa rfl) (za4 rfl ts26 rfl) ?_ | refine zat rfl rfl (zaa rfl) (za8 rfl ts26 rfl) ?_ | refine zat rfl rfl (zaa rfl) (za2 rfl ts26 rfl) ?_ | refine zat rfl rfl (zaa rfl) (zbc rfl ts26 rfl) ?_ | refine zat rfl rfl (zaa rfl) (za3 rfl ts26 rfl) ?_)
  all_goals (first | refine zdg rfl rfl (zaa rfl) (zbv rfl rfl rfl) (fun h64 => ?_) (fun h64 => ?_) | refine zdh rfl rfl (zaa rfl) (zbv rfl rfl rfl) (fun h64 => ?_) (fun h64 => ?_))
  all_goals refine zat rfl rfl (zaa rfl) (mv_s (.inl rfl) rfl) ?_
  all_goals (first | refine zat rfl rfl (zah rfl rfl rfl) (zal rfl tf29_3 (by decide) rfl) ?_ | refine zat rfl rfl (zah rfl rfl rfl) (zai rfl tf29_3 (by decide) rfl) ?_ | refine zaw rfl rfl (zax rfl rfl rfl) ?_ | refine zaw rfl rfl (zav rfl rfl rfl) ?_)
  all_goals (first | refine zat rfl rfl (zah rfl rfl rfl) (zam rfl ta27 rfl) ?_ | refine zat rfl rfl (zah rfl rfl rfl) (zap rfl ta27 rfl rfl rfl rfl rfl) ?_ | refine zaw rfl rfl (zax rfl rfl rfl) ?_ | refine zaw rfl rfl (zav rfl rfl rfl) ?_)
  all_goals (first | refine zat rfl rfl (zah rfl rfl rfl) (za4 rfl ts27 rfl) ?_ | refine zat rfl rfl (zah rfl rfl rfl) (za8 rfl ts27 rfl) ?_ | refine zat rfl rfl (zah rfl rfl rfl) (za2 rfl ts27 rfl) ?_ | refine zat rfl rfl (zah rfl rfl rfl) (zbc rfl ts27 rfl) ?_ | refine zat rfl rfl (zah rfl rfl rfl) (za3 rfl ts27 rfl) ?_ | refine zaw rfl rfl (zax rfl rfl rfl) ?_ | refine zaw rfl rfl (zav rfl rfl rfl) ?_)
  all_goals (first | refine zdg rfl rfl (zah rfl rfl rfl) (zbv rfl rfl rfl) (fun h69 => ?_) (fun h69 => ?_) | refine zdh rfl rfl (zah rfl rfl rfl) (zbv rfl rfl rfl) (fun h69 => ?_) (fun h69 => ?_) | refine zaw rfl rfl (zax rfl rfl rfl) ?_ | refine zaw rfl rfl (zav rfl rfl rfl) ?_)
  all_goals (first | refine zat rfl rfl (zaa rfl) (zbx rfl rfl rfl) ?_ | refine zat rfl rfl (zaa rfl) (zby rfl rfl rfl) ?_ | refine zat rfl rfl (zaa rfl) (zbk rfl rfl rfl) ?_ | refine zat rfl rfl (zaa rfl) (zbl rfl rfl rfl) ?_)
  all_goals refine zat rfl rfl (zaa rfl) (mv_s (.inl rfl) rfl) ?_
  all_goals (first | refine zat rfl rfl (zah rfl rfl rfl) (zal rfl zdc (by decide) rfl) ?_ | refine zat rfl rfl (zah rfl rfl rfl) (zai rfl zdc (by decide) rfl) ?_ | refine zaw rfl rfl (zax rfl rfl rfl) ?_ | refine zaw rfl rfl (zav rfl rfl rfl) ?_)
  all_goals (first | refine zat rfl rfl (zah rfl rfl rfl) (zam rfl ta3 rfl) ?_ | refine zat rfl rfl (zah rfl rfl rfl) (zap rfl ta3 rfl rfl rfl rfl rfl) ?_ | refine zaw rfl rfl (zax rfl rfl rfl) ?_ | refine zaw rfl rfl (zav rfl rfl rfl) ?_)
  all_goals (first | refine zdg rfl rfl (zah rfl rfl rfl) (zbb rfl rfl rfl) (fun h74 => ?_) (fun h74 => ?_) | refine zdh rfl rfl (zah rfl rfl rfl) (zbb rfl rfl rfl) (fun h74 => ?_) (fun h74 => ?_) | refine zaw rfl rfl (zax rfl rfl rfl) ?_ | refine zaw rfl rfl (zav rfl rfl rfl) ?_)
  all_goals (first | refine zat rfl rfl (zaa rfl) (zbx rfl rfl rfl) ?_ | refine zat rfl rfl (zaa rfl) (zby rfl rfl rfl) ?_ | refine zat rfl rfl (zaa rfl) (zbk rfl rfl rfl) ?_ | refine zat rfl rfl (zaa rfl) (zbl rfl rfl rfl) ?_)
  all_goals refine zat rfl rfl (zaa rfl) (mv_s (.inl rfl) rfl) ?_
  all_goals (first | refine zat rfl rfl (zah rfl rfl rfl) (zal rfl zdc (by decide) rfl) ?_ | refine zat rfl rfl (zah rfl rfl rfl) (zai rfl zdc (by decide) rfl) ?_ | refine zaw rfl rfl (zax rfl rfl rfl) ?_ | refine zaw rfl rfl (zav rfl rfl rfl) ?_)
  all_goals (first | refine zat rfl rfl (zah rfl rfl rfl) (zam rfl ta3 rfl) ?_ | refine zat rfl rfl (zah rfl rfl rfl) (zap rfl ta3 rfl rfl rfl rfl rfl) ?_ | refine zaw rfl rfl (zax rfl rfl rfl) ?_ | refine zaw rfl rfl (zav rfl rfl rfl) ?_)
  all_goals (first | refine zat rfl rfl (zah rfl rfl rfl) (za6 (.inl rfl) rfl) ?_ | refine zat rfl rfl (zah rfl rfl rfl) (zbg (.inl rfl) rfl) ?_ | refine zat rfl rfl (zah rfl rfl rfl) (mv_s (.inl rfl) rfl) ?_ | refine zat rfl rfl (zah rfl rfl rfl) (za7 (.inl rfl) rfl) ?_ | refine zaw rfl rfl (zax rfl rfl rfl) ?_ | refine zaw rfl rfl (zav rfl rfl rfl) ?_)
  all_goals (first | refine zat rfl rfl (zah rfl rfl rfl) (za4 rfl ts23 rfl) ?_ | refine zat rfl rfl (zah rfl rfl rfl) (za8 rfl ts23 rfl) ?_ | refine zat rfl rfl (zah rfl rfl rfl) (za2 rfl ts23 rfl) ?_ | refine zat rfl rfl (zah rfl rfl rfl) (zbc rfl ts23 rfl) ?_ | refine zat rfl rfl (zah rfl rfl rfl) (za3 rfl ts23 rfl) ?_ | refine zaw rfl rfl (zax rfl rfl rfl) ?_ | refine zaw rfl rfl (zav rfl rfl rfl) ?_)
  all_goals (first | refine zdg rfl rfl (zah rfl rfl rfl) (zcp rfl rfl rfl) (fun h81 => ?_) (fun h81 => ?_) | refine zdh rfl rfl (zah rfl rfl rfl) (zcp rfl rfl rfl) (fun h81 => ?_) (fun h81 => ?_) | refine zaw rfl rfl (zax rfl rfl rfl) ?_ | refine zaw rfl rfl (zav rfl rfl rfl) ?_)
  all_goals (first | refine zat rfl rfl (zaa rfl) (zbx rfl rfl rfl) ?_ | refine zat rfl rfl (zaa rfl) (zby rfl rfl rfl) ?_ | refine zat rfl rfl (zaa rfl) (zbk rfl rfl rfl) ?_ | refine zat rfl rfl (zaa rfl) (zbl rfl rfl rfl) ?_)
  all_goals refine zat rfl rfl (zaa rfl) (mv_s (.inl rfl) rfl) ?_
  all_goals (first | refine zat rfl rfl (zah rfl rfl rfl) (zal rfl tf29_1 (by decide) rfl) ?_ | refine zat rfl rfl (zah rfl rfl rfl) (zai rfl tf29_1 (by decide) rfl) ?_ | refine zaw rfl rfl (zax rfl rfl rfl) ?_ | refine zaw rfl rfl (zav rfl rfl rfl) ?_)
  all_goals (first | refine zat rfl rfl (zah rfl rfl rfl) (zam rfl ta3 rfl) ?_ | refine zat rfl rfl (zah rfl rfl rfl) (zap rfl ta3 rfl rfl rfl rfl rfl) ?_ | refine zaw rfl rfl (zax rfl rfl rfl) ?_ | refine zaw rfl rfl (zav rfl rfl rfl) ?_)
  all_goals (first | refine zat rfl rfl (zah rfl rfl rfl) (za6 (.inl rfl) rfl) ?_ | refine zat rfl rfl (zah rfl rfl rfl) (zbg (.inl rfl) rfl) ?_ | refine zat rfl rfl (zah rfl rfl rfl) (mv_s (.inl rfl) rfl) ?_ | refine zat rfl rfl (zah rfl rfl rfl) (za7 (.inl rfl) rfl) ?_ | refine zaw rfl rfl (zax rfl rfl rfl) ?_ | refine zaw rfl rfl (zav rfl rfl rfl) ?_)
  all_goals (first | refine zat rfl rfl (zah rfl rfl rfl) (zal rfl zdc (by decide) rfl) ?_ | refine zat rfl rfl (zah rfl rfl rfl) (zai rfl zdc (by decide) rfl) ?_ | refine zaw rfl rfl (zax rfl rfl rfl) ?_ | refine zaw rfl rfl (zav rfl rfl rfl) ?_)
  all_goals (first | refine zat rfl rfl (zah rfl rfl rfl) (zam rfl ta3 rfl) ?_ | refine zat rfl rfl (zah rfl rfl rfl) (zap rfl ta3 rfl rfl rfl rfl rfl) ?_ | refine zaw rfl rfl (zax rfl rfl rfl) ?_ | refine zaw rfl rfl (zav rfl rfl rfl) ?_)
  all_goals (first | refine zat rfl rfl (zah rfl rfl rfl) (za1 rfl ts22 ti3 rfl rfl (by omega) (zb5 (k := s.toNat) (by omega)) rfl) ?_ | refine zat rfl rfl (zah rfl rfl rfl) (zay rfl ts22 ti3 rfl rfl (by omega) (zb5 (k := s.toNat) (by omega))) ?_ | refine zaw rfl rfl (zax rfl rfl rfl) ?_ | refine zaw rfl rfl (zav rfl rfl rfl) ?_)
  all_goals (first | refine zat rfl rfl (zah rfl rfl rfl) (zam rfl ta3 rfl) ?_ | refine zat rfl rfl (zah rfl rfl rfl) (zap rfl ta3 rfl rfl rfl rfl rfl) ?_ | refine zaw rfl rfl (zax rfl rfl rfl) ?_ | refine zaw rfl rfl (zav rfl rfl rfl) ?_)
  all_goals (first | refine zdg rfl rfl (zah rfl rfl rfl) (zbb rfl rfl rfl) (fun h91 => ?_) (fun h91 => ?_) | refine zdh rfl rfl (zah rfl rfl rfl) (zbb rfl rfl rfl) (fun h91 => ?_) (fun h91 => ?_) | refine zaw rfl rfl (zax rfl rfl rfl) ?_ | refine zaw rfl rfl (zav rfl rfl rfl) ?_)
  all_goals (first | refine zat rfl rfl (zaa rfl) (zbx rfl rfl rfl) ?_ | refine zat rfl rfl (zaa rfl) (zby rfl rfl rfl) ?_ | refine zat rfl rfl (zaa rfl) (zbk rfl rfl rfl) ?_ | refine zat rfl rfl (zaa rfl) (zbl rfl rfl rfl) ?_)
  all_goals refine zat rfl rfl (zaa rfl) (mv_s (.inl rfl) rfl) ?_
  all_goals (first | refine zat rfl rfl (zah rfl rfl rfl) (zal rfl tf29_1 (by decide) rfl) ?_ | refine zat rfl rfl (zah rfl rfl rfl) (zai rfl tf29_1 (by decide) rfl) ?_ | refine zaw rfl rfl (zax rfl rfl rfl) ?_ | refine zaw rfl rfl (zav rfl rfl rfl) ?_)
  all_goals (first | refine zat rfl rfl (zah rfl rfl rfl) (zam rfl ta3 rfl) ?_ | refine zat rfl rfl (zah rfl rfl rfl) (zap rfl ta3 rfl rfl rfl rfl rfl) ?_ | refine zaw rfl rfl (zax rfl rfl rfl) ?_ | refine zaw rfl rfl (zav rfl rfl rfl) ?_)
  all_goals (first | refine zat rfl rfl (zah rfl rfl rfl) (za6 (.inl rfl) rfl) ?_ | refine zat rfl rfl (zah rfl rfl rfl) (zbg (.inl rfl) rfl) ?_ | refine zat rfl rfl (zah rfl rfl rfl) (mv_s (.inl rfl) rfl) ?_ | refine zat rfl rfl (zah rfl rfl rfl) (za7 (.inl rfl) rfl) ?_ | refine zaw rfl rfl (zax rfl rfl rfl) ?_ | refine zaw rfl rfl (zav rfl rfl rfl) ?_)
  all_goals (first | refine zat rfl rfl (zah rfl rfl rfl) (zal rfl zdc (by decide) rfl) ?_ | refine zat rfl rfl (zah rfl rfl rfl) (zai rfl zdc (by decide) rfl) ?_ | refine zaw rfl rfl (zax rfl rfl rfl) ?_ | refine zaw rfl rfl (zav rfl rfl rfl) ?_)
  all_goals (first | refine zat rfl rfl (zah rfl rfl rfl) (zam rfl ta3 rfl) ?_ | refine zat rfl rfl (zah rfl rfl rfl) (zap rfl ta3 rfl rfl rfl rfl rfl) ?_ | refine zaw rfl rfl (zax rfl rfl rfl) ?_ | refine zaw rfl rfl (zav rfl rfl rfl) ?_)
  all_goals (first | refine zat rfl rfl (zah rfl rfl rfl) (za1 rfl ts22 ti3 rfl rfl (by omega) (zb5 (k := s.toNat) (by omega)) rfl) ?_ | refine zat rfl rfl (zah rfl rfl rfl) (zay rfl ts22 ti3 rfl rfl (by omega) (zb5 (k := s.toNat) (by omega))) ?_ | refine zaw rfl rfl (zax rfl rfl rfl) ?_ | refine zaw rfl rfl (zav rfl rfl rfl) ?_)
  all_goals (first | refine zat rfl rfl (zah rfl rfl rfl) (zam rfl ta3 rfl) ?_ | refine zat rfl rfl (zah rfl rfl rfl) (zap rfl ta3 rfl rfl rfl rfl rfl) ?_ | refine zaw rfl rfl (zax rfl rfl rfl) ?_ | refine zaw rfl rfl (zav rfl rfl rfl) ?_)
  all_goals (first | refine zdg rfl rfl (zah rfl rfl rfl) (zcp rfl rfl rfl) (fun h101 => ?_) (fun h101 => ?_) | refine zdh rfl rfl (zah rfl rfl rfl) (zcp rfl rfl rfl) (fun h101 => ?_) (fun h101 => ?_) | refine zaw rfl rfl (zax rfl rfl rfl) ?_ | refine zaw rfl rfl (zav rfl rfl rfl) ?_)
  all_goals (first | refine zat rfl rfl (zaa rfl) (zbx rfl rfl rfl) ?_ | refine zat rfl rfl (zaa rfl) (zby rfl rfl rfl) ?_ | refine zat rfl rfl (zaa rfl) (zbk rfl rfl rfl) ?_ | refine zat rfl rfl (zaa rfl) (zbl rfl rfl rfl) ?_)
  all_goals refine qx_nil ?_
  all_goals (repeat (first | refine zag ?_ | refine zar ?_ | refine zad ?_ | refine zas ?_ | refine zac ?_))
  all_goals (first | refine zbp rfl ?_ | refine zbm rfl ?_)
  all_goals (repeat (first | refine zag ?_ | refine zar ?_ | refine zad ?_ | refine zas ?_ | refine zac ?_))
  all_goals first
    | skip
      rw [rgt_bad hn0 hL0 (by omega)] at HR
      refine zaf ?_
      refine zab rfl rfl (zaa rfl) (mv_s (.inr rfl) rfl) ?_
      refine zan ?_
      repeat (first | refine zag ?_ | refine zar ?_ | refine zad ?_ | refine zas ?_ | refine zac ?_)
      (refine zbs ?_; repeat (first | refine zb8 ?_ | refine zb9 ?_))
      exact zcm (.inr rfl) rfl (congrArg eI (by rw [HR, lft_f]))
    | skip
  have hs : s = (s.toNat : Int) := by omega
  have hsl : s.toNat < l.length := by omega
  have b1 := z3 s.toNat hsl
  have b2 := z4 s.toNat hsl
  obtain ⟨a, b, hab⟩ := two_of (L := L) (by omega)
  subst hab
  rw [rgt_two hn0 ⟨by omega, by omega, by omega, by omega, by omega⟩] at HR
  have hw1 := with_pf (P := P) hi s.toNat t (by omega) (by omega)
  have hw2 := with_pf (P := P) lo s.toNat (t + 1) (by omega) (by omega)
  rw [← hs] at hw1 hw2
  have r1 := IH a (by simp) lo (setI hi s.toNat t) (n - 1) (hbx.hi hsl (by omega) (by omega)) (by omega) (by omega)
  have r1b := rgtE_bd d l c a lo (setI hi s.toNat t) (n - 1) (by omega)
  generalize rgtE d l c a lo (setI hi s.toNat t) (n - 1) = x at HR r1 r1b
  have r2 := IH b (by simp) (setI lo s.toNat (t + 1)) hi x.2 (hbx.lo hsl (by omega) (by omega)) r1b.1 (by omega)
  obtain ⟨xz, xn⟩ := x
  dsimp only at HR r2 r1b
  generalize rgtE d l c b (setI lo s.toNat (t + 1)) hi xn = x2 at HR r2
  obtain ⟨sa, ta, La, ya⟩ := a
  obtain ⟨sb, tb, Lb, yb⟩ := b
  have hixa : (List.map eBr [.mk sa ta La ya, .mk sb tb Lb yb])[0]? = some (.agg [eI sa, eI ta, eL eBr La, eL eF ya]) := by rw [← eBr_mk]; rfl
  have hixb : (List.map eBr [.mk sa ta La ya, .mk sb tb Lb yb])[1]? = some (.agg [eI sb, eI tb, eL eBr Lb, eL eF yb]) := by rw [← eBr_mk]; rfl
  rw [eBr_mk] at r1 r2
  cases xz with
  | false =>
    rw [if_pos rfl] at HR
    rw [lft_f] at r1
    refine zch hmix ?_
    refine zco (by kernel_rfl) ?_
    first | refine zat rfl rfl (zaa rfl) (za6 (.inl rfl) rfl) ?_ | refine zat rfl rfl (zaa rfl) (zbg (.inl rfl) rfl) ?_ | refine zat rfl rfl (zaa rfl) (mv_s (.inl rfl) rfl) ?_ | refine zat rfl rfl (zaa rfl) (za7 (.inl rfl) rfl) ?_
    first | refine zat rfl rfl (zaa rfl) (za6 (.inl rfl) rfl) ?_ | refine zat rfl rfl (zaa rfl) (zbg (.inl rfl) rfl) ?_ | refine zat rfl rfl (zaa rfl) (mv_s (.inl rfl) rfl) ?_ | refine zat rfl rfl (zaa rfl) (za7 (.inl rfl) rfl) ?_
    first | refine zat rfl rfl (zaa rfl) (za6 (.inl rfl) rfl) ?_ | refine zat rfl rfl (zaa rfl) (zbg (.inl rfl) rfl) ?_ | refine zat rfl rfl (zaa rfl) (mv_s (.inl rfl) rfl) ?_ | refine zat rfl rfl (zaa rfl) (za7 (.inl rfl) rfl) ?_
    first | refine zat rfl rfl (zaa rfl) (za6 (.inl rfl) rfl) ?_ | refine zat rfl rfl (zaa rfl) (zbg (.inl rfl) rfl) ?_ | refine zat rfl rfl (zaa rfl) (mv_s (.inl rfl) rfl) ?_ | refine zat rfl rfl (zaa rfl) (za7 (.inl rfl) rfl) ?_
    first | refine zat rfl rfl (zaa rfl) (zal rfl zdc (by decide) rfl) ?_ | refine zat rfl rfl (zaa rfl) (zai rfl zdc (by decide) rfl) ?_
    first | refine zat rfl rfl (zaa rfl) (zam rfl ta3 rfl) ?_ | refine zat rfl rfl (zaa rfl) (zap rfl ta3 rfl rfl rfl rfl rfl) ?_
    first | refine zat rfl rfl (zaa rfl) (zal rfl tf29_1 (by decide) rfl) ?_ | refine zat rfl rfl (zaa rfl) (zai rfl tf29_1 (by decide) rfl) ?_
    first | refine zat rfl rfl (zaa rfl) (zam rfl ta3 rfl) ?_ | refine zat rfl rfl (zaa rfl) (zap rfl ta3 rfl rfl rfl rfl rfl) ?_
    refine zat rfl rfl (zaa rfl) (za5 rfl rfl (hw1) (zau rfl (zau rfl (zau rfl zbj)))) ?_
    refine zat rfl rfl (zaa rfl) (mv_s (.inl rfl) rfl) ?_
    first | refine zat rfl rfl (zaa rfl) (zal rfl tf29_2 (by decide) rfl) ?_ | refine zat rfl rfl (zaa rfl) (zai rfl tf29_2 (by decide) rfl) ?_
    first | refine zat rfl rfl (zaa rfl) (zam rfl ta26 rfl) ?_ | refine zat rfl rfl (zaa rfl) (zap rfl ta26 rfl rfl rfl rfl rfl) ?_
    first | refine zat rfl rfl (zaa rfl) (za1 rfl ts26 ti29 rfl rfl (show (0 : Int) = ((0 : Nat) : Int) from rfl) hixa rfl) ?_ | refine zat rfl rfl (zaa rfl) (zay rfl ts26 ti29 rfl rfl (show (0 : Int) = ((0 : Nat) : Int) from rfl) hixa) ?_
    first | refine zat rfl rfl (zaa rfl) (za0 rfl ta29 ti29 rfl rfl) ?_ | refine zat rfl rfl (zaa rfl) (za9 rfl ta29 ti29 rfl rfl rfl rfl rfl) ?_ | refine zat rfl rfl (zaa rfl) (zaz rfl ta29 ti29 rfl (Nat.le_of_ble_eq_true rfl)) ?_ | refine zat rfl rfl (zaa rfl) (zba rfl ta29 ti29 rfl rfl rfl rfl (Nat.le_of_ble_eq_true rfl)) ?_
    refine zat rfl rfl (zaa rfl) (mv_s (.inl rfl) rfl) ?_
    refine zat rfl rfl (zaa rfl) (za5 rfl rfl (r1) (zau rfl (zau rfl (zau rfl (zau rfl (zau rfl (zau rfl (zau rfl zbj)))))))) ?_
    refine zat rfl rfl (zaa rfl) (mv_s (.inr rfl) rfl) ?_
    refine qx_nil ?_
    repeat (first | refine zag ?_ | refine zar ?_ | refine zad ?_ | refine zas ?_ | refine zac ?_)
    refine zaf ?_
    refine zab rfl rfl (zaa rfl) (mv_s (.inl rfl) rfl) ?_
    refine zab rfl rfl (zaa rfl) (dec_t (by omega) (zbb rfl rfl rfl)) ?_
    refine zan ?_
    repeat (first | refine zag ?_ | refine zar ?_ | refine zad ?_ | refine zas ?_ | refine zac ?_)
    refine zbp rfl ?_
    repeat (first | refine zag ?_ | refine zar ?_ | refine zad ?_ | refine zas ?_ | refine zac ?_)
    refine zaf ?_
    refine zab rfl rfl (zaa rfl) (mv_s (.inr rfl) rfl) ?_
    refine zan ?_
    repeat (first | refine zag ?_ | refine zar ?_ | refine zad ?_ | refine zas ?_ | refine zac ?_)
    (refine zbs ?_; repeat (first | refine zb8 ?_ | refine zb9 ?_))
    exact zcm (.inr rfl) rfl (congrArg eI (by rw [HR, lft_f]))
  | true =>
    rw [if_neg (by simp)] at HR
    rw [lft_t] at r1
    refine zch hmix ?_
    refine zco (by kernel_rfl) ?_
    first | refine zat rfl rfl (zaa rfl) (za6 (.inl rfl) rfl) ?_ | refine zat rfl rfl (zaa rfl) (zbg (.inl rfl) rfl) ?_ | refine zat rfl rfl (zaa rfl) (mv_s (.inl rfl) rfl) ?_ | refine zat rfl rfl (zaa rfl) (za7 (.inl rfl) rfl) ?_
    first | refine zat rfl rfl (zaa rfl) (za6 (.inl rfl) rfl) ?_ | refine zat rfl rfl (zaa rfl) (zbg (.inl rfl) rfl) ?_ | refine zat rfl rfl (zaa rfl) (mv_s (.inl rfl) rfl) ?_ | refine zat rfl rfl (zaa rfl) (za7 (.inl rfl) rfl) ?_
    first | refine zat rfl rfl (zaa rfl) (za6 (.inl rfl) rfl) ?_ | refine zat rfl rfl (zaa rfl) (zbg (.inl rfl) rfl) ?_ | refine zat rfl rfl (zaa rfl) (mv_s (.inl rfl) rfl) ?_ | refine zat rfl rfl (zaa rfl) (za7 (.inl rfl) rfl) ?_
    first | refine zat rfl rfl (zaa rfl) (za6 (.inl rfl) rfl) ?_ | refine zat rfl rfl (zaa rfl) (zbg (.inl rfl) rfl) ?_ | refine zat rfl rfl (zaa rfl) (mv_s (.inl rfl) rfl) ?_ | refine zat rfl rfl (zaa rfl) (za7 (.inl rfl) rfl) ?_
    first | refine zat rfl rfl (zaa rfl) (zal rfl zdc (by decide) rfl) ?_ | refine zat rfl rfl (zaa rfl) (zai rfl zdc (by decide) rfl) ?_
    first | refine zat rfl rfl (zaa rfl) (zam rfl ta3 rfl) ?_ | refine zat rfl rfl (zaa rfl) (zap rfl ta3 rfl rfl rfl rfl rfl) ?_
    first | refine zat rfl rfl (zaa rfl) (zal rfl tf29_1 (by decide) rfl) ?_ | refine zat rfl rfl (zaa rfl) (zai rfl tf29_1 (by decide) rfl) ?_
    first | refine zat rfl rfl (zaa rfl) (zam rfl ta3 rfl) ?_ | refine zat rfl rfl (zaa rfl) (zap rfl ta3 rfl rfl rfl rfl rfl) ?_
    refine zat rfl rfl (zaa rfl) (za5 rfl rfl (hw1) (zau rfl (zau rfl (zau rfl zbj)))) ?_
    refine zat rfl rfl (zaa rfl) (mv_s (.inl rfl) rfl) ?_
    first | refine zat rfl rfl (zaa rfl) (zal rfl tf29_2 (by decide) rfl) ?_ | refine zat rfl rfl (zaa rfl) (zai rfl tf29_2 (by decide) rfl) ?_
    first | refine zat rfl rfl (zaa rfl) (zam rfl ta26 rfl) ?_ | refine zat rfl rfl (zaa rfl) (zap rfl ta26 rfl rfl rfl rfl rfl) ?_
    first | refine zat rfl rfl (zaa rfl) (za1 rfl ts26 ti29 rfl rfl (show (0 : Int) = ((0 : Nat) : Int) from rfl) hixa rfl) ?_ | refine zat rfl rfl (zaa rfl) (zay rfl ts26 ti29 rfl rfl (show (0 : Int) = ((0 : Nat) : Int) from rfl) hixa) ?_
    first | refine zat rfl rfl (zaa rfl) (za0 rfl ta29 ti29 rfl rfl) ?_ | refine zat rfl rfl (zaa rfl) (za9 rfl ta29 ti29 rfl rfl rfl rfl rfl) ?_ | refine zat rfl rfl (zaa rfl) (zaz rfl ta29 ti29 rfl (Nat.le_of_ble_eq_true rfl)) ?_ | refine zat rfl rfl (zaa rfl) (zba rfl ta29 ti29 rfl rfl rfl rfl (Nat.le_of_ble_eq_true rfl)) ?_
    refine zat rfl rfl (zaa rfl) (mv_s (.inl rfl) rfl) ?_
    refine zat rfl rfl (zaa rfl) (za5 rfl rfl (r1) (zau rfl (zau rfl (zau rfl (zau rfl (zau rfl (zau rfl (zau rfl zbj)))))))) ?_
    refine zat rfl rfl (zaa rfl) (mv_s (.inr rfl) rfl) ?_
    refine qx_nil ?_
    repeat (first | refine zag ?_ | refine zar ?_ | refine zad ?_ | refine zas ?_ | refine zac ?_)
    refine zaf ?_
    refine zab rfl rfl (zaa rfl) (mv_s (.inl rfl) rfl) ?_
    refine zab rfl rfl (zaa rfl) (dec_f (by omega) (zbb rfl rfl rfl)) ?_
    refine zan ?_
    repeat (first | refine zag ?_ | refine zar ?_ | refine zad ?_ | refine zas ?_ | refine zac ?_)
    refine zbm rfl ?_
    repeat (first | refine zag ?_ | refine zar ?_ | refine zad ?_ | refine zas ?_ | refine zac ?_)
    refine zch hmix ?_
    refine zco (by kernel_rfl) ?_
    first | refine zat rfl rfl (zaa rfl) (za6 (.inl rfl) rfl) ?_ | refine zat rfl rfl (zaa rfl) (zbg (.inl rfl) rfl) ?_ | refine zat rfl rfl (zaa rfl) (mv_s (.inl rfl) rfl) ?_ | refine zat rfl rfl (zaa rfl) (za7 (.inl rfl) rfl) ?_
    first | refine zat rfl rfl (zaa rfl) (za6 (.inl rfl) rfl) ?_ | refine zat rfl rfl (zaa rfl) (zbg (.inl rfl) rfl) ?_ | refine zat rfl rfl (zaa rfl) (mv_s (.inl rfl) rfl) ?_ | refine zat rfl rfl (zaa rfl) (za7 (.inl rfl) rfl) ?_
    first | refine zat rfl rfl (zaa rfl) (za6 (.inl rfl) rfl) ?_ | refine zat rfl rfl (zaa rfl) (zbg (.inl rfl) rfl) ?_ | refine zat rfl rfl (zaa rfl) (mv_s (.inl rfl) rfl) ?_ | refine zat rfl rfl (zaa rfl) (za7 (.inl rfl) rfl) ?_
    first | refine zat rfl rfl (zaa rfl) (zal rfl zdc (by decide) rfl) ?_ | refine zat rfl rfl (zaa rfl) (zai rfl zdc (by decide) rfl) ?_
    first | refine zat rfl rfl (zaa rfl) (zam rfl ta3 rfl) ?_ | refine zat rfl rfl (zaa rfl) (zap rfl ta3 rfl rfl rfl rfl rfl) ?_
    first | refine zat rfl rfl (zaa rfl) (zal rfl tf29_1 (by decide) rfl) ?_ | refine zat rfl rfl (zaa rfl) (zai rfl tf29_1 (by decide) rfl) ?_
    first | refine zat rfl rfl (zaa rfl) (zam rfl ta3 rfl) ?_ | refine zat rfl rfl (zaa rfl) (zap rfl ta3 rfl rfl rfl rfl rfl) ?_
    refine zat rfl rfl (zaa rfl) (zb2 rfl rfl rfl (IntWalk.i64_in _ (by omega))) ?_
    refine zat rfl rfl (zaa rfl) (za5 rfl rfl (hw2) (zau rfl (zau rfl (zau rfl zbj)))) ?_
    first | refine zat rfl rfl (zaa rfl) (za6 (.inl rfl) rfl) ?_ | refine zat rfl rfl (zaa rfl) (zbg (.inl rfl) rfl) ?_ | refine zat rfl rfl (zaa rfl) (mv_s (.inl rfl) rfl) ?_ | refine zat rfl rfl (zaa rfl) (za7 (.inl rfl) rfl) ?_
    refine zat rfl rfl (zaa rfl) (mv_s (.inl rfl) rfl) ?_
    first | refine zat rfl rfl (zaa rfl) (zal rfl tf29_2 (by decide) rfl) ?_ | refine zat rfl rfl (zaa rfl) (zai rfl tf29_2 (by decide) rfl) ?_
    first | refine zat rfl rfl (zaa rfl) (zam rfl ta26 rfl) ?_ | refine zat rfl rfl (zaa rfl) (zap rfl ta26 rfl rfl rfl rfl rfl) ?_
    first | refine zat rfl rfl (zaa rfl) (za1 rfl ts26 ti29 rfl rfl (show (1 : Int) = ((1 : Nat) : Int) from rfl) hixb rfl) ?_ | refine zat rfl rfl (zaa rfl) (zay rfl ts26 ti29 rfl rfl (show (1 : Int) = ((1 : Nat) : Int) from rfl) hixb) ?_
    first | refine zat rfl rfl (zaa rfl) (za0 rfl ta29 ti29 rfl rfl) ?_ | refine zat rfl rfl (zaa rfl) (za9 rfl ta29 ti29 rfl rfl rfl rfl rfl) ?_ | refine zat rfl rfl (zaa rfl) (zaz rfl ta29 ti29 rfl (Nat.le_of_ble_eq_true rfl)) ?_ | refine zat rfl rfl (zaa rfl) (zba rfl ta29 ti29 rfl rfl rfl rfl (Nat.le_of_ble_eq_true rfl)) ?_
    refine zat rfl rfl (zaa rfl) (mv_s (.inl rfl) rfl) ?_
    refine zat rfl rfl (zaa rfl) (za5 rfl rfl (r2) (zau rfl (zau rfl (zau rfl (zau rfl (zau rfl (zau rfl (zau rfl zbj)))))))) ?_
    refine zat rfl rfl (zaa rfl) (mv_s (.inr rfl) rfl) ?_
    refine qx_nil ?_
    repeat (first | refine zag ?_ | refine zar ?_ | refine zad ?_ | refine zas ?_ | refine zac ?_)
    (refine zbs ?_; repeat (first | refine zb8 ?_ | refine zb9 ?_))
    exact zcm (.inr rfl) rfl (congrArg eI (by rw [HR]))
theorem rproves_pf (d : List Int) (l : List Sft) (c : Int) (hv : zde d l = true) (hc1 : 0 ≤ c) (hc2 : c ≤ 1000000) (b : Br) (lo hi : List Int) (n : Int) (hb : BX l lo hi) (h1 : 0 ≤ n) (h2 : n ≤ 20000) : Pure P 23 [eL eI d, eL eSh l, eL eI lo, eL eI hi, eI c, eBr b, eI n] (eI (lftI (rgtE d l c b lo hi n))) :=
  rproves_n d l c hv hc1 hc2 (SizeOf.sizeOf b + 1) b lo hi n (Nat.lt_succ_self _) hb h1 h2
set_option maxHeartbeats 4000000 in
theorem rcheck_pf (d : List Int) (l : List Sft) (p : Pln) (b : Br) : Pure P 8 [eL eI d, eL eSh l, ePl p, eBr b] (eB (chkE d l p b)) := by
  have HI : chkE d l p b = if headK d l p then (rgtE d l p.cost b (zeroI l.length) (mostL l) 20000).1 else false := rfl
  generalize chkE d l p b = R at HI ⊢
  obtain ⟨s, t, L, y⟩ := b
  have hz : List.replicate l.length (eI 0) = (zeroI l.length).map eI := by simp [zeroI]
  have hlo : ∀ x ∈ [eL eI d, eL eSh l, ePl p, eBr (.mk s t L y)], Lo 0 x := zae (by repeat' (first | exact Lo.s _ | exact zaj | refine zae ?_ ?_ | refine zak ?_ | refine Lo.cells ?_ | refine Lo.agg _ ?_ | refine Lo.ref _ ?_ | refine Lo.tup _ ?_ | refine Lo.fn _ _ ?_ | refine Lo.sl _ ?_ | intro _)) (zae (zak lo_Sh) (zae (by repeat' (first | exact Lo.s _ | exact zaj | refine zae ?_ ?_ | refine zak ?_ | refine Lo.cells ?_ | refine Lo.agg _ ?_ | refine Lo.ref _ ?_ | refine Lo.tup _ ?_ | refine Lo.fn _ _ ?_ | refine Lo.sl _ ?_ | intro _)) (zae (lo_Br _) zaj)))
  rw [eBr_mk] at hlo ⊢
  refine zc4 (by rw [IsP.eq (P := P)]; exact Tryz.func8) rfl rfl rfl rfl rfl hlo (.s _) (by simp only [argF]; rfl) ?_
  repeat (first | refine zag ?_ | refine zar ?_ | refine zad ?_ | refine zas ?_ | refine zac ?_)
  refine zaf ?_
  refine zab rfl rfl (zaa rfl) (zcv rfl rfl rfl rfl) ?_
  refine zbq (zcd (id := 0) rfl) (zbq (zcy (d := 6) rfl rfl rfl) ?_)
  refine zab rfl rfl (zaa rfl) (zcv rfl rfl rfl rfl) ?_
  refine zbq (zcd (id := 1) rfl) (zbq (zcy (d := 7) rfl rfl rfl) ?_)
  refine zab rfl rfl (zaa rfl) (mv_s (.inr rfl) rfl) ?_
  refine zan ?_
  repeat (first | refine zag ?_ | refine zar ?_ | refine zad ?_ | refine zas ?_ | refine zac ?_)
  all_goals refine zch hmix ?_
  all_goals refine zco (by kernel_rfl) ?_
  all_goals (first | refine zat rfl rfl (zaa rfl) (za6 (.inl rfl) rfl) ?_ | refine zat rfl rfl (zaa rfl) (zbg (.inl rfl) rfl) ?_ | refine zat rfl rfl (zaa rfl) (mv_s (.inl rfl) rfl) ?_ | refine zat rfl rfl (zaa rfl) (za7 (.inl rfl) rfl) ?_)
  all_goals (first | refine zat rfl rfl (zaa rfl) (za6 (.inl rfl) rfl) ?_ | refine zat rfl rfl (zaa rfl) (zbg (.inl rfl) rfl) ?_ | refine zat rfl rfl (zaa rfl) (mv_s (.inl rfl) rfl) ?_ | refine zat rfl rfl (zaa rfl) (za7 (.inl rfl) rfl) ?_)
  all_goals (first | refine zdg rfl rfl (zaa rfl) (za5 rfl rfl ((qValid_pf54 d l)) (zau rfl (zau rfl zbj))) (fun h11 => ?_) (fun h11 => ?_) | refine zdh rfl rfl (zaa rfl) (za5 rfl rfl ((qValid_pf54 d l)) (zau rfl (zau rfl zbj))) (fun h11 => ?_) (fun h11 => ?_))
  all_goals (first | refine zat rfl rfl (zaa rfl) (zcf rfl rfl) ?_ | refine zat rfl rfl (zaa rfl) (zcj rfl rfl) ?_)
  all_goals refine zat rfl rfl (zaa rfl) (mv_s (.inl rfl) rfl) ?_
  all_goals (first | refine zat rfl rfl (zah rfl rfl rfl) (za6 (.inl rfl) rfl) ?_ | refine zat rfl rfl (zah rfl rfl rfl) (zbg (.inl rfl) rfl) ?_ | refine zat rfl rfl (zah rfl rfl rfl) (mv_s (.inl rfl) rfl) ?_ | refine zat rfl rfl (zah rfl rfl rfl) (za7 (.inl rfl) rfl) ?_ | refine zaw rfl rfl (zax rfl rfl rfl) ?_ | refine zaw rfl rfl (zav rfl rfl rfl) ?_)
  all_goals (first | refine zat rfl rfl (zah rfl rfl rfl) (zal rfl tf25_0 (by decide) rfl) ?_ | refine zat rfl rfl (zah rfl rfl rfl) (zai rfl tf25_0 (by decide) rfl) ?_ | refine zaw rfl rfl (zax rfl rfl rfl) ?_ | refine zaw rfl rfl (zav rfl rfl rfl) ?_)
  all_goals (first | refine zat rfl rfl (zah rfl rfl rfl) (zam rfl ta22 rfl) ?_ | refine zat rfl rfl (zah rfl rfl rfl) (zap rfl ta22 rfl rfl rfl rfl rfl) ?_ | refine zaw rfl rfl (zax rfl rfl rfl) ?_ | refine zaw rfl rfl (zav rfl rfl rfl) ?_)
  all_goals (first | refine zdg rfl rfl (zah rfl rfl rfl) (za5 rfl rfl ((rCounts_pf l p.c)) (zau rfl (zau rfl zbj))) (fun h17 => ?_) (fun h17 => ?_) | refine zdh rfl rfl (zah rfl rfl rfl) (za5 rfl rfl ((rCounts_pf l p.c)) (zau rfl (zau rfl zbj))) (fun h17 => ?_) (fun h17 => ?_) | refine zaw rfl rfl (zax rfl rfl rfl) ?_ | refine zaw rfl rfl (zav rfl rfl rfl) ?_)
  all_goals (first | refine zat rfl rfl (zah rfl rfl rfl) (zcf rfl rfl) ?_ | refine zat rfl rfl (zah rfl rfl rfl) (zcj rfl rfl) ?_ | refine zaw rfl rfl (zax rfl rfl rfl) ?_ | refine zaw rfl rfl (zav rfl rfl rfl) ?_)
  all_goals (first | refine zat rfl rfl (zaa rfl) (zbx rfl rfl rfl) ?_ | refine zat rfl rfl (zaa rfl) (zby rfl rfl rfl) ?_ | refine zat rfl rfl (zaa rfl) (zbk rfl rfl rfl) ?_ | refine zat rfl rfl (zaa rfl) (zbl rfl rfl rfl) ?_)
  all_goals refine zat rfl rfl (zaa rfl) (mv_s (.inl rfl) rfl) ?_
  all_goals (first | refine zat rfl rfl (zah rfl rfl rfl) (za6 (.inl rfl) rfl) ?_ | refine zat rfl rfl (zah rfl rfl rfl) (zbg (.inl rfl) rfl) ?_ | refine zat rfl rfl (zah rfl rfl rfl) (mv_s (.inl rfl) rfl) ?_ | refine zat rfl rfl (zah rfl rfl rfl) (za7 (.inl rfl) rfl) ?_ | refine zaw rfl rfl (zax rfl rfl rfl) ?_ | refine zaw rfl rfl (zav rfl rfl rfl) ?_)
  all_goals (first | refine zat rfl rfl (zah rfl rfl rfl) (za6 (.inl rfl) rfl) ?_ | refine zat rfl rfl (zah rfl rfl rfl) (zbg (.inl rfl) rfl) ?_ | refine zat rfl rfl (zah rfl rfl rfl) (mv_s (.inl rfl) rfl) ?_ | refine zat rfl rfl (zah rfl rfl rfl) (za7 (.inl rfl) rfl) ?_ | refine zaw rfl rfl (zax rfl rfl rfl) ?_ | refine zaw rfl rfl (zav rfl rfl rfl) ?_)
  all_goals (first | refine zat rfl rfl (zah rfl rfl rfl) (zal rfl tf25_0 (by decide) rfl) ?_ | refine zat rfl rfl (zah rfl rfl rfl) (zai rfl tf25_0 (by decide) rfl) ?_ | refine zaw rfl rfl (zax rfl rfl rfl) ?_ | refine zaw rfl rfl (zav rfl rfl rfl) ?_)
  all_goals (first | refine zat rfl rfl (zah rfl rfl rfl) (zam rfl ta22 rfl) ?_ | refine zat rfl rfl (zah rfl rfl rfl) (zap rfl ta22 rfl rfl rfl rfl rfl) ?_ | refine zaw rfl rfl (zax rfl rfl rfl) ?_ | refine zaw rfl rfl (zav rfl rfl rfl) ?_)
  all_goals (first | refine zat rfl rfl (zah rfl rfl rfl) (za5 rfl rfl ((rShort_pf d l p.c (zcz h11).1.2.1 (okC_of h11 h17))) (zau rfl (zau rfl (zau rfl zbj)))) ?_ | refine zaw rfl rfl (zax rfl rfl rfl) ?_ | refine zaw rfl rfl (zav rfl rfl rfl) ?_)
  all_goals (first | refine zdg rfl rfl (zah rfl rfl rfl) (zcp rfl rfl rfl) (fun h26 => ?_) (fun h26 => ?_) | refine zdh rfl rfl (zah rfl rfl rfl) (zcp rfl rfl rfl) (fun h26 => ?_) (fun h26 => ?_) | refine zaw rfl rfl (zax rfl rfl rfl) ?_ | refine zaw rfl rfl (zav rfl rfl rfl) ?_)
  all_goals (first | refine zat rfl rfl (zaa rfl) (zbx rfl rfl rfl) ?_ | refine zat rfl rfl (zaa rfl) (zby rfl rfl rfl) ?_ | refine zat rfl rfl (zaa rfl) (zbk rfl rfl rfl) ?_ | refine zat rfl rfl (zaa rfl) (zbl rfl rfl rfl) ?_)
  all_goals refine zat rfl rfl (zaa rfl) (mv_s (.inl rfl) rfl) ?_
  all_goals (first | refine zat rfl rfl (zah rfl rfl rfl) (za6 (.inl rfl) rfl) ?_ | refine zat rfl rfl (zah rfl rfl rfl) (zbg (.inl rfl) rfl) ?_ | refine zat rfl rfl (zah rfl rfl rfl) (mv_s (.inl rfl) rfl) ?_ | refine zat rfl rfl (zah rfl rfl rfl) (za7 (.inl rfl) rfl) ?_ | refine zaw rfl rfl (zax rfl rfl rfl) ?_ | refine zaw rfl rfl (zav rfl rfl rfl) ?_)
  all_goals (first | refine zat rfl rfl (zah rfl rfl rfl) (zal rfl tf25_0 (by decide) rfl) ?_ | refine zat rfl rfl (zah rfl rfl rfl) (zai rfl tf25_0 (by decide) rfl) ?_ | refine zaw rfl rfl (zax rfl rfl rfl) ?_ | refine zaw rfl rfl (zav rfl rfl rfl) ?_)
  all_goals (first | refine zat rfl rfl (zah rfl rfl rfl) (zam rfl ta22 rfl) ?_ | refine zat rfl rfl (zah rfl rfl rfl) (zap rfl ta22 rfl rfl rfl rfl rfl) ?_ | refine zaw rfl rfl (zax rfl rfl rfl) ?_ | refine zaw rfl rfl (zav rfl rfl rfl) ?_)
  all_goals (first | refine zat rfl rfl (zah rfl rfl rfl) (za5 rfl rfl ((rCost_pf d l p.c h11 (okC_of h11 h17))) (zau rfl (zau rfl zbj))) ?_ | refine zaw rfl rfl (zax rfl rfl rfl) ?_ | refine zaw rfl rfl (zav rfl rfl rfl) ?_)
  all_goals (first | refine zat rfl rfl (zah rfl rfl rfl) (zal rfl tf25_1 (by decide) rfl) ?_ | refine zat rfl rfl (zah rfl rfl rfl) (zai rfl tf25_1 (by decide) rfl) ?_ | refine zaw rfl rfl (zax rfl rfl rfl) ?_ | refine zaw rfl rfl (zav rfl rfl rfl) ?_)
  all_goals (first | refine zat rfl rfl (zah rfl rfl rfl) (zam rfl ta3 rfl) ?_ | refine zat rfl rfl (zah rfl rfl rfl) (zap rfl ta3 rfl rfl rfl rfl rfl) ?_ | refine zaw rfl rfl (zax rfl rfl rfl) ?_ | refine zaw rfl rfl (zav rfl rfl rfl) ?_)
  all_goals (first | refine zdg rfl rfl (zah rfl rfl rfl) (zbv rfl rfl rfl) (fun h35 => ?_) (fun h35 => ?_) | refine zdh rfl rfl (zah rfl rfl rfl) (zbv rfl rfl rfl) (fun h35 => ?_) (fun h35 => ?_) | refine zaw rfl rfl (zax rfl rfl rfl) ?_ | refine zaw rfl rfl (zav rfl rfl rfl) ?_)
  all_goals (first | refine zat rfl rfl (zaa rfl) (zbx rfl rfl rfl) ?_ | refine zat rfl rfl (zaa rfl) (zby rfl rfl rfl) ?_ | refine zat rfl rfl (zaa rfl) (zbk rfl rfl rfl) ?_ | refine zat rfl rfl (zaa rfl) (zbl rfl rfl rfl) ?_)
  all_goals refine qx_nil ?_
  all_goals (repeat (first | refine zag ?_ | refine zar ?_ | refine zad ?_ | refine zas ?_ | refine zac ?_))
  all_goals (first | refine zbp rfl ?_ | refine zbm rfl ?_)
  all_goals (repeat (first | refine zag ?_ | refine zar ?_ | refine zad ?_ | refine zas ?_ | refine zac ?_))
  all_goals first
    | skip
      rw [if_neg (by
        unfold headK
        rintro ⟨g1, g2, g3, g4⟩
        first
        | exact Bool.noConfusion (g1.symm.trans h11)
        | exact Bool.noConfusion (g2.symm.trans h17)
        | omega)] at HI
      refine zaf ?_
      refine zab rfl rfl (zaa rfl) (mv_s (.inr rfl) rfl) ?_
      refine zan ?_
      repeat (first | refine zag ?_ | refine zar ?_ | refine zad ?_ | refine zas ?_ | refine zac ?_)
      (refine zbs ?_; repeat (first | refine zb8 ?_ | refine zb9 ?_))
      exact zcm (.inr rfl) rfl (congrArg eB HI.symm)
    | skip
  have hk : headK d l p := ⟨h11, h17, by omega, by omega⟩
  rw [if_pos hk] at HI
  have hbd := prcP_bd h11 (okC_of h11 h17) l.length (Nat.le_refl _)
  have hpc := hk.2.2.2
  have hl12 := (zcz h11).1.2.2
  have hr := rproves_pf (P := P) d l p.cost h11 (by omega) (by omega) (.mk s t L y) (zeroI l.length) (mostL l) 20000 (first_box h11) (by omega) (by omega)
  have hb2 := rgtE_bd d l p.cost (.mk s t L y) (zeroI l.length) (mostL l) 20000 (by omega)
  generalize rgtE d l p.cost (.mk s t L y) (zeroI l.length) (mostL l) 20000 = x at HI hr hb2
  obtain ⟨xz, xn⟩ := x
  rw [eBr_mk] at hr
  dsimp only at HI hb2
  have hge : (0 ≤ lftI (xz, xn)) ↔ R = true := by
    rw [HI]
    cases xz
    · rw [lft_f]; simp
    · rw [lft_t]; simp; exact hb2.1
  generalize lftI (xz, xn) = w at hr hge
  have hw : eL eI (zeroI l.length) = .sl (List.replicate l.length (eI 0)) := by unfold eL; rw [hz]
  rw [hw] at hr
  by_cases hw0 : 0 ≤ w
  · have hwt : R = true := hge.1 hw0
    subst hwt
    all_goals refine zch hmix ?_
    all_goals refine zda ?_
    all_goals (first | refine zao rfl rfl (zaa rfl) (fun _ => (za6 (.inl rfl) rfl)) ?_ | refine zao rfl rfl (zaa rfl) (fun _ => (zbg (.inl rfl) rfl)) ?_ | refine zao rfl rfl (zaa rfl) (fun _ => (mv_s (.inl rfl) rfl)) ?_ | refine zao rfl rfl (zaa rfl) (fun _ => (za7 (.inl rfl) rfl)) ?_)
    all_goals (first | refine zao rfl rfl (zaa rfl) (fun _ => (za6 (.inl rfl) rfl)) ?_ | refine zao rfl rfl (zaa rfl) (fun _ => (zbg (.inl rfl) rfl)) ?_ | refine zao rfl rfl (zaa rfl) (fun _ => (mv_s (.inl rfl) rfl)) ?_ | refine zao rfl rfl (zaa rfl) (fun _ => (za7 (.inl rfl) rfl)) ?_)
    all_goals (first | refine zao rfl rfl (zaa rfl) (fun _ => (za6 (.inl rfl) rfl)) ?_ | refine zao rfl rfl (zaa rfl) (fun _ => (zbg (.inl rfl) rfl)) ?_ | refine zao rfl rfl (zaa rfl) (fun _ => (mv_s (.inl rfl) rfl)) ?_ | refine zao rfl rfl (zaa rfl) (fun _ => (za7 (.inl rfl) rfl)) ?_)
    all_goals (first | refine zao rfl rfl (zaa rfl) (fun _ => (za4 rfl ts23 rfl)) ?_ | refine zao rfl rfl (zaa rfl) (fun _ => (za8 rfl ts23 rfl)) ?_ | refine zao rfl rfl (zaa rfl) (fun _ => (za2 rfl ts23 rfl)) ?_ | refine zao rfl rfl (zaa rfl) (fun _ => (zbc rfl ts23 rfl)) ?_ | refine zao rfl rfl (zaa rfl) (fun _ => (za3 rfl ts23 rfl)) ?_)
    all_goals refine zao rfl rfl (zaa rfl) (fun _ => (does_makeF rfl ts22 ti3 rfl rfl (by decide) rfl rfl rfl rfl (by omega) (by omega) (by omega) (.sl _ (fun c hc => by rw [List.eq_of_mem_replicate hc]; first | exact .s _ | exact (by repeat' (first | exact Lo.s _ | exact zaj | refine zae ?_ ?_ | refine zak ?_ | refine Lo.cells ?_ | refine Lo.agg _ ?_ | refine Lo.ref _ ?_ | refine Lo.tup _ ?_ | refine Lo.fn _ _ ?_ | refine Lo.sl _ ?_ | intro _)))))) ?_
    all_goals (first | refine zao rfl rfl (zaa rfl) (fun _ => (za6 (.inl rfl) rfl)) ?_ | refine zao rfl rfl (zaa rfl) (fun _ => (zbg (.inl rfl) rfl)) ?_ | refine zao rfl rfl (zaa rfl) (fun _ => (mv_s (.inl rfl) rfl)) ?_ | refine zao rfl rfl (zaa rfl) (fun _ => (za7 (.inl rfl) rfl)) ?_)
    all_goals refine zao rfl rfl (zaa rfl) (fun _ => (za5 rfl rfl ((greatest_pf l hl12)) (zau rfl zbj))) ?_
    all_goals (first | refine zao rfl rfl (zaa rfl) (fun _ => (zal rfl tf25_1 (by decide) rfl)) ?_ | refine zao rfl rfl (zaa rfl) (fun _ => (zai rfl tf25_1 (by decide) rfl)) ?_)
    all_goals (first | refine zao rfl rfl (zaa rfl) (fun _ => (zam rfl ta3 rfl)) ?_ | refine zbz rfl rfl (zaa rfl) (zc9 rfl ta3 rfl rfl rfl rfl rfl) ?_)
    all_goals (first | refine zao rfl rfl (zaa rfl) (fun _ => (za0 rfl ta29 ti29 rfl rfl)) ?_ | refine zbz rfl rfl (zaa rfl) (zce rfl ta29 ti29 rfl rfl rfl rfl rfl) ?_ | refine zao rfl rfl (zaa rfl) (fun _ => (zaz rfl ta29 ti29 rfl (Nat.le_of_ble_eq_true rfl))) ?_ | refine zbz rfl rfl (zaa rfl) (zcn rfl ta29 ti29 rfl rfl rfl rfl (Nat.le_of_ble_eq_true rfl)) ?_)
    all_goals refine zao rfl rfl (zaa rfl) (fun _ => (za5 rfl rfl (hr) (zau rfl (zau rfl (zau rfl (zau rfl (zau rfl (zau rfl (zau rfl zbj))))))))) ?_
    all_goals refine zao rfl rfl (zaa rfl) (fun _ => (dec_t (by omega) (zcp rfl rfl rfl))) ?_
    all_goals refine zao rfl rfl (zaa rfl) (fun _ => (mv_s (.inr rfl) rfl)) ?_
    all_goals refine ex_nil (by kernel_rfl) ?_
    all_goals (repeat (first | refine zag ?_ | refine zar ?_ | refine zad ?_ | refine zas ?_ | refine zac ?_))
    (refine zbs ?_; repeat (first | refine zb8 ?_ | refine zb9 ?_))
    exact zcm (.inr rfl) rfl rfl
  · have hwf : R = false := by cases R; rfl; exact absurd (hge.2 rfl) hw0
    subst hwf
    all_goals refine zch hmix ?_
    all_goals refine zda ?_
    all_goals (first | refine zao rfl rfl (zaa rfl) (fun _ => (za6 (.inl rfl) rfl)) ?_ | refine zao rfl rfl (zaa rfl) (fun _ => (zbg (.inl rfl) rfl)) ?_ | refine zao rfl rfl (zaa rfl) (fun _ => (mv_s (.inl rfl) rfl)) ?_ | refine zao rfl rfl (zaa rfl) (fun _ => (za7 (.inl rfl) rfl)) ?_)
    all_goals (first | refine zao rfl rfl (zaa rfl) (fun _ => (za6 (.inl rfl) rfl)) ?_ | refine zao rfl rfl (zaa rfl) (fun _ => (zbg (.inl rfl) rfl)) ?_ | refine zao rfl rfl (zaa rfl) (fun _ => (mv_s (.inl rfl) rfl)) ?_ | refine zao rfl rfl (zaa rfl) (fun _ => (za7 (.inl rfl) rfl)) ?_)
    all_goals (first | refine zao rfl rfl (zaa rfl) (fun _ => (za6 (.inl rfl) rfl)) ?_ | refine zao rfl rfl (zaa rfl) (fun _ => (zbg (.inl rfl) rfl)) ?_ | refine zao rfl rfl (zaa rfl) (fun _ => (mv_s (.inl rfl) rfl)) ?_ | refine zao rfl rfl (zaa rfl) (fun _ => (za7 (.inl rfl) rfl)) ?_)
    all_goals (first | refine zao rfl rfl (zaa rfl) (fun _ => (za4 rfl ts23 rfl)) ?_ | refine zao rfl rfl (zaa rfl) (fun _ => (za8 rfl ts23 rfl)) ?_ | refine zao rfl rfl (zaa rfl) (fun _ => (za2 rfl ts23 rfl)) ?_ | refine zao rfl rfl (zaa rfl) (fun _ => (zbc rfl ts23 rfl)) ?_ | refine zao rfl rfl (zaa rfl) (fun _ => (za3 rfl ts23 rfl)) ?_)
    all_goals refine zao rfl rfl (zaa rfl) (fun _ => (does_makeF rfl ts22 ti3 rfl rfl (by decide) rfl rfl rfl rfl (by omega) (by omega) (by omega) (.sl _ (fun c hc => by rw [List.eq_of_mem_replicate hc]; first | exact .s _ | exact (by repeat' (first | exact Lo.s _ | exact zaj | refine zae ?_ ?_ | refine zak ?_ | refine Lo.cells ?_ | refine Lo.agg _ ?_ | refine Lo.ref _ ?_ | refine Lo.tup _ ?_ | refine Lo.fn _ _ ?_ | refine Lo.sl _ ?_ | intro _)))))) ?_
    all_goals (first | refine zao rfl rfl (zaa rfl) (fun _ => (za6 (.inl rfl) rfl)) ?_ | refine zao rfl rfl (zaa rfl) (fun _ => (zbg (.inl rfl) rfl)) ?_ | refine zao rfl rfl (zaa rfl) (fun _ => (mv_s (.inl rfl) rfl)) ?_ | refine zao rfl rfl (zaa rfl) (fun _ => (za7 (.inl rfl) rfl)) ?_)
    all_goals refine zao rfl rfl (zaa rfl) (fun _ => (za5 rfl rfl ((greatest_pf l hl12)) (zau rfl zbj))) ?_
    all_goals (first | refine zao rfl rfl (zaa rfl) (fun _ => (zal rfl tf25_1 (by decide) rfl)) ?_ | refine zao rfl rfl (zaa rfl) (fun _ => (zai rfl tf25_1 (by decide) rfl)) ?_)
    all_goals (first | refine zao rfl rfl (zaa rfl) (fun _ => (zam rfl ta3 rfl)) ?_ | refine zbz rfl rfl (zaa rfl) (zc9 rfl ta3 rfl rfl rfl rfl rfl) ?_)
    all_goals (first | refine zao rfl rfl (zaa rfl) (fun _ => (za0 rfl ta29 ti29 rfl rfl)) ?_ | refine zbz rfl rfl (zaa rfl) (zce rfl ta29 ti29 rfl rfl rfl rfl rfl) ?_ | refine zao rfl rfl (zaa rfl) (fun _ => (zaz rfl ta29 ti29 rfl (Nat.le_of_ble_eq_true rfl))) ?_ | refine zbz rfl rfl (zaa rfl) (zcn rfl ta29 ti29 rfl rfl rfl rfl (Nat.le_of_ble_eq_true rfl)) ?_)
    all_goals refine zao rfl rfl (zaa rfl) (fun _ => (za5 rfl rfl (hr) (zau rfl (zau rfl (zau rfl (zau rfl (zau rfl (zau rfl (zau rfl zbj))))))))) ?_
    all_goals refine zao rfl rfl (zaa rfl) (fun _ => (dec_f (by omega) (zcp rfl rfl rfl))) ?_
    all_goals refine zao rfl rfl (zaa rfl) (fun _ => (mv_s (.inr rfl) rfl)) ?_
    all_goals refine ex_nil (by kernel_rfl) ?_
    all_goals (repeat (first | refine zag ?_ | refine zar ?_ | refine zad ?_ | refine zas ?_ | refine zac ?_))
    (refine zbs ?_; repeat (first | refine zb8 ?_ | refine zb9 ?_))
    exact zcm (.inr rfl) rfl rfl
end Go.Proofs.YtmoipmnhgdmkpaaGreat.Aw
end
section
namespace Go.Proofs.YtmoipmnhgdmkpaaGreat.Aw
set_option linter.unusedSimpArgs false
set_option linter.unusedVariables false
set_option linter.unusedSectionVars false
open Go.RowKit

structure KE (G G' : Cx) : Prop where
  step : G.Step G'
  mu0 : ∀ y, G.mu 0 = some y → G'.mu 0 = some y
  rows : zc2 G.w G'.w
theorem KE.refl (G : Cx) : KE G G := ⟨.refl G, fun _ h => h, zc2.refl _⟩
theorem KE.trans {G H K : Cx} (h : KE G H) (k : KE H K) : KE G K := ⟨h.step.trans k.step, fun y x => k.mu0 y (h.mu0 y x), h.rows.trans k.rows⟩
theorem KE.of {G G' : Cx} (e : G.Ext G') : KE G G' := ⟨e.step, e.mu 0, e.rows⟩
def liftK (N : Nat) (G : Cx) (Q : Exit → Frm → List Ob → Prop) : Exit → Act → World → Prop :=
  fun e a' w' => ∃ G' F' σ', G'.w = w' ∧ KE G G' ∧ S8 N G' a' F' σ' ∧ Q e F' σ'
theorem liftK_mono {N : Nat} {G G1 : Cx} (h : KE G G1) {Q Q' : Exit → Frm → List Ob → Prop} (hq : ∀ e F σ, Q e F σ → Q' e F σ) {e : Exit} {a : Act} {w : World} (x : liftK N G1 Q e a w) : liftK N G Q' e a w := by
  obtain ⟨G', F', σ', h1, h2, h3, h4⟩ := x
  exact ⟨G', F', σ', h1, h.trans h2, h3, hq _ _ _ h4⟩

def KWp (P : Program) (N : Nat) (c : Code) (F : Frm) (σ : List Ob) (Q : Exit → Frm → List Ob → Prop) : Prop :=
  ∀ G a, S8 N G a F σ → c.wp P (liftK N G Q) a G.w
def KOps (P : Program) (N : Nat) (ops : Array Oper) (l : List Oper) (F : Frm) (σ : List Ob) (Q : Exit → Frm → List Ob → Prop) : Prop :=
  ∀ G a, S8 N G a F σ → wpList P ops (liftK N G Q) l a G.w

section
variable {P : Program} {N : Nat} {F : Frm} {σ : List Ob} {Q : Exit → Frm → List Ob → Prop}

theorem kw_seq {x y : Code} (h : KWp P N x F σ (AThen (fun F σ => KWp P N y F σ Q) Q)) : KWp P N (.seq x y) F σ Q := fun G a hs => by
  refine wp_seq (Code.wp_mono (fun e a1 w1 q => ?_) (h G a hs))
  obtain ⟨G', F', σ', rfl, h2, h3, h4⟩ := q
  cases e with
  | normal => exact Code.wp_mono (fun e a w q => liftK_mono h2 (fun _ _ _ x => x) q) (h4 G' a1 h3)
  | _ => exact ⟨G', F', σ', rfl, h2, h3, h4⟩
theorem kw_skip (h : Q .normal F σ) : KWp P N .skip F σ Q := fun G a hs => wp_skip ⟨G, F, σ, rfl, .refl G, hs, h⟩
theorem kw_exit {id : Nat} (h : Q (.exit id) F σ) : KWp P N (.exit id) F σ Q := fun G a hs => wp_exit ⟨G, F, σ, rfl, .refl G, hs, h⟩
theorem kw_ret (h : Q .ret F σ) : KWp P N .ret F σ Q := fun G a hs => wp_ret ⟨G, F, σ, rfl, .refl G, hs, h⟩
theorem zdf {id : Nat} {c : Code} (h : KWp P N c F σ (ABlk id Q)) : KWp P N (.block id c) F σ Q := fun G a hs => by
  refine wp_block (Code.wp_mono (fun e a1 w1 q => ?_) (h G a hs))
  obtain ⟨G', F', σ', rfl, h2, h3, h4⟩ := q
  cases e with
  | exit id' =>
    simp only [ABlk] at h4
    simp only [Exit.inBlock]
    split
    · rename_i e; rw [if_pos e] at h4; exact ⟨G', F', σ', rfl, h2, h3, h4⟩
    · rename_i e; rw [if_neg e] at h4; exact ⟨G', F', σ', rfl, h2, h3, h4⟩
  | _ => exact ⟨G', F', σ', rfl, h2, h3, h4⟩
theorem kw_cond {c : Operand} {x y : Code} {b : Bool} (hc : F.eval c = .s (.bool b)) (ht : b = true → KWp P N x F σ Q) (hf : b = false → KWp P N y F σ Q) : KWp P N (.cond c x y) F σ Q := fun G a hs =>
  wp_cond_split (rep_bool hs.fr hc) (fun e => ht e G a hs) (fun e => hf e G a hs)
theorem kw_true {c : Operand} {x y : Code} (hc : F.eval c = .s (.bool true)) (ht : KWp P N x F σ Q) : KWp P N (.cond c x y) F σ Q := kw_cond hc (fun _ => ht) (fun e => by cases e)
theorem kw_false {c : Operand} {x y : Code} (hc : F.eval c = .s (.bool false)) (ht : KWp P N y F σ Q) : KWp P N (.cond c x y) F σ Q := kw_cond hc (fun e => by cases e) (fun _ => ht)
theorem kw_loop {c : Code} (I : Nat → Frm → List Ob → Prop) (m : Nat) (h0 : I m F σ)
    (round : ∀ m F σ, I m F σ → KWp P N c F σ (AThen (fun F' σ' => ∃ m', m' < m ∧ I m' F' σ') Q)) : KWp P N (.loop c) F σ Q := fun G a hs => by
  refine wp_loop_ghost (fun n a w => ∃ G' F' σ', G'.w = w ∧ KE G G' ∧ S8 N G' a F' σ' ∧ I n F' σ') m ⟨G, F, σ, rfl, .refl G, hs, h0⟩ ?_
  rintro n a w ⟨G', F', σ', rfl, h2, h3, h4⟩
  refine Code.wp_mono (fun e a1 w1 q => ?_) (round n F' σ' h4 G' a h3)
  obtain ⟨G2, F2, σ2, rfl, h5, h6, h7⟩ := q
  cases e with
  | normal => obtain ⟨m', hm, hi⟩ := h7; exact ⟨m', hm, ⟨G2, F2, σ2, rfl, h2.trans h5, h6, hi⟩⟩
  | _ => exact ⟨G2, F2, σ2, rfl, h2.trans h5, h6, h7⟩

theorem kw_region {id : Nat} {l : List Oper} (h : KOps P N l.toArray l F σ Q) : KWp P N (.region id l.toArray false) F σ Q := fun G a hs => wp_region_lit (h G a hs)
theorem kw_mono {c : Code} {Q' : Exit → Frm → List Ob → Prop} (h : KWp P N c F σ Q) (hq : ∀ e F σ, Q e F σ → Q' e F σ) : KWp P N c F σ Q' := fun G a hs =>
  Code.wp_mono (fun e a w q => liftK_mono (.refl G) hq q) (h G a hs)

end

section
variable {P : Program} {N : Nat} {F : Frm} {σ σ' : List Ob} {Q : Exit → Frm → List Ob → Prop} {ops : Array Oper} {o : Oper} {l : List Oper} {x : AV}

theorem kops_nil (h : Q .normal F σ) : KOps P N ops [] F σ Q := fun G a hs => ⟨G, F, σ, rfl, .refl G, hs, h⟩
theorem zbt {d : Nat} (hd : o.dst = some d) (hN : Nat.blt d N = true) (hr : Runs ops F o true) (hD : Does P o F σ x σ') (k : KOps P N ops l ((d, x) :: F) σ' Q) : KOps P N ops (o :: l) F σ Q := fun G a hs => by
  unfold wpList
  rw [if_pos (hr.wanted hs.fr)]
  left
  refine hD G a _ _ hs.rel (fun y _ => zc8 hs.fr y) (fun v G' e r hv => ?_)
  rw [hd]
  exact zct (fun e' a w q => liftK_mono (KE.of e) (fun _ _ _ x => x) q) _ _ _ (k G' _ ((hs.step e r).put (by simpa [Nat.blt_eq] using hN) hv))
theorem kops_eff (hd : o.dst = none) (hr : Runs ops F o true) (hD : Does P o F σ x σ') (k : KOps P N ops l F σ' Q) : KOps P N ops (o :: l) F σ Q := fun G a hs => by
  unfold wpList
  rw [if_pos (hr.wanted hs.fr)]
  left
  refine hD G a _ _ hs.rel (fun y _ => zc8 hs.fr y) (fun v G' e r hv => ?_)
  rw [hd]
  exact zct (fun e' a w q => liftK_mono (KE.of e) (fun _ _ _ x => x) q) _ _ _ (k G' _ (hs.step e r))
theorem kops_skip {d : Nat} (hd : o.dst = some d) (hN : Nat.blt d N = true) (hr : Runs ops F o false) (k : KOps P N ops l ((d, .s undef) :: F) σ Q) : KOps P N ops (o :: l) F σ Q := fun G a hs => by
  unfold wpList
  rw [if_neg (by rw [hr.wanted hs.fr]; simp)]
  rw [hd]
  exact k G _ (hs.put (by simpa [Nat.blt_eq] using hN) (.s _))
end


def WeakK (N : Nat) (F : Frm) (σ : List Ob) (F' : Frm) (σ' : List Ob) : Prop := ∀ G a, S8 N G a F σ → ∃ G', G'.w = G.w ∧ KE G G' ∧ S8 N G' a F' σ'
theorem WeakK.refl {N : Nat} {F : Frm} {σ : List Ob} : WeakK N F σ F σ := fun G a h => ⟨G, rfl, .refl G, h⟩
section
variable {P : Program} {N : Nat} {F F' : Frm} {σ σ' : List Ob} {Q : Exit → Frm → List Ob → Prop}
theorem kw_weak {c : Code} (w : WeakK N F σ F' σ') (h : KWp P N c F' σ' Q) : KWp P N c F σ Q := fun G a hs => by
  obtain ⟨G1, e1, s1, h1⟩ := w G a hs
  rw [← e1]
  exact Code.wp_mono (fun e a w q => liftK_mono s1 (fun _ _ _ x => x) q) (h G1 a h1)
theorem kops_weak {ops : Array Oper} {l : List Oper} (w : WeakK N F σ F' σ') (h : KOps P N ops l F' σ' Q) : KOps P N ops l F σ Q := fun G a hs => by
  obtain ⟨G1, e1, s1, h1⟩ := w G a hs
  rw [← e1]
  exact zct (fun e a w q => liftK_mono s1 (fun _ _ _ x => x) q) _ _ _ (h G1 a h1)
/-- new names; the name 0 stays -/
theorem kwk_st (ρ : List Nat) (h0 : ρ[0]? = some 0) (hn : ρ.Nodup) (hs : StL ρ σ ρ σ') (hf : FrRn F ρ F') : WeakK N F σ F' σ' := fun G a h =>
  ⟨G.ren ρ, rfl, ⟨⟨rfl, rfl, fun _ _ h => h, fun _ _ _ => rfl, fun _ _ h => .inl h⟩, fun y hy => by simp [Cx.ren, h0, hy], zc2.refl _⟩, ⟨ren_rel h.rel hn (stRn_of ρ σ' hs), frRn_ok h.fr F' hf, h.df, h.nt⟩⟩
theorem kw_loops {c : Code} {S : Type} (fr : S → Frm) (st : S → List Ob) (inv : S → Prop) (ms : S → Nat) (s0 : S) (hw : WeakK N F σ (fr s0) (st s0)) (h0 : inv s0)
    (round : ∀ s, inv s → KWp P N c (fr s) (st s) (AThen (fun F' σ' => ∃ s', inv s' ∧ ms s' < ms s ∧ WeakK N F' σ' (fr s') (st s')) Q)) : KWp P N (.loop c) F σ Q := by
  refine kw_weak hw (kw_loop (fun m F σ => ∃ s, inv s ∧ ms s = m ∧ WeakK N F σ (fr s) (st s)) (ms s0) ⟨s0, h0, rfl, WeakK.refl⟩ (fun m F σ h => ?_))
  obtain ⟨s, h1, rfl, h3⟩ := h
  refine kw_weak h3 (kw_mono (round s h1) (fun e F σ q => ?_))
  cases e with
  | normal => obtain ⟨s', g1, g2, g3⟩ := q; exact ⟨ms s', g2, s', g1, rfl, g3⟩
  | _ => exact q
variable {ops : Array Oper} {o : Oper} {l : List Oper} {d : Nat}
theorem kops_opP {p : Prop} [Decidable p] (hd : o.dst = some d) (hN : Nat.blt d N = true) (hr : Runs ops F o true) (hD : Does P o F σ (.s (.bool (decide p))) σ) (k1 : p → KOps P N ops l ((d, .s (.bool true)) :: F) σ Q) (k2 : ¬ p → KOps P N ops l ((d, .s (.bool false)) :: F) σ Q) : KOps P N ops (o :: l) F σ Q := by
  by_cases h : p
  · exact zbt hd hN hr (dec_t h hD) (k1 h)
  · exact zbt hd hN hr (dec_f h hD) (k2 h)
theorem kops_opB {b : Bool} (hd : o.dst = some d) (hN : Nat.blt d N = true) (hr : Runs ops F o true) (hD : Does P o F σ (.s (.bool b)) σ) (k1 : b = true → KOps P N ops l ((d, .s (.bool true)) :: F) σ Q) (k2 : b = false → KOps P N ops l ((d, .s (.bool false)) :: F) σ Q) : KOps P N ops (o :: l) F σ Q := by
  cases b with
  | true => exact zbt hd hN hr hD (k1 rfl)
  | false => exact zbt hd hN hr hD (k2 rfl)
/-- a call that counts down a number of its caller's: it returns whether there were enough -/
structure CallC (P : Program) (f : FuncId) (x : AV) (e n : Int) : Prop where
  ent : Enters P f
  call : ∀ (G : Cx) (vargs : Array Value), Rel G [.row 1 [eI n]] → vargs.size = 3 → (∀ (j : Nat) v y, vargs[j]? = some v → [x, .ptr 0 1 0 0, eI e][j]? = some y → Rep G v y) →
    Calls P f vargs G.w fun ex w' => ∃ (z : Bool) (n' : Int) (G' : Cx), ex = .returned (.bool z) ∧ G'.w = w' ∧ KE G G' ∧ Rel G' [.row 1 [eI n']] ∧ n' ≤ n ∧ -1 ≤ n' ∧ (z = true → 0 ≤ n')
theorem fr_keep {G G' : Cx} {a : Act} (hF : ∀ p ∈ F, Lo 1 p.2) (h : FOk G a F) (k : KE G G') : FOk G' a F := fun t => by
  have key : ∀ F : Frm, (∀ p ∈ F, Lo 1 p.2) → Lo 1 (F.get t) := by
    intro F
    induction F with
    | nil => intro _; exact .any
    | cons p F ih =>
      intro hF
      obtain ⟨d, x⟩ := p
      simp only [Frm.get]
      cases Nat.beq d t with
      | true => exact hF (d, x) List.mem_cons_self
      | false => exact ih (fun p hp => hF p (List.mem_cons_of_mem _ hp))
  refine (h t).low (key F hF) k.step.st k.step.cell (fun id y hid hy => ?_) (fun _ => k.rows)
  obtain rfl : id = 0 := by omega
  exact k.mu0 y hy
section
variable {fo : Operand} {ar : Array Operand} {ts : Array TypeId} {f : FuncId} {x : AV} {e n : Int}
theorem kops_cnt (hd : o.dst = some d) (hN : Nat.blt d N = true) (hr : Runs ops F o true) (ho : o.op = .call { callee := .value fo, args := ar, argTypes := ts }) (hf : F.eval fo = .fn f []) (hp : CallC P f x e n) (ha : ar.toList.map F.eval ++ [] = [x, .ptr 0 1 0 0, eI e]) (hF : ∀ p ∈ F, Lo 1 p.2)
    (k : ∀ (z : Bool) (n' : Int), n' ≤ n → -1 ≤ n' → (z = true → 0 ≤ n') → KOps P N ops l ((d, eB z) :: F) [.row 1 [eI n']] Q) : KOps P N ops (o :: l) F [.row 1 [eI n]] Q := fun G a hs => by
  unfold wpList
  rw [if_pos (hr.wanted hs.fr)]
  left
  obtain ⟨cap, h1, h2, h3⟩ := call_args ho (fun y _ => zc8 hs.fr y) hf
  rw [ha] at h2 h3
  unfold Oper.wp
  rw [call_enter ho a.eval h1 hp.ent G.w, Oper.upon_enter]
  refine (hp.call G _ hs.rel h2 h3).mono ?_
  rintro ex w' ⟨z, n', G', rfl, rfl, hk, hr', c1, c2, c3⟩
  rw [hd]
  have hfr : FOk G' a F := fr_keep hF hs.fr hk
  exact zct (fun e' a w q => liftK_mono hk (fun _ _ _ x => x) q) _ _ _ (k z n' c1 c2 c3 G' _ (S8.put ⟨hr', hfr, hs.df, hs.nt⟩ (by simpa [Nat.blt_eq] using hN) (.s _)))
theorem ops_cnt (hd : o.dst = some d) (hN : Nat.blt d N = true) (hr : Runs ops F o true) (ho : o.op = .call { callee := .value fo, args := ar, argTypes := ts }) (hf : F.eval fo = .fn f []) (hp : CallC P f x e n) (ha : ar.toList.map F.eval ++ [] = [x, .ptr 0 1 0 0, eI e]) (hF : ∀ p ∈ F, Lo 1 p.2)
    (k : ∀ (z : Bool) (n' : Int), n' ≤ n → -1 ≤ n' → (z = true → 0 ≤ n') → AOps P N ops l ((d, eB z) :: F) [.row 1 [eI n']] Q) : AOps P N ops (o :: l) F [.row 1 [eI n]] Q := fun G a hs => by
  unfold wpList
  rw [if_pos (hr.wanted hs.fr)]
  left
  obtain ⟨cap, h1, h2, h3⟩ := call_args ho (fun y _ => zc8 hs.fr y) hf
  rw [ha] at h2 h3
  unfold Oper.wp
  rw [call_enter ho a.eval h1 hp.ent G.w, Oper.upon_enter]
  refine (hp.call G _ hs.rel h2 h3).mono ?_
  rintro ex w' ⟨z, n', G', rfl, rfl, hk, hr', c1, c2, c3⟩
  rw [hd]
  have hfr : FOk G' a F := fr_keep hF hs.fr hk
  exact zct (fun e' a w q => lift_mono hk.step (fun _ _ _ x => x) q) _ _ _ (k z n' c1 c2 c3 G' _ (S8.put ⟨hr', hfr, hs.df, hs.nt⟩ (by simpa [Nat.blt_eq] using hN) (.s _)))
end
end
theorem lo_01 {x : AV} (h : Lo 0 x) : Lo 1 x := by
  induction h with
  | any => exact .any
  | s v => exact .s v
  | agg cs _ ih => exact .agg cs ih
  | emp => exact .emp
  | sl l _ ih => exact .sl l ih
  | ref cs _ ih => exact .ref cs ih
  | own id sz n h => omega
  | ptr id sz i j h => omega
  | fn f cs _ ih => exact .fn f cs ih
  | tup l _ ih => exact .tup l ih
  | mp id h => omega
  | sub id sz o n h => omega
theorem hF_nil : ∀ p ∈ ([] : Frm), Lo 1 p.2 := by simp
theorem hF_cons {d : Nat} {x : AV} {F : Frm} (h : Lo 1 x) (t : ∀ p ∈ F, Lo 1 p.2) : ∀ p ∈ (d, x) :: F, Lo 1 p.2 := fun p hp => by
  rcases List.mem_cons.1 hp with rfl | hp
  · exact h
  · exact t p hp
/-- how such a call ends -/
def PostC (t : Nat) (n : Int) : Exit → Frm → List Ob → Prop := fun e F σ => (e = .normal ∨ e = .ret) ∧ ∃ (z : Bool) (n' : Int) (X : List Ob), F.get t = eB z ∧ σ = .row 1 [eI n'] :: X ∧ n' ≤ n ∧ -1 ≤ n' ∧ (z = true → 0 ≤ n')
theorem callC_fn {P : Program} {f : FuncId} {x : AV} {e0 n : Int} {fn : Func} {c : Code} {t : Nat} (hf : P.funcs[f]? = some fn) (hname : (fn.name == "runtime.NumGoroutine") = false) (hb : fn.body = some c) (hn : 3 ≤ fn.ntmps) (hres : fn.results.toList = [.tmp t])
    (h : KWp P fn.ntmps c (argF 0 [x, .ptr 0 1 0 0, eI e0]) [.row 1 [eI n]] (PostC t n)) : CallC P f x e0 n := by
  refine ⟨enters_of hf hname hb, fun G vargs hrel hsz hrep => ?_⟩
  refine calls_of_wp hf hb ?_
  have hfo : FOk G { tmps := vargs ++ Array.replicate (fn.ntmps - vargs.size) undef, defers := [] } (argF 0 [x, .ptr 0 1 0 0, eI e0]) := by
    intro d
    rw [argF_get]
    simp only [Nat.zero_le, if_true, Nat.sub_zero]
    by_cases hd : d < [x, AV.ptr 0 1 0 0, eI e0].length
    · have hd3 : d < 3 := hd
      have h1 : (vargs ++ Array.replicate (fn.ntmps - vargs.size) undef).getD d undef = vargs[d]'(by omega) := by
        rw [Array.getD_eq_getD_getElem?, Array.getElem?_append_left (by omega)]
        simp [show d < vargs.size by omega]
      rw [h1]
      have h2 : [x, AV.ptr 0 1 0 0, eI e0].getD d .any = [x, AV.ptr 0 1 0 0, eI e0][d] := by rw [List.getD_eq_getElem?_getD, List.getElem?_eq_getElem hd]; rfl
      rw [h2]
      exact hrep d _ _ (by simp [show d < vargs.size by omega]) (by simp [hd])
    · have h2 : [x, AV.ptr 0 1 0 0, eI e0].getD d .any = .any := by
        rw [List.getD_eq_getElem?_getD, List.getElem?_eq_none (by omega)]; rfl
      rw [h2]; exact .any _
  have hs8 : S8 fn.ntmps G { tmps := vargs ++ Array.replicate (fn.ntmps - vargs.size) undef, defers := [] } (argF 0 [x, .ptr 0 1 0 0, eI e0]) [.row 1 [eI n]] := ⟨hrel, hfo, rfl, by simp; omega⟩
  refine Code.wp_mono (fun e a w q => ?_) (h G _ hs8)
  obtain ⟨G', F', σ1, rfl, h2, h3, he, z, n', X, hz, rfl, c1, c2, c3⟩ := q
  have hrl : ResL P F' (.row 1 [eI n'] :: X) fn.results.toList [eB z] := by rw [hres]; exact .cons _ _ _ _ (.tmp _ _ hz) .nil
  obtain ⟨v, h6, h7⟩ := results_run (fn := fn) h3.rel h3.fr hrl
  have hv : v = .bool z := rep_s h7
  subst hv
  have hr2 : Rel (G'.ren [0]) [.row 1 [eI n']] := ren_rel h3.rel (by simp) (stRn_of [0] _ (⟨⟨_, rfl, .rowE (by intro e he c hc; simp at he; subst he; simp [eI, AV.cells] at hc; subst hc; exact .s _) rfl⟩, trivial⟩ : StL [0] (.row 1 [eI n'] :: X) [0] [.row 1 [eI n']]))
  have hk2 : KE G' (G'.ren [0]) := ⟨⟨rfl, rfl, fun _ _ h => h, fun _ _ _ => rfl, fun _ _ h => .inl h⟩, fun y hy => by simp [Cx.ren, hy], zc2.refl _⟩
  have post : ∃ (z' : Bool) (n'' : Int) (G'' : Cx), Ending.returned (.bool z) = .returned (.bool z') ∧ G''.w = G'.w ∧ KE G G'' ∧ Rel G'' [.row 1 [eI n'']] ∧ n'' ≤ n ∧ -1 ≤ n'' ∧ (z' = true → 0 ≤ n'') := ⟨z, n', G'.ren [0], rfl, rfl, h2.trans hk2, hr2, c1, c2, c3⟩
  rcases he with rfl | rfl
  · exact ⟨h3.df, _, h6, post⟩
  · exact ⟨h3.df, _, h6, post⟩
theorem kw_bdm {α : Type} {P : Program} {N : Nat} {F : Frm} {σ : List Ob} {Q : Exit → Frm → List Ob → Prop} {c : Code} {d : Nat} {g : α → AV} {l : List α} (hd : F.get d = eL g l) (h : l.length ≤ maxLen → KWp P N c F σ Q) : KWp P N c F σ Q := fun G a hs => by
  have h1 : Rep G (a.tmps.getD d undef) (.sl (l.map g)) := by
    have := hs.fr d
    rw [hd] at this
    exact this
  have h2 := rep_len h1
  rw [List.length_map] at h2
  exact h h2 G a hs
end Go.Proofs.YtmoipmnhgdmkpaaGreat.Aw
end
section
namespace Go.Proofs.YtmoipmnhgdmkpaaGreat.Aw
set_option linter.unusedSimpArgs false
set_option linter.unusedVariables false
set_option linter.unusedSectionVars false
open Go.RowKit Go.Proofs
variable {P : Program} [IsP P]

set_option maxHeartbeats 2000000 in
theorem size_n : ∀ (m : Nat) (b : Br) (d n : Int), SizeOf.sizeOf b < m → 0 ≤ d → d ≤ 301 → 0 ≤ n → n ≤ 2000 → CallC P 6 (eBr b) d n := by
  intro m
  induction m
  · intro b d n h; omega
  rename_i m IH0
  intro b d n hsz hd1 hd2 hn1 hn2
  obtain ⟨s, t, L, y⟩ := b
  have IH : ∀ b', b' ∈ L → ∀ (d n : Int), 0 ≤ d → d ≤ 301 → 0 ≤ n → n ≤ 2000 → CallC P 6 (eBr b') d n := fun b' hb' d n h1 h2 h3 h4 => IH0 b' d n (by have := List.sizeOf_lt_of_mem hb'; simp at hsz; omega) h1 h2 h3 h4
  clear IH0 hsz
  have hloL : Lo 0 (eL eBr L) := zak lo_Br
  rw [eBr_mk]
  refine callC_fn (t := 6) (by rw [IsP.eq (P := P)]; exact Tryz.func6) rfl rfl (Nat.le_of_ble_eq_true rfl) rfl ?_
  simp only [argF]
  all_goals (repeat (first | refine kw_seq ?_ | refine zar ?_ | refine kw_skip ?_ | refine zas ?_ | refine zdf ?_))
  all_goals refine kw_region ?_
  all_goals refine zbt rfl rfl (zaa rfl) (zcv rfl rfl rfl rfl) ?_
  all_goals refine zbt rfl rfl (zaa rfl) (mv_s (.inr rfl) rfl) ?_
  all_goals refine kops_nil ?_
  all_goals (repeat (first | refine kw_seq ?_ | refine zar ?_ | refine kw_skip ?_ | refine zas ?_ | refine zdf ?_))
  all_goals refine kw_region ?_
  all_goals (first | refine zbt rfl rfl (zaa rfl) (mv_ptr (.inl rfl) rfl) ?_ | refine zbt rfl rfl (zaa rfl) (mv_ref (.inl rfl) rfl) ?_ | refine zbt rfl rfl (zaa rfl) (mv_s (.inl rfl) rfl) ?_)
  all_goals (first | refine zbt rfl rfl (zaa rfl) (does_nil_ptr rfl rfl) ?_ | refine zbt rfl rfl (zaa rfl) (does_nil_ref rfl rfl) ?_ | refine zbt rfl rfl (zaa rfl) (does_nil_fn rfl rfl) ?_)
  all_goals (first | refine zbt rfl rfl (zaa rfl) (zam rfl ta3 rfl) ?_ | refine zbt rfl rfl (zaa rfl) (zap rfl ta3 rfl rfl rfl rfl rfl) ?_)
  all_goals refine zbt rfl rfl (zaa rfl) (does_sub rfl rfl rfl (IntWalk.i64_in _ (by omega))) ?_
  all_goals (first | refine zbt rfl rfl (zaa rfl) (does_nil_ptr rfl rfl) ?_ | refine zbt rfl rfl (zaa rfl) (does_nil_ref rfl rfl) ?_ | refine zbt rfl rfl (zaa rfl) (does_nil_fn rfl rfl) ?_)
  all_goals refine kops_eff rfl (zaa rfl) (zbd rfl ti3 rfl rfl rfl rfl rfl rfl (by decide) (by decide)) ?_
  all_goals refine kops_nil ?_
  all_goals (repeat (first | refine kw_seq ?_ | refine zar ?_ | refine kw_skip ?_ | refine zas ?_ | refine zdf ?_))
  all_goals refine kw_region ?_
  all_goals (first | refine zbt rfl rfl (zaa rfl) (mv_ptr (.inl rfl) rfl) ?_ | refine zbt rfl rfl (zaa rfl) (mv_ref (.inl rfl) rfl) ?_ | refine zbt rfl rfl (zaa rfl) (mv_s (.inl rfl) rfl) ?_)
  all_goals (first | refine zbt rfl rfl (zaa rfl) (does_nil_ptr rfl rfl) ?_ | refine zbt rfl rfl (zaa rfl) (does_nil_ref rfl rfl) ?_ | refine zbt rfl rfl (zaa rfl) (does_nil_fn rfl rfl) ?_)
  all_goals (first | refine zbt rfl rfl (zaa rfl) (zam rfl ta3 rfl) ?_ | refine zbt rfl rfl (zaa rfl) (zap rfl ta3 rfl rfl rfl rfl rfl) ?_)
  all_goals (first | refine kops_opP rfl rfl (zaa rfl) (zbb rfl rfl rfl) (fun h17 => ?_) (fun h17 => ?_) | refine kops_opB rfl rfl (zaa rfl) (zbb rfl rfl rfl) (fun h17 => ?_) (fun h17 => ?_))
  all_goals refine zbt rfl rfl (zaa rfl) (mv_s (.inl rfl) rfl) ?_
  all_goals (first | refine zbt rfl rfl (zah rfl rfl rfl) (mv_s (.inl rfl) rfl) ?_ | refine kops_skip rfl rfl (zax rfl rfl rfl) ?_ | refine kops_skip rfl rfl (zav rfl rfl rfl) ?_)
  all_goals (first | refine kops_opP rfl rfl (zah rfl rfl rfl) (zbw rfl rfl rfl) (fun h20 => ?_) (fun h20 => ?_) | refine kops_opB rfl rfl (zah rfl rfl rfl) (zbw rfl rfl rfl) (fun h20 => ?_) (fun h20 => ?_) | refine kops_skip rfl rfl (zax rfl rfl rfl) ?_ | refine kops_skip rfl rfl (zav rfl rfl rfl) ?_)
  all_goals (first | refine zbt rfl rfl (zaa rfl) (zbx rfl rfl rfl) ?_ | refine zbt rfl rfl (zaa rfl) (zby rfl rfl rfl) ?_ | refine zbt rfl rfl (zaa rfl) (zbk rfl rfl rfl) ?_ | refine zbt rfl rfl (zaa rfl) (zbl rfl rfl rfl) ?_)
  all_goals refine zbt rfl rfl (zaa rfl) (mv_s (.inl rfl) rfl) ?_
  all_goals (first | refine zbt rfl rfl (zah rfl rfl rfl) (zal rfl tf29_3 (by decide) rfl) ?_ | refine zbt rfl rfl (zah rfl rfl rfl) (zai rfl tf29_3 (by decide) rfl) ?_ | refine kops_skip rfl rfl (zax rfl rfl rfl) ?_ | refine kops_skip rfl rfl (zav rfl rfl rfl) ?_)
  all_goals (first | refine zbt rfl rfl (zah rfl rfl rfl) (zam rfl ta27 rfl) ?_ | refine zbt rfl rfl (zah rfl rfl rfl) (zap rfl ta27 rfl rfl rfl rfl rfl) ?_ | refine kops_skip rfl rfl (zax rfl rfl rfl) ?_ | refine kops_skip rfl rfl (zav rfl rfl rfl) ?_)
  all_goals (first | refine zbt rfl rfl (zah rfl rfl rfl) (za4 rfl ts27 rfl) ?_ | refine zbt rfl rfl (zah rfl rfl rfl) (za8 rfl ts27 rfl) ?_ | refine zbt rfl rfl (zah rfl rfl rfl) (za2 rfl ts27 rfl) ?_ | refine zbt rfl rfl (zah rfl rfl rfl) (zbc rfl ts27 rfl) ?_ | refine zbt rfl rfl (zah rfl rfl rfl) (za3 rfl ts27 rfl) ?_ | refine kops_skip rfl rfl (zax rfl rfl rfl) ?_ | refine kops_skip rfl rfl (zav rfl rfl rfl) ?_)
  all_goals (first | refine kops_opP rfl rfl (zah rfl rfl rfl) (zbw rfl rfl rfl) (fun h26 => ?_) (fun h26 => ?_) | refine kops_opB rfl rfl (zah rfl rfl rfl) (zbw rfl rfl rfl) (fun h26 => ?_) (fun h26 => ?_) | refine kops_skip rfl rfl (zax rfl rfl rfl) ?_ | refine kops_skip rfl rfl (zav rfl rfl rfl) ?_)
  all_goals (first | refine zbt rfl rfl (zaa rfl) (zbx rfl rfl rfl) ?_ | refine zbt rfl rfl (zaa rfl) (zby rfl rfl rfl) ?_ | refine zbt rfl rfl (zaa rfl) (zbk rfl rfl rfl) ?_ | refine zbt rfl rfl (zaa rfl) (zbl rfl rfl rfl) ?_)
  all_goals refine kops_nil ?_
  all_goals (repeat (first | refine kw_seq ?_ | refine zar ?_ | refine kw_skip ?_ | refine zas ?_ | refine zdf ?_))
  all_goals (first | refine kw_true rfl ?_ | refine kw_false rfl ?_)
  all_goals (repeat (first | refine kw_seq ?_ | refine zar ?_ | refine kw_skip ?_ | refine zas ?_ | refine zdf ?_))
  all_goals first
    | skip
      all_goals refine kw_region ?_
      all_goals refine zbt rfl rfl (zaa rfl) (mv_s (.inr rfl) rfl) ?_
      all_goals refine kops_nil ?_
      all_goals (repeat (first | refine kw_seq ?_ | refine zar ?_ | refine kw_skip ?_ | refine zas ?_ | refine zdf ?_))
      refine kw_ret ?_
      exact ⟨.inr rfl, false, n - 1, _, rfl, rfl, by omega, by omega, by simp⟩
    | skip
  all_goals refine kw_region ?_
  all_goals (first | refine zbt rfl rfl (zaa rfl) (zal rfl tf29_2 (by decide) rfl) ?_ | refine zbt rfl rfl (zaa rfl) (zai rfl tf29_2 (by decide) rfl) ?_)
  all_goals (first | refine zbt rfl rfl (zaa rfl) (zam rfl ta26 rfl) ?_ | refine zbt rfl rfl (zaa rfl) (zap rfl ta26 rfl rfl rfl rfl rfl) ?_)
  all_goals (first | refine zbt rfl rfl (zaa rfl) (za4 rfl ts26 rfl) ?_ | refine zbt rfl rfl (zaa rfl) (za8 rfl ts26 rfl) ?_ | refine zbt rfl rfl (zaa rfl) (za2 rfl ts26 rfl) ?_ | refine zbt rfl rfl (zaa rfl) (zbc rfl ts26 rfl) ?_ | refine zbt rfl rfl (zaa rfl) (za3 rfl ts26 rfl) ?_)
  all_goals refine zbt rfl rfl (zaa rfl) (mv_s (.inl rfl) rfl) ?_
  all_goals refine kops_nil ?_
  all_goals (repeat (first | refine kw_seq ?_ | refine zar ?_ | refine kw_skip ?_ | refine zas ?_ | refine zdf ?_))
  refine kw_bdm (d := 29) (g := eBr) rfl (fun hm1 => ?_)
  unfold maxLen at hm1
  refine kw_loops (S := Nat × Int) (fun s => [(1, .ptr 0 1 0 0), (2, eI d), (29, eL eBr L), (30, eI L.length), (31, eI s.1)]) (fun s => [.row 1 [eI s.2]]) (fun s => s.1 ≤ L.length ∧ 0 ≤ s.2 ∧ s.2 ≤ n - 1) (fun s => L.length - s.1) (0, n - 1) (kwk_st [0] rfl (by decide) ⟨⟨_, rfl, .rowE (by repeat' (first | exact Lo.s _ | exact zaj | exact zbn | refine zae ?_ ?_ | refine zbe ?_ ?_ | refine zak ?_ | refine zbo ?_ | refine Lo.cells ?_ | refine Lo.agg _ ?_ | refine Lo.sl _ ?_ | intro _)) rfl⟩, trivial⟩ ⟨.ptr 0 0 1 0 0 rfl, .lo _ (.s _), .lo _ hloL, .lo _ (.s _), .lo _ (.s _), trivial⟩) ⟨Nat.zero_le _, by dsimp only; omega, by dsimp only; omega⟩ (fun s hs => ?_)
  obtain ⟨k, n1⟩ := s
  obtain ⟨hk, hn3, hn4⟩ := hs
  dsimp only at hk hn3 hn4 ⊢
  all_goals (repeat (first | refine kw_seq ?_ | refine zar ?_ | refine kw_skip ?_ | refine zas ?_ | refine zdf ?_))
  all_goals refine kw_region ?_
  all_goals (first | refine kops_opP rfl rfl (zaa rfl) (zbb rfl rfl rfl) (fun h32 => ?_) (fun h32 => ?_) | refine kops_opB rfl rfl (zaa rfl) (zbb rfl rfl rfl) (fun h32 => ?_) (fun h32 => ?_))
  all_goals refine kops_nil ?_
  all_goals (repeat (first | refine kw_seq ?_ | refine zar ?_ | refine kw_skip ?_ | refine zas ?_ | refine zdf ?_))
  all_goals (first | refine kw_true rfl ?_ | refine kw_false rfl ?_)
  all_goals (repeat (first | refine kw_seq ?_ | refine zar ?_ | refine kw_skip ?_ | refine zas ?_ | refine zdf ?_))
  · have hlt : k < L.length := by omega
    have hmem : gti L k ∈ L := gti_mem hlt
    have hc := IH (gti L k) hmem (d + 1) n1 (by omega) (by omega) (by omega) (by omega)
    have hix : (L.map eBr)[k]? = some (eBr (gti L k)) := zb5 hlt
    obtain ⟨⟨sx, tx, Lx, yx⟩, hx⟩ : ∃ x, gti L k = x := ⟨_, rfl⟩
    rw [hx] at hc hix
    have hlx := lo_Br (.mk sx tx Lx yx)
    rw [eBr_mk] at hc hix hlx
    all_goals refine kw_region ?_
    all_goals (first | refine zbt rfl rfl (zaa rfl) (za1 rfl ts26 ti29 rfl rfl rfl hix rfl) ?_ | refine zbt rfl rfl (zaa rfl) (zay rfl ts26 ti29 rfl rfl rfl hix) ?_)
    all_goals (first | refine zbt rfl rfl (zaa rfl) (za0 rfl ta29 ti29 rfl rfl) ?_ | refine zbt rfl rfl (zaa rfl) (za9 rfl ta29 ti29 rfl rfl rfl rfl rfl) ?_ | refine zbt rfl rfl (zaa rfl) (zaz rfl ta29 ti29 rfl (Nat.le_of_ble_eq_true rfl)) ?_ | refine zbt rfl rfl (zaa rfl) (zba rfl ta29 ti29 rfl rfl rfl rfl (Nat.le_of_ble_eq_true rfl)) ?_)
    all_goals refine zbt rfl rfl (zaa rfl) (zbr rfl ti29 rfl rfl) ?_
    all_goals refine kops_eff rfl (zaa rfl) (zbd rfl ti29 rfl rfl rfl rfl rfl rfl (by decide) (by decide)) ?_
    all_goals refine kops_nil ?_
    all_goals (repeat (first | refine kw_seq ?_ | refine zar ?_ | refine kw_skip ?_ | refine zas ?_ | refine zdf ?_))
    all_goals refine kw_region ?_
    all_goals (first | refine zbt rfl rfl (zaa rfl) (za0 rfl ta29 ti29 rfl rfl) ?_ | refine zbt rfl rfl (zaa rfl) (za9 rfl ta29 ti29 rfl rfl rfl rfl rfl) ?_ | refine zbt rfl rfl (zaa rfl) (zaz rfl ta29 ti29 rfl (Nat.le_of_ble_eq_true rfl)) ?_ | refine zbt rfl rfl (zaa rfl) (zba rfl ta29 ti29 rfl rfl rfl rfl (Nat.le_of_ble_eq_true rfl)) ?_)
    all_goals (first | refine zbt rfl rfl (zaa rfl) (mv_ptr (.inl rfl) rfl) ?_ | refine zbt rfl rfl (zaa rfl) (mv_ref (.inl rfl) rfl) ?_ | refine zbt rfl rfl (zaa rfl) (mv_s (.inl rfl) rfl) ?_)
    all_goals refine zbt rfl rfl (zaa rfl) (mv_s (.inl rfl) rfl) ?_
    all_goals refine zbt rfl rfl (zaa rfl) (zb2 rfl rfl rfl (IntWalk.i64_in _ (by omega))) ?_
    all_goals (refine kops_weak (F' := [(1, .ptr 0 1 0 0), (2, eI d), (29, eL eBr L), (30, eI L.length), (31, eI k), (35, .agg [eI sx, eI tx, eL eBr Lx, eL eF yx]), (36, .ptr 0 1 0 0), (38, eI (d + 1))]) (σ' := [.row 1 [eI n1]]) (kwk_st [0] rfl (by decide) ⟨⟨_, rfl, .rowE (by repeat' (first | exact Lo.s _ | exact zaj | exact zbn | refine zae ?_ ?_ | refine zbe ?_ ?_ | refine zak ?_ | refine zbo ?_ | refine Lo.cells ?_ | refine Lo.agg _ ?_ | refine Lo.sl _ ?_ | intro _)) rfl⟩, trivial⟩ ⟨.ptr 0 0 1 0 0 rfl, .lo _ (.s _), .lo _ hloL, .lo _ (.s _), .lo _ (.s _), .lo _ hlx, .ptr 0 0 1 0 0 rfl, .lo _ (.s _), trivial⟩) (kops_cnt rfl rfl (zaa rfl) rfl rfl hc rfl (hF_cons (.ptr _ _ _ _ (by decide)) (hF_cons (.s _) (hF_cons (lo_01 hloL) (hF_cons (.s _) (hF_cons (.s _) (hF_cons (lo_01 hlx) (hF_cons (.ptr _ _ _ _ (by decide)) (hF_cons (.s _) hF_nil)))))))) (fun z n' c1 c2 c3 => ?_)); cases z)
    all_goals (first | refine zbt rfl rfl (zaa rfl) (zcf rfl rfl) ?_ | refine zbt rfl rfl (zaa rfl) (zcj rfl rfl) ?_)
    all_goals refine kops_nil ?_
    all_goals (repeat (first | refine kw_seq ?_ | refine zar ?_ | refine kw_skip ?_ | refine zas ?_ | refine zdf ?_))
    all_goals (first | refine kw_true rfl ?_ | refine kw_false rfl ?_)
    all_goals (repeat (first | refine kw_seq ?_ | refine zar ?_ | refine kw_skip ?_ | refine zas ?_ | refine zdf ?_))
    · skip
      all_goals refine kw_region ?_
      all_goals refine zbt rfl rfl (zaa rfl) (mv_s (.inr rfl) rfl) ?_
      all_goals refine kops_nil ?_
      all_goals (repeat (first | refine kw_seq ?_ | refine zar ?_ | refine kw_skip ?_ | refine zas ?_ | refine zdf ?_))
      refine kw_ret ?_
      exact ⟨.inr rfl, false, n', _, rfl, rfl, by omega, by omega, by simp⟩
    · have c4 := c3 rfl
      all_goals refine kw_region ?_
      all_goals refine zbt rfl rfl (zaa rfl) (zb2 rfl rfl rfl (IntWalk.i64_in _ (by omega))) ?_
      all_goals refine zbt rfl rfl (zaa rfl) (mv_s (.inl rfl) rfl) ?_
      all_goals refine kops_nil ?_
      all_goals (repeat (first | refine kw_seq ?_ | refine zar ?_ | refine kw_skip ?_ | refine zas ?_ | refine zdf ?_))
      exact ⟨(k + 1, n'), ⟨by dsimp only; omega, by dsimp only; omega, by dsimp only; omega⟩, by dsimp only; omega, kwk_st [0] rfl (by decide) ⟨⟨_, rfl, .rowE (by repeat' (first | exact Lo.s _ | exact zaj | exact zbn | refine zae ?_ ?_ | refine zbe ?_ ?_ | refine zak ?_ | refine zbo ?_ | refine Lo.cells ?_ | refine Lo.agg _ ?_ | refine Lo.sl _ ?_ | intro _)) rfl⟩, trivial⟩ ⟨.ptr 0 0 1 0 0 rfl, .lo _ (.s _), .lo _ hloL, .lo _ (.s _), .lo _ (.s _), trivial⟩⟩
  · refine kw_exit ?_
    repeat (first | refine ath_x ?_ | refine zci ?_ | refine zcb rfl ?_ | refine zas ?_ | refine zar ?_)
    all_goals (repeat (first | refine kw_seq ?_ | refine zar ?_ | refine kw_skip ?_ | refine zas ?_ | refine zdf ?_))
    all_goals refine kw_region ?_
    all_goals refine zbt rfl rfl (zaa rfl) (mv_s (.inr rfl) rfl) ?_
    all_goals refine kops_nil ?_
    all_goals (repeat (first | refine kw_seq ?_ | refine zar ?_ | refine kw_skip ?_ | refine zas ?_ | refine zdf ?_))
    refine kw_ret ?_
    exact ⟨.inr rfl, true, n1, _, rfl, rfl, by omega, by omega, fun _ => hn3⟩
theorem size_pf (b : Br) (d n : Int) (h1 : 0 ≤ d) (h2 : d ≤ 301) (h3 : 0 ≤ n) (h4 : n ≤ 2000) : CallC P 6 (eBr b) d n := size_n (SizeOf.sizeOf b + 1) b d n (Nat.lt_succ_self _) h1 h2 h3 h4
end Go.Proofs.YtmoipmnhgdmkpaaGreat.Aw
end
section
namespace Go.Proofs.YtmoipmnhgdmkpaaGreat.Aw
set_option linter.unusedSimpArgs false
set_option linter.unusedVariables false
set_option linter.unusedSectionVars false
open Go.RowKit Go.Proofs
variable {P : Program} [IsP P]

set_option maxHeartbeats 4000000 in
theorem lawChecks_pf (h1 : Pure P 4 [] (eB true)) (d : List Int) (l : List Sft) (p : Pln) (b : Br) : Pure P 3 [eL eI d, eL eSh l, ePl p, eBr b] (eB true) := by
  have h2 := few_pf (P := P) d l
  have h5 := check_pf (P := P) d l p b
  have h7 := rcheck_pf (P := P) d l p b
  have h6 := size_pf (P := P) b 0 2000 (by omega) (by omega) (by omega) (by omega)
  generalize fewB d l = y at h2
  generalize chkE d l p b = ck at h5 h7
  have hlb := lo_Br b
  obtain ⟨s, t, L, yb⟩ := b
  rw [eBr_mk] at h5 h6 h7 hlb ⊢
  refine zc4 (by rw [IsP.eq (P := P)]; exact Tryz.func3) rfl rfl rfl rfl rfl (zae (by repeat' (first | exact Lo.s _ | exact zaj | refine zae ?_ ?_ | refine zak ?_ | refine Lo.cells ?_ | refine Lo.agg _ ?_ | refine Lo.ref _ ?_ | refine Lo.tup _ ?_ | refine Lo.fn _ _ ?_ | refine Lo.sl _ ?_ | intro _)) (zae (zak lo_Sh) (zae (by repeat' (first | exact Lo.s _ | exact zaj | refine zae ?_ ?_ | refine zak ?_ | refine Lo.cells ?_ | refine Lo.agg _ ?_ | refine Lo.ref _ ?_ | refine Lo.tup _ ?_ | refine Lo.fn _ _ ?_ | refine Lo.sl _ ?_ | intro _)) (zae hlb zaj)))) (.s _) (by simp only [argF]; rfl) ?_
  repeat (first | refine zag ?_ | refine zar ?_ | refine zad ?_ | refine zas ?_ | refine zac ?_)
  refine zaf ?_
  refine zab rfl rfl (zaa rfl) (zcv rfl rfl rfl rfl) ?_
  refine zbq (zcd (id := 0) rfl) (zbq (zcy (d := 6) rfl rfl rfl) ?_)
  refine zab rfl rfl (zaa rfl) (zcv rfl rfl rfl rfl) ?_
  refine zbq (zcd (id := 1) rfl) (zbq (zcy (d := 7) rfl rfl rfl) ?_)
  refine zab rfl rfl (zaa rfl) (mv_s (.inr rfl) rfl) ?_
  refine zan ?_
  repeat (first | refine zag ?_ | refine zar ?_ | refine zad ?_ | refine zas ?_ | refine zac ?_)
  refine zaf ?_
  refine zab rfl rfl (zaa rfl) (za5 rfl rfl (h1) zbj) ?_
  first | refine zab rfl rfl (zaa rfl) (zcf rfl rfl) ?_ | refine zab rfl rfl (zaa rfl) (zcj rfl rfl) ?_
  refine zan ?_
  repeat (first | refine zag ?_ | refine zar ?_ | refine zad ?_ | refine zas ?_ | refine zac ?_)
  refine zbm rfl ?_
  repeat (first | refine zag ?_ | refine zar ?_ | refine zad ?_ | refine zas ?_ | refine zac ?_)
  refine zaf ?_
  refine zab rfl rfl (zaa rfl) (zbr rfl ti3 rfl rfl) ?_
  refine zb0 rfl (zaa rfl) (zbd rfl ti3 rfl rfl rfl rfl rfl rfl (by decide) (by decide)) ?_
  refine zan ?_
  repeat (first | refine zag ?_ | refine zar ?_ | refine zad ?_ | refine zas ?_ | refine zac ?_)
  refine zca (F' := [(0, eL eI d), (1, eL eSh l), (6, .ref (ePl p).cells), (7, .ref [eI s, eI t, eL eBr L, eL eF yb]), (9, .ptr 0 1 0 0)]) (σ' := [.row 1 [eI 2000]]) (zck [2] (by decide) ⟨⟨_, rfl, .rowE (by repeat' (first | exact Lo.s _ | exact zaj | exact zbn | refine zae ?_ ?_ | refine zbe ?_ ?_ | refine zak ?_ | refine zbo ?_ | refine Lo.cells ?_ | refine Lo.agg _ ?_ | refine Lo.sl _ ?_ | intro _)) rfl⟩, trivial⟩ ⟨.lo _ (by repeat' (first | exact Lo.s _ | exact zaj | refine zae ?_ ?_ | refine zak ?_ | refine Lo.cells ?_ | refine Lo.agg _ ?_ | refine Lo.ref _ ?_ | refine Lo.tup _ ?_ | refine Lo.fn _ _ ?_ | refine Lo.sl _ ?_ | intro _)), .lo _ (zak lo_Sh), .lo _ (by repeat' (first | exact Lo.s _ | exact zaj | refine zae ?_ ?_ | refine zak ?_ | refine Lo.cells ?_ | refine Lo.agg _ ?_ | refine Lo.ref _ ?_ | refine Lo.tup _ ?_ | refine Lo.fn _ _ ?_ | refine Lo.sl _ ?_ | intro _)), .lo _ (.ref _ hlb.cells), .ptr 2 0 1 0 0 rfl, trivial⟩) ?_
  all_goals refine zaf ?_
  all_goals (first | refine zab rfl rfl (zaa rfl) (za6 (.inl rfl) rfl) ?_ | refine zab rfl rfl (zaa rfl) (zbg (.inl rfl) rfl) ?_ | refine zab rfl rfl (zaa rfl) (mv_s (.inl rfl) rfl) ?_ | refine zab rfl rfl (zaa rfl) (za7 (.inl rfl) rfl) ?_)
  all_goals (first | refine zab rfl rfl (zaa rfl) (za6 (.inl rfl) rfl) ?_ | refine zab rfl rfl (zaa rfl) (zbg (.inl rfl) rfl) ?_ | refine zab rfl rfl (zaa rfl) (mv_s (.inl rfl) rfl) ?_ | refine zab rfl rfl (zaa rfl) (za7 (.inl rfl) rfl) ?_)
  all_goals (first | refine zbh rfl rfl (zaa rfl) (za5 rfl rfl (h2) (zau rfl (zau rfl zbj))) (fun h14 => ?_) (fun h14 => ?_) | refine zbi rfl rfl (zaa rfl) (za5 rfl rfl (h2) (zau rfl (zau rfl zbj))) (fun h14 => ?_) (fun h14 => ?_))
  all_goals (first | refine zab rfl rfl (zaa rfl) (zcf rfl rfl) ?_ | refine zab rfl rfl (zaa rfl) (zcj rfl rfl) ?_)
  all_goals refine zab rfl rfl (zaa rfl) (mv_s (.inl rfl) rfl) ?_
  all_goals (first | refine zab rfl rfl (zah rfl rfl rfl) (zal rfl tf25_0 (by decide) rfl) ?_ | refine zab rfl rfl (zah rfl rfl rfl) (zai rfl tf25_0 (by decide) rfl) ?_ | refine zaq rfl rfl (zax rfl rfl rfl) ?_ | refine zaq rfl rfl (zav rfl rfl rfl) ?_)
  all_goals (first | refine zab rfl rfl (zah rfl rfl rfl) (zam rfl ta22 rfl) ?_ | refine zab rfl rfl (zah rfl rfl rfl) (zap rfl ta22 rfl rfl rfl rfl rfl) ?_ | refine zaq rfl rfl (zax rfl rfl rfl) ?_ | refine zaq rfl rfl (zav rfl rfl rfl) ?_)
  all_goals (first | refine zab rfl rfl (zah rfl rfl rfl) (za4 rfl ts22 rfl) ?_ | refine zab rfl rfl (zah rfl rfl rfl) (za8 rfl ts22 rfl) ?_ | refine zab rfl rfl (zah rfl rfl rfl) (za2 rfl ts22 rfl) ?_ | refine zab rfl rfl (zah rfl rfl rfl) (zbc rfl ts22 rfl) ?_ | refine zab rfl rfl (zah rfl rfl rfl) (za3 rfl ts22 rfl) ?_ | refine zaq rfl rfl (zax rfl rfl rfl) ?_ | refine zaq rfl rfl (zav rfl rfl rfl) ?_)
  all_goals (first | refine zbh rfl rfl (zah rfl rfl rfl) (zbw rfl rfl rfl) (fun h20 => ?_) (fun h20 => ?_) | refine zbi rfl rfl (zah rfl rfl rfl) (zbw rfl rfl rfl) (fun h20 => ?_) (fun h20 => ?_) | refine zaq rfl rfl (zax rfl rfl rfl) ?_ | refine zaq rfl rfl (zav rfl rfl rfl) ?_)
  all_goals (first | refine zab rfl rfl (zaa rfl) (zbx rfl rfl rfl) ?_ | refine zab rfl rfl (zaa rfl) (zby rfl rfl rfl) ?_ | refine zab rfl rfl (zaa rfl) (zbk rfl rfl rfl) ?_ | refine zab rfl rfl (zaa rfl) (zbl rfl rfl rfl) ?_)
  all_goals refine zab rfl rfl (zaa rfl) (mv_s (.inl rfl) rfl) ?_
  all_goals (first | refine zab rfl rfl (zah rfl rfl rfl) (za0 rfl ta29 ti29 rfl rfl) ?_ | refine zab rfl rfl (zah rfl rfl rfl) (za9 rfl ta29 ti29 rfl rfl rfl rfl rfl) ?_ | refine zab rfl rfl (zah rfl rfl rfl) (zaz rfl ta29 ti29 rfl (Nat.le_of_ble_eq_true rfl)) ?_ | refine zab rfl rfl (zah rfl rfl rfl) (zba rfl ta29 ti29 rfl rfl rfl rfl (Nat.le_of_ble_eq_true rfl)) ?_ | refine zaq rfl rfl (zax rfl rfl rfl) ?_ | refine zaq rfl rfl (zav rfl rfl rfl) ?_)
  all_goals (first | (refine zbq (F' := [(0, eL eI d), (1, eL eSh l), (6, .ref (ePl p).cells), (7, .ref [eI s, eI t, eL eBr L, eL eF yb]), (9, .ptr 0 1 0 0), (22, eB false), (23, .agg [eI s, eI t, eL eBr L, eL eF yb])]) (σ' := [.row 1 [eI 2000]]) (zck [0] (by decide) ⟨⟨_, rfl, .rowE (by repeat' (first | exact Lo.s _ | exact zaj | exact zbn | refine zae ?_ ?_ | refine zbe ?_ ?_ | refine zak ?_ | refine zbo ?_ | refine Lo.cells ?_ | refine Lo.agg _ ?_ | refine Lo.sl _ ?_ | intro _)) rfl⟩, trivial⟩ ⟨.lo _ (by repeat' (first | exact Lo.s _ | exact zaj | refine zae ?_ ?_ | refine zak ?_ | refine Lo.cells ?_ | refine Lo.agg _ ?_ | refine Lo.ref _ ?_ | refine Lo.tup _ ?_ | refine Lo.fn _ _ ?_ | refine Lo.sl _ ?_ | intro _)), .lo _ (zak lo_Sh), .lo _ (by repeat' (first | exact Lo.s _ | exact zaj | refine zae ?_ ?_ | refine zak ?_ | refine Lo.cells ?_ | refine Lo.agg _ ?_ | refine Lo.ref _ ?_ | refine Lo.tup _ ?_ | refine Lo.fn _ _ ?_ | refine Lo.sl _ ?_ | intro _)), .lo _ (.ref _ hlb.cells), .ptr 0 0 1 0 0 rfl, .lo _ (.s _), .lo _ hlb, trivial⟩) (ops_cnt rfl rfl (zah rfl rfl rfl) rfl rfl h6 rfl (hF_cons (lo_01 (by repeat' (first | exact Lo.s _ | exact zaj | refine zae ?_ ?_ | refine zak ?_ | refine Lo.cells ?_ | refine Lo.agg _ ?_ | refine Lo.ref _ ?_ | refine Lo.tup _ ?_ | refine Lo.fn _ _ ?_ | refine Lo.sl _ ?_ | intro _))) (hF_cons (lo_01 (zak lo_Sh)) (hF_cons (lo_01 (by repeat' (first | exact Lo.s _ | exact zaj | refine zae ?_ ?_ | refine zak ?_ | refine Lo.cells ?_ | refine Lo.agg _ ?_ | refine Lo.ref _ ?_ | refine Lo.tup _ ?_ | refine Lo.fn _ _ ?_ | refine Lo.sl _ ?_ | intro _))) (hF_cons (lo_01 (.ref _ hlb.cells)) (hF_cons (.ptr _ _ _ _ (by decide)) (hF_cons (.s _) (hF_cons (lo_01 hlb) hF_nil))))))) (fun z n' c1 c2 c3 => ?_)); cases z) | refine zaq rfl rfl (zax rfl rfl rfl) ?_ | refine zaq rfl rfl (zav rfl rfl rfl) ?_)
  all_goals (first | refine zab rfl rfl (zah rfl rfl rfl) (zcf rfl rfl) ?_ | refine zab rfl rfl (zah rfl rfl rfl) (zcj rfl rfl) ?_ | refine zaq rfl rfl (zax rfl rfl rfl) ?_ | refine zaq rfl rfl (zav rfl rfl rfl) ?_)
  all_goals (first | refine zab rfl rfl (zaa rfl) (zbx rfl rfl rfl) ?_ | refine zab rfl rfl (zaa rfl) (zby rfl rfl rfl) ?_ | refine zab rfl rfl (zaa rfl) (zbk rfl rfl rfl) ?_ | refine zab rfl rfl (zaa rfl) (zbl rfl rfl rfl) ?_)
  all_goals refine zan ?_
  all_goals (repeat (first | refine zag ?_ | refine zar ?_ | refine zad ?_ | refine zas ?_ | refine zac ?_))
  all_goals (first | refine zbp rfl ?_ | refine zbm rfl ?_)
  all_goals (repeat (first | refine zag ?_ | refine zar ?_ | refine zad ?_ | refine zas ?_ | refine zac ?_))
  all_goals first
    | skip
      refine zaf ?_
      refine zab rfl rfl (zaa rfl) (mv_s (.inr rfl) rfl) ?_
      refine zan ?_
      repeat (first | refine zag ?_ | refine zar ?_ | refine zad ?_ | refine zas ?_ | refine zac ?_)
      (refine zbs ?_; repeat (first | refine zb8 ?_ | refine zb9 ?_))
      exact zcm (.inr rfl) rfl rfl
    | skip
  refine zch hmix ?_
  refine zco (by kernel_rfl) ?_
  first | refine zat rfl rfl (zaa rfl) (za6 (.inl rfl) rfl) ?_ | refine zat rfl rfl (zaa rfl) (zbg (.inl rfl) rfl) ?_ | refine zat rfl rfl (zaa rfl) (mv_s (.inl rfl) rfl) ?_ | refine zat rfl rfl (zaa rfl) (za7 (.inl rfl) rfl) ?_
  first | refine zat rfl rfl (zaa rfl) (za6 (.inl rfl) rfl) ?_ | refine zat rfl rfl (zaa rfl) (zbg (.inl rfl) rfl) ?_ | refine zat rfl rfl (zaa rfl) (mv_s (.inl rfl) rfl) ?_ | refine zat rfl rfl (zaa rfl) (za7 (.inl rfl) rfl) ?_
  first | refine zat rfl rfl (zaa rfl) (za0 rfl ta25 ti25 rfl rfl) ?_ | refine zat rfl rfl (zaa rfl) (za9 rfl ta25 ti25 rfl rfl rfl rfl rfl) ?_ | refine zat rfl rfl (zaa rfl) (zaz rfl ta25 ti25 rfl (Nat.le_of_ble_eq_true rfl)) ?_ | refine zat rfl rfl (zaa rfl) (zba rfl ta25 ti25 rfl rfl rfl rfl (Nat.le_of_ble_eq_true rfl)) ?_
  first | refine zat rfl rfl (zaa rfl) (za0 rfl ta29 ti29 rfl rfl) ?_ | refine zat rfl rfl (zaa rfl) (za9 rfl ta29 ti29 rfl rfl rfl rfl rfl) ?_ | refine zat rfl rfl (zaa rfl) (zaz rfl ta29 ti29 rfl (Nat.le_of_ble_eq_true rfl)) ?_ | refine zat rfl rfl (zaa rfl) (zba rfl ta29 ti29 rfl rfl rfl rfl (Nat.le_of_ble_eq_true rfl)) ?_
  refine zat rfl rfl (zaa rfl) (za5 rfl rfl (h5) (zau rfl (zau rfl (zau rfl (zau rfl zbj))))) ?_
  first | refine zat rfl rfl (zaa rfl) (za6 (.inl rfl) rfl) ?_ | refine zat rfl rfl (zaa rfl) (zbg (.inl rfl) rfl) ?_ | refine zat rfl rfl (zaa rfl) (mv_s (.inl rfl) rfl) ?_ | refine zat rfl rfl (zaa rfl) (za7 (.inl rfl) rfl) ?_
  first | refine zat rfl rfl (zaa rfl) (za6 (.inl rfl) rfl) ?_ | refine zat rfl rfl (zaa rfl) (zbg (.inl rfl) rfl) ?_ | refine zat rfl rfl (zaa rfl) (mv_s (.inl rfl) rfl) ?_ | refine zat rfl rfl (zaa rfl) (za7 (.inl rfl) rfl) ?_
  first | refine zat rfl rfl (zaa rfl) (za0 rfl ta25 ti25 rfl rfl) ?_ | refine zat rfl rfl (zaa rfl) (za9 rfl ta25 ti25 rfl rfl rfl rfl rfl) ?_ | refine zat rfl rfl (zaa rfl) (zaz rfl ta25 ti25 rfl (Nat.le_of_ble_eq_true rfl)) ?_ | refine zat rfl rfl (zaa rfl) (zba rfl ta25 ti25 rfl rfl rfl rfl (Nat.le_of_ble_eq_true rfl)) ?_
  first | refine zat rfl rfl (zaa rfl) (za0 rfl ta29 ti29 rfl rfl) ?_ | refine zat rfl rfl (zaa rfl) (za9 rfl ta29 ti29 rfl rfl rfl rfl rfl) ?_ | refine zat rfl rfl (zaa rfl) (zaz rfl ta29 ti29 rfl (Nat.le_of_ble_eq_true rfl)) ?_ | refine zat rfl rfl (zaa rfl) (zba rfl ta29 ti29 rfl rfl rfl rfl (Nat.le_of_ble_eq_true rfl)) ?_
  refine zat rfl rfl (zaa rfl) (za5 rfl rfl (h7) (zau rfl (zau rfl (zau rfl (zau rfl zbj))))) ?_
  refine zat rfl rfl (zaa rfl) (dec_t rfl (does_eqlb (by rw [IsP.eq (P := P)]; kernel_rfl) rfl rfl rfl)) ?_
  refine zat rfl rfl (zaa rfl) (mv_s (.inr rfl) rfl) ?_
  refine qx_nil ?_
  repeat (first | refine zag ?_ | refine zar ?_ | refine zad ?_ | refine zas ?_ | refine zac ?_)
  (refine zbs ?_; repeat (first | refine zb8 ?_ | refine zb9 ?_))
  exact zcm (.inr rfl) rfl rfl
end Go.Proofs.YtmoipmnhgdmkpaaGreat.Aw
end
section
namespace Go.Proofs.YtmoipmnhgdmkpaaGreat
open Go.ChangeShapes Go.WideShapes Go.ChangeAt Go.RowKit
set_option maxRecDepth 100000 in
theorem shiftChecks_lifted (hawake : Aw.Pure Tryz.prog 4 [] (Aw.eB true)) (os : Os) (started : os.Started) (H : Type) (enc : TypeId × Value → H) :
    ReturnsInHanded {} Tryz.checked os 3 .any (Rows.shiftChecksSpec.pre6 enc Tryz.prog Tryz.f3 Rows.shiftChecksRow.domain false) (Rows.shiftChecksSpec.post enc Tryz.prog Tryz.f3 false true false false) := by
  refine returnsInHanded_of_change (C := Tryz.checked) own_knob started (by kernel_rfl) Tryz.func3
    (ChangeSpec.witness6 (enc := enc) (C := Tryz.checked) false ⟨#[], #[.slice none 0 0, .slice none 0 0, .agg #[.slice none 0 0, .int .i64 0], .agg #[.int .i64 0, .int .i64 0, .slice none 0 0, .slice none 0 0]], []⟩ 8 (by kernel_rfl) (by kernel_rfl) (by kernel_rfl) (by kernel_rfl)) ?_
  intro W base args ds gs before hval0 hW hcnd _
  have hval : ∀ (j : Nat) t v, Tryz.f3.params[j]? = some t → args[j]? = some v → Value.okWide Tryz.prog W .any base t v := hval0
  have hW' := hW
  obtain ⟨p, q, hA0, hV, rfl, hfz, hnd⟩ := hW
  have hA : DataW.TrodAll enc Tryz.prog W 0 (fun _ => true) true Tryz.f3.params.toList args.toList ds p := hA0
  rw [Tryz.params3] at hA hval
  obtain ⟨v0, v1, v2, v3, d0, d1, d2, d3, p0, p1, p2, p3, rfl, rfl, rfl, h0, h1, h2, h3⟩ := trodAll_four hA
  obtain ⟨rfl, rfl⟩ := trodVars_none hV
  obtain ⟨m, hn⟩ := Aw.open_ints (hval 0 22 v0 rfl rfl) h0
  obtain ⟨l, hs⟩ := Aw.open_shifts (hval 1 23 v1 rfl rfl) h1
  obtain ⟨k, hk⟩ := Aw.open_plan (hval 2 25 v2 rfl rfl) h2
  obtain ⟨k4, hk4⟩ := Aw.open_branch (hval 3 29 v3 rfl rfl) h3
  simp only [List.append_nil] at hW'
  refine (Aw.pure_law (Aw.lawChecks_pf (P := Tryz.prog) hawake m l k k4) W #[v0, v1, v2, v3] rfl (fun j v x hv hx => ?_)).mono fun e W' ⟨he, hb⟩ => ?_
  · match j, hv, hx with
    | 0, hv, hx => simp at hv hx; subst hv hx; exact hn
    | 1, hv, hx => simp at hv hx; subst hv hx; exact hs
    | 2, hv, hx => simp at hv hx; subst hv hx; exact hk
    | 3, hv, hx => simp at hv hx; subst hv hx; exact hk4
    | j + 4, hv, hx => simp at hv
  subst he
  have hp : ∀ x ∈ p0 ++ p1 ++ p2 ++ p3, x.block < W.heap.size := fun x hx => hW'.lt x (by simpa using hx)
  have hg := trodAll_mk4 (Below.trod laid_out (by kernel_rfl) (of_decide_eq_true (by kernel_rfl)) h0 hb (fun x hx => hp x (by simp [hx]))) (Below.trod laid_out (by kernel_rfl) (of_decide_eq_true (by kernel_rfl)) h1 hb (fun x hx => hp x (by simp [hx]))) (Below.trod laid_out (by kernel_rfl) (of_decide_eq_true (by kernel_rfl)) h2 hb (fun x hx => hp x (by simp [hx]))) (Below.trod laid_out (by kernel_rfl) (of_decide_eq_true (by kernel_rfl)) h3 hb (fun x hx => hp x (by simp [hx])))
  rw [← List.append_assoc, ← List.append_assoc] at hg
  exact ⟨_, rfl, law_post (t := 4) hW' (by kernel_rfl) Tryz.underlying4 ⟨rfl, rfl, rfl⟩ rfl hg hb⟩

theorem shiftChecks_of (hawake : Aw.Pure Tryz.prog 4 [] (Aw.eB true)) : Rows.ShiftChecksSaid :=
  OpenClaim.holds_of_wide 3 Tryz.f3 rfl rfl rfl rfl rfl rfl rfl ⟨rfl, rfl, rfl, rfl, rfl⟩ rfl rfl rfl rfl rfl (by kernel_rfl) Tryz.func3 (by kernel_rfl)
    (of_decide_eq_true (by kernel_rfl)) (by unfold Func.isWrapper; first | (rw [if_pos (by decide +kernel)]; kernel_rfl) | (rw [if_neg (by decide +kernel)]; exact ⟨rfl, rfl⟩))
    (fun os started H enc _ => shiftChecks_lifted hawake os started H enc)


end Go.Proofs.YtmoipmnhgdmkpaaGreat
end
section
namespace Go.Proofs.YtmoipmnhgdmkpaaGreat.Aw
set_option linter.unusedSimpArgs false
set_option linter.unusedVariables false
open Go Go.RowKit Go.Proofs
variable {P : Program} [IsP P]

def unF : AV → Option Fr
  | .agg [.s (.int .i64 a), .s (.int .i64 b)] => some ⟨a, b⟩
  | _ => none
theorem unF_of {x : AV} {a : Fr} (h : unF x = some a) : x = eF a := by
  unfold unF at h
  split at h
  · cases h; rfl
  · cases h
/-- functions of two fractions -/
def orc2 (f : Nat) (a b : Fr) : Option AV :=
  bif Nat.beq f 57 then some (eFE (mulE a b)) else
  bif Nat.beq f 61 then some (eFE (subE a b)) else
  bif Nat.beq f 104 then some (eFE (divE a b)) else
  bif Nat.beq f 62 then some (eFE (addE a b)) else
  bif Nat.beq f 47 then some (.tup [eI (cmpE a b).1, eI (cmpE a b).2]) else none
def orcF : Orc := fun f args => match args with
  | [x] => bif Nat.beq f 45 then match unF x with
      | some a => some (eB a.okB)
      | none => none
    else none
  | [x, y] => match unF x with
    | none => none
    | some a => match unF y with
      | none => none
      | some b => orc2 f a b
  | _ => none
theorem orcF_ok : OrcOk P orcF := by
  intro f args r h
  unfold orcF at h
  split at h
  · rename_i x
    cases hb : Nat.beq f 45 with
    | false => rw [hb] at h; cases h
    | true =>
      rw [hb, cond_true] at h
      split at h
      · rename_i a ha; cases h; rw [Nat.eq_of_beq_eq_true hb, unF_of ha]; exact fValid_pf a
      · cases h
  · rename_i x y
    split at h
    · cases h
    · rename_i a ha
      split at h
      · cases h
      · rename_i b hb
        rw [unF_of ha, unF_of hb]
        unfold orc2 at h
        cases h1 : Nat.beq f 57 with
        | true => rw [h1] at h; cases h; rw [Nat.eq_of_beq_eq_true h1]; exact fMul_pf a b
        | false =>
        rw [h1, cond_false] at h
        cases h1 : Nat.beq f 61 with
        | true => rw [h1] at h; cases h; rw [Nat.eq_of_beq_eq_true h1]; exact fSub_pf a b
        | false =>
        rw [h1, cond_false] at h
        cases h1 : Nat.beq f 104 with
        | true => rw [h1] at h; cases h; rw [Nat.eq_of_beq_eq_true h1]; exact fDiv_pf a b
        | false =>
        rw [h1, cond_false] at h
        cases h1 : Nat.beq f 62 with
        | true => rw [h1] at h; cases h; rw [Nat.eq_of_beq_eq_true h1]; exact fAdd_pf a b
        | false =>
        rw [h1, cond_false] at h
        cases h1 : Nat.beq f 47 with
        | true => rw [h1] at h; cases h; rw [Nat.eq_of_beq_eq_true h1]; exact fCmp_pf a b
        | false => rw [h1, cond_false] at h; cases h
  · cases h
end Go.Proofs.YtmoipmnhgdmkpaaGreat.Aw
end
section
namespace Go.Proofs.YtmoipmnhgdmkpaaGreat.Aw
set_option linter.unusedSimpArgs false
set_option linter.unusedVariables false
set_option linter.unusedSectionVars false
open Go Go.RowKit Go.Proofs
variable {P : Program} [IsP P]

theorem pure_emp {f : FuncId} {r : AV} (h0 : Pure P f [.s (.slice none 0 0)] r) (h1 : ∀ a : Addr, a.spot = none → Pure P f [.s (.slice (some a) 0 0)] r) : Pure P f [.emp] r :=
  ⟨h0.ent, h0.lo, fun G vargs hs hsz hrep => by
    have hlt : 0 < vargs.size := by rw [hsz]; simp
    have g := hrep 0 vargs[0] .emp (by simp [hlt]) rfl
    have one : ∀ {x : AV}, Rep G vargs[0] x → ∀ (j : Nat) v y, vargs[j]? = some v → [x][j]? = some y → Rep G v y := by
      intro x hx j v y hv hy
      cases j with
      | zero => simp at hy; subst hy; rw [Array.getElem?_eq_getElem hlt] at hv; cases hv; exact hx
      | succ j => simp at hy
    generalize hv : vargs[0] = v0 at g
    cases g with
    | emp A hA =>
      cases A with
      | none => exact h0.call G vargs hs hsz (one (by rw [hv]; exact .s _))
      | some a => exact (h1 a (hA a rfl)).call G vargs hs hsz (one (by rw [hv]; exact .s _))⟩
section
variable {o : Oper} {F : Frm} {σ : List Ob}
theorem does_append_e {t e : TypeId} {s y : Operand} {z : Option Value} {sz bt : Nat} {a : Addr} (ho : o.op = .call { callee := .builtin .append, args := #[s, y], argTypes := #[t, t] })
    (ht : zbu P t = some e) (hi : zb3 P e = some (z, sz, bt)) (hx : F.eval s = .emp) (hy : F.eval y = .s (.slice (some a) 0 0)) : Does P o F σ .emp σ :=
  zb4 fun G ρ hr hop => by
    have g1 := hop s (by simp [ho, Op.operands, Call.operands])
    have g2 := hop y (by simp [ho, Op.operands, Call.operands])
    rw [hx] at g1
    rw [hy] at g2
    have g2 := rep_s g2
    generalize hv1 : ρ s = v1 at g1
    cases g1 with
    | emp B hB =>
      have hrun : (Builtin.append_ #[t, t] o.type #[.slice B 0 0, .slice (some a) 0 0]).run P G.w = .ok (.slice B 0 0) G.w := by
        have hf : (Builtin.firstCells sz 0 (.slice (some a) 0 0)).run P G.w = .ok #[] G.w := run_firstCells_some (P := P) G.w sz 0 a 0 0 [] (by simp) (by simp)
        cases B with
        | none => simp [Builtin.append_, run_underlying (zdi ht), zcg hi, Builtin.lenOf, hf]
        | some a => simp [Builtin.append_, run_underlying (zdi ht), zcg hi, Builtin.lenOf, hf, storeCells]
      refine ⟨.slice B 0 0, ?_, .emp B hB⟩
      simp only [execOp, ho, resolve, invoke, builtin, Sem.run_bind, Sem.run_pure, Result.andThen_ok, List.map_toArray, List.map_cons, List.map_nil, hv1, g2, hrun]
theorem does_eqsome {t t' e : TypeId} {x y : Operand} {a : Addr} (ho : o.op = .binOp .eql t x y t') (ht : zbu P t = some e) (hx : F.eval x = .s (.slice (some a) 0 0)) (hy : F.eval y = .s (.slice none 0 0)) : Does P o F σ (.s (.bool false)) σ :=
  zb4 fun G ρ hr hop => by
    have g1 := hop x (by simp [ho, Op.operands])
    have g2 := hop y (by simp [ho, Op.operands])
    rw [hx] at g1
    rw [hy] at g2
    have g1 := rep_s g1
    have g2 := rep_s g2
    have := run_nil_cmp (P := P) ht x y (some a) 0 0 .eql G.w (r := false) (.inl ⟨rfl, rfl⟩)
    refine ⟨.bool false, ?_, .s _⟩
    rw [Sem.run_bind] at this
    simp only [execOp, ho, Sem.run_bind, g1, g2]
    exact this ▸ rfl
end
theorem rep_semp {G : Cx} {v : Value} (h : Rep G v (.s (.slice none 0 0))) : Rep G v .emp := by cases h; exact .emp none (fun a ha => by cases ha)
theorem wk_semp {N d : Nat} {F : Frm} {σ : List Ob} (hd : F.get d = .s (.slice none 0 0)) : Weak N F σ ((d, .emp) :: F) σ := fun G a h =>
  ⟨G, rfl, .refl G, h.rel, h.fr.more (rep_semp (by rw [← hd]; exact h.fr d)), h.df, h.nt⟩
theorem cloneE0_pf : Pure P 39 [.s (.slice none 0 0)] .emp := by
  refine zc4 (by rw [IsP.eq (P := P)]; exact Tryz.func39) rfl rfl rfl rfl rfl (zae (.s _) zaj) .emp (by simp only [argF]; rfl) ?_
  repeat (first | refine zag ?_ | refine zar ?_ | refine zad ?_ | refine zas ?_ | refine zac ?_)
  refine zaf ?_
  first | refine zab rfl rfl (zaa rfl) (za6 (.inr rfl) rfl) ?_ | refine zab rfl rfl (zaa rfl) (zbg (.inr rfl) rfl) ?_ | refine zab rfl rfl (zaa rfl) (mv_s (.inr rfl) rfl) ?_ | refine zab rfl rfl (zaa rfl) (za7 (.inr rfl) rfl) ?_
  refine zan ?_
  repeat (first | refine zag ?_ | refine zar ?_ | refine zad ?_ | refine zas ?_ | refine zac ?_)
  refine zaf ?_
  refine zab rfl rfl (zaa rfl) (mv_s (.inl rfl) rfl) ?_
  refine zab rfl rfl (zaa rfl) (does_eqnil0 rfl ts22 rfl rfl (.inl ⟨rfl, rfl⟩)) ?_
  refine zan ?_
  repeat (first | refine zag ?_ | refine zar ?_ | refine zad ?_ | refine zas ?_ | refine zac ?_)
  refine zbp rfl ?_
  repeat (first | refine zag ?_ | refine zar ?_ | refine zad ?_ | refine zas ?_ | refine zac ?_)
  refine zaf ?_
  first | refine zab rfl rfl (zaa rfl) (za6 (.inr rfl) rfl) ?_ | refine zab rfl rfl (zaa rfl) (zbg (.inr rfl) rfl) ?_ | refine zab rfl rfl (zaa rfl) (mv_s (.inr rfl) rfl) ?_ | refine zab rfl rfl (zaa rfl) (za7 (.inr rfl) rfl) ?_
  refine zan ?_
  repeat (first | refine zag ?_ | refine zar ?_ | refine zad ?_ | refine zas ?_ | refine zac ?_)
  refine zca (wk_semp (d := 2) rfl) ?_
  (refine zbs ?_; repeat (first | refine zb8 ?_ | refine zb9 ?_))
  exact zcm (.inr rfl) rfl rfl
theorem cloneE1_pf (a : Addr) : Pure P 39 [.s (.slice (some a) 0 0)] .emp := by
  refine zc4 (by rw [IsP.eq (P := P)]; exact Tryz.func39) rfl rfl rfl rfl rfl (zae (.s _) zaj) .emp (by simp only [argF]; rfl) ?_
  repeat (first | refine zag ?_ | refine zar ?_ | refine zad ?_ | refine zas ?_ | refine zac ?_)
  refine zaf ?_
  first | refine zab rfl rfl (zaa rfl) (za6 (.inr rfl) rfl) ?_ | refine zab rfl rfl (zaa rfl) (zbg (.inr rfl) rfl) ?_ | refine zab rfl rfl (zaa rfl) (mv_s (.inr rfl) rfl) ?_ | refine zab rfl rfl (zaa rfl) (za7 (.inr rfl) rfl) ?_
  refine zan ?_
  repeat (first | refine zag ?_ | refine zar ?_ | refine zad ?_ | refine zas ?_ | refine zac ?_)
  refine zaf ?_
  refine zab rfl rfl (zaa rfl) (mv_s (.inl rfl) rfl) ?_
  refine zab rfl rfl (zaa rfl) (does_eqsome (a := a) rfl ts22 rfl rfl) ?_
  refine zan ?_
  repeat (first | refine zag ?_ | refine zar ?_ | refine zad ?_ | refine zas ?_ | refine zac ?_)
  refine zbm rfl ?_
  repeat (first | refine zag ?_ | refine zar ?_ | refine zad ?_ | refine zas ?_ | refine zac ?_)
  refine zaf ?_
  refine zab rfl rfl (zaa rfl) (does_lit0 rfl rfl ts22 ti3) ?_
  refine zab rfl rfl (zaa rfl) (mv_s (.inl rfl) rfl) ?_
  refine zab rfl rfl (zaa rfl) (does_append_e (a := a) rfl ts22 ti3 rfl rfl) ?_
  refine zab rfl rfl (zaa rfl) (za7 (.inr rfl) rfl) ?_
  refine zan ?_
  repeat (first | refine zag ?_ | refine zar ?_ | refine zad ?_ | refine zas ?_ | refine zac ?_)
  (refine zbs ?_; repeat (first | refine zb8 ?_ | refine zb9 ?_))
  exact zcm (.inr rfl) rfl rfl
theorem cloneE_pf : Pure P 39 [.emp] .emp := pure_emp cloneE0_pf (fun a ha => cloneE1_pf a)
end Go.Proofs.YtmoipmnhgdmkpaaGreat.Aw
end
