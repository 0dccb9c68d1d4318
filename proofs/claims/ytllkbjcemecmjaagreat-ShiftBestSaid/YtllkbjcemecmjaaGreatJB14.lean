import Derived.Test.YtllkbjcemecmjaaGreatJB13
import Derived.Test.YtllkbjcemecmjaaGreatRows
import Derived.Test.YtllkbjcemecmjaaGreatJB6
import Derived.Test.YtllkbjcemecmjaaGreatJB5
import Derived.ProofKit
import Derived.Below
import Derived.ChangeShapes
import Derived.ChangeSame
import Derived.ChangeSlices
import Derived.DataReads
import Derived.Carry
set_option linter.unusedSimpArgs false
set_option linter.unusedVariables false
set_option linter.unusedSectionVars false
section
namespace Go.Proofs.YtllkbjcemecmjaaGreat.Aw
open Go.RowKit Go.Proofs
variable {P : Program} [IsP P]
theorem does_makeF {o : Oper} {F : Frm} {σ : List Ob} {t e : TypeId} {y y' : Operand} {kl kc : IntKind} {l c : Nat} {i i' : Int} {z : Value} {n bt : Nat} (ho : o.op = .makeSlice t y y') (ht : zcd P t = some e) (hi : zb5 P e = some (some z, n, bt))
  (h1 : (ofValue z).cells.all AV.one = true) (hn : (ofValue z).cells.length = n) (h0 : 0 < n) (hy : F.eval y = .s (.int kl i)) (hy' : F.eval y' = .s (.int kc i')) (hil : i = (l : Int)) (hic : i' = (c : Int)) (hlc : l ≤ c) (hb : bt * c ≤ 281474976710656) (hm : c ≤ 9223372036854775807)
  (hl : Lo 0 (.sl (List.replicate l (ofValue z)))) : Does P o F σ (.sl (List.replicate l (ofValue z))) σ :=
 does_fin (does_make ho ht hi h1 hn h0 hy hy' hil hic hlc hb hm) xo (fun u hu => by
  simp [ho, Op.operands] at hu
  rcases hu with rfl | rfl
  ·
   rw [hy]; exact .s _
  ·
   rw [hy']; exact .s _) hl
theorem addE_okr {a b : Fr} (h : (addE a b).e = 0) : (Fr.mk (addE a b).n (addE a b).d).ok := by
 unfold addE at h ⊢
 split at h
 ·
  rename_i hk
  rw [if_pos hk]
  simp only [Bool.and_eq_true, Fr.okB_iff] at hk
  cases hf : fadd a b with
  | none => rw [hf] at h; simp [FE.of] at h
  | some c =>
   have h1 : a.d ≠ 0 := by have := hk.1.2.2.1; omega
   have h2 : b.d ≠ 0 := by have := hk.2.2.2.1; omega
   exact mkF_ok (Int.mul_ne_zero h1 h2) hf
 ·
  simp [FE.err] at h
theorem shof_ok {n : Int} (h1 : -1000000 ≤ n) (h2 : n ≤ 1000000) : (Fr.of n).ok := by
 refine ⟨by show -1073741824 ≤ n; omega, by show n ≤ 1073741824; omega, by show (1 : Int) ≤ 1; decide, by show (1 : Int) ≤ 1073741824; decide, ?_⟩
 show Int.gcd n 1 = 1
 simp
theorem dotG_okr : ∀ (a b : List Fr) (acc : Fr), acc.ok → (dotG acc a b).e = 0 → (Fr.mk (dotG acc a b).n (dotG acc a b).d).ok
 | [], b, acc, h, _ => by rw [dotG]; exact h; intro a ta b tb h; cases h
 | a :: ta, [], acc, h, _ => by rw [dotG]; exact h; intro a ta b tb h h2; cases h2
 | a :: ta, b :: tb, acc, h, he => by
  rw [dotG] at he ⊢
  split at he
  ·
   rename_i h1; exact absurd he h1
  ·
   rename_i h1
   split at he
   ·
    rename_i h2; exact absurd he h2
   ·
    rename_i h2
    rw [if_neg h1, if_neg h2]
    exact dotG_okr ta tb _ (addE_okr (Decidable.not_not.1 h2)) he
theorem dotE_okr {a b : List Fr} (h : (dotE a b).e = 0) : (Fr.mk (dotE a b).n (dotE a b).d).ok := by
 unfold dotE at h ⊢
 split at h
 ·
  simp [FE.err] at h
 ·
  rename_i h1
  split at h
  ·
   simp [FE.err] at h
  ·
   rename_i h2
   split at h
   ·
    simp [FE.err] at h
   ·
    rename_i h3
    rw [if_neg h1, if_neg h2, if_neg h3]
    exact dotG_okr a b _ (shof_ok xf xf) h
theorem bdG_okr (l : List Sft) (lo hi : List Int) (y : List Fr) : ∀ (n i : Nat) (s : Fr), s.ok → (bdG l lo hi y n i s).2 = true → (bdG l lo hi y n i s).1.ok
 | 0, i, s, h, _ => by rw [bdG]; exact h
 | n + 1, i, s, h, h2 => by
  rw [bdG] at h2 ⊢
  generalize (if (prE y (gti l i)).n < 0 then gti hi i else gti lo i) = ch at h2 ⊢
  split at h2
  ·
   cases h2
  ·
   rename_i g1
   split at h2
   ·
    cases h2
   ·
    rename_i g2
    split at h2
    ·
     cases h2
    ·
     rename_i g3
     rw [if_neg g1, if_neg g2, if_neg g3]
     exact bdG_okr l lo hi y n (i + 1) _ (addE_okr (Decidable.not_not.1 g3)) h2
theorem bdE_okr {d : List Int} {l : List Sft} {lo hi : List Int} {y : List Fr} (h : (bdE d l lo hi y).2 = true) : (bdE d l lo hi y).1.ok := by
 unfold bdE at h ⊢
 split at h
 ·
  cases h
 ·
  rename_i h1
  rw [if_neg h1]
  exact bdG_okr l lo hi y _ _ _ (dotE_okr (Decidable.not_not.1 h1)) h
def lftI (x : Bool × Int) : Int := if x.1 = true then x.2 else -1
theorem lft_t {x : Int} : lftI (true, x) = x := if_pos rfl
theorem lft_f {x : Int} : lftI (false, x) = -1 := if_neg xo
theorem prv_f {d : List Int} {l : List Sft} {lo hi : List Int} {y : List Fr} {c : Int} (h : mulB d y = false) : prvB d l lo hi y c = false := by unfold prvB; rw [h]; rfl
theorem prv_b {d : List Int} {l : List Sft} {lo hi : List Int} {y : List Fr} {c : Int} {f : Fr} (h : bdE d l lo hi y = (f, false)) : prvB d l lo hi y c = false := by unfold prvB; rw [h]; simp
theorem prv_c {d : List Int} {l : List Sft} {lo hi : List Int} {y : List Fr} {c : Int} {f : Fr} (h0 : mulB d y = true) (h : bdE d l lo hi y = (f, true)) (h1 : f.ok) (h2 : (Fr.of (c - 1)).ok) : prvB d l lo hi y c = decide (0 < cmpN f (Fr.of (c - 1))) := by
 unfold prvB
 have e : cmpE f (Fr.of (c - 1)) = (cmpN f (Fr.of (c - 1)), 0) := by
  unfold cmpE
  rw [Fr.okB_of h1, Fr.okB_of h2]; rfl
 rw [h0, h, e]
 simp
set_option maxHeartbeats 8000000 in
theorem rproves_n (d : List Int) (l : List Sft) (c : Int) (hv : zce d l = true) (hc1 : 0 ≤ c) (hc2 : c ≤ 1000000) : ∀ (m : Nat) (b : Br) (lo hi : List Int) (n : Int), SizeOf.sizeOf b < m → BX l lo hi → 0 ≤ n → n ≤ 20000 → Pure P 25 [eL eI d, eL eSh l, eL eI lo, eL eI hi, eI c, eBr b, eI n] (eI (lftI (rgtE d l c b lo hi n))) := by
 intro m
 induction m
 ·
  intro b lo hi n h; omega
 rename_i m IH0
 intro b lo hi n hsz hb hn1 hn2
 obtain ⟨s, t, L, y⟩ := b
 have IH : ∀ b', b' ∈ L → ∀ (lo hi : List Int) (n : Int), BX l lo hi → 0 ≤ n → n ≤ 20000 → Pure P 25 [eL eI d, eL eSh l, eL eI lo, eL eI hi, eI c, eBr b', eI n] (eI (lftI (rgtE d l c b' lo hi n))) := fun b' hb' lo hi n h1 h2 h3 => IH0 b' lo hi n (by have := List.sizeOf_lt_of_mem hb'; simp at hsz; omega) h1 h2 h3
 clear IH0 hsz
 obtain ⟨⟨q1, q2, q3⟩, qd, ql⟩ := zb4 hv
 have hbx := hb
 obtain ⟨z1, z2, z3, z4⟩ := hb
 obtain ⟨R, HR⟩ : ∃ R, R = rgtE d l c (.mk s t L y) lo hi n := ⟨_, rfl⟩
 rw [← HR]
 have hlo : ∀ x ∈ [eL eI d, eL eSh l, eL eI lo, eL eI hi, eI c, eBr (.mk s t L y), eI n], Lo 0 x := zah (zan fun _ => .s _) (zah (zan lo_Sh) (zah (zan fun _ => .s _) (zah (zan fun _ => .s _) (zah (.s _) (zah (lo_Br _) (zah (.s _) zak))))))
 rw [zdk] at hlo ⊢
 refine zcl (by rw [IsP.eq (P := P)]; exact Tryz.func25) rfl rfl rfl rfl rfl hlo (.s _) (by simp only [argF]; rfl) ?_
 refine zag ?_
 refine zda (d := 1) rfl (fun hm1 => ?_)
 unfold maxLen at hm1
 refine zab (zaf rfl rfl (zaa rfl) (zb3 rfl rfl rfl rfl) ?_)
 refine za6 (zbm (id := 0) rfl) (za6 (zcb (d := 12) rfl rfl rfl) ?_)
 refine zac rfl (zad (zag (zab (zac rfl (zaf rfl rfl (zaa rfl) (zdx rfl rfl rfl (IntWalk.i64_in _ xd)) (zac rfl (zad (zag (zag (zab (zac rfl ?_)))))))))))
 refine za3 rfl rfl (zaa rfl) (za2 rfl rfl rfl) (fun h20 => ?_) (fun h20 => ?_)
 all_goals refine zad (zai ?_)
 all_goals (first | refine za5 rfl ?_ | refine zau rfl ?_)
 all_goals (repeat (first | refine zag ?_ | refine zar ?_))
 ·
  rw [rgt_0 xd] at HR
  refine zab (zac rfl (zad (zai ?_)))
  (refine za7 ?_; repeat (first | refine zbc ?_ | refine zbe ?_))
  exact zb6 (.inr rfl) rfl (congrArg eI (by rw [HR, lft_f]))
 have hn0 : ¬ n ≤ 0 := by omega
 refine zab (zbz tf32_2 rfl (zbu ta29 rfl (zaf rfl rfl (zaa rfl) (zao rfl ts29 rfl) (zaf rfl rfl (zaa rfl) (zbn rfl rfl rfl) (zad (zai ?_))))))
 refine zda (d := 22) rfl (fun hm2 => ?_)
 unfold maxLen at hm2
 refine aw_if rfl (fun h => ?_) (fun h => ?_)
 ·
  refine zag (zag ?_)
  rw [rgt_leaf hn0 xd] at HR
  have hmu := multipliers_pf (P := P) d y
  have pf := @prv_f d l lo hi y c
  have pb := @prv_b d l lo hi y c
  have pc := @prv_c d l lo hi y c
  have hml : mulB d y = true → y.length = d.length := fun h => by
   unfold mulB at h; simp only [Bool.and_eq_true, decide_eq_true_eq] at h; exact h.1
  generalize mulB d y = zm at hmu hml pf pc
  generalize prvB d l lo hi y c = zp at HR pf pb pc
  refine zab (zbz tf32_0 rfl (zbu ta3 rfl ?_))
  refine za3 rfl rfl (zaa rfl) (zbp rfl rfl rfl) (fun h27 => ?_) (fun h27 => ?_)
  all_goals refine zac rfl ?_
  all_goals (first | refine zbz tf32_1 rfl ?_ | refine za4 rfl ?_)
  all_goals (first | refine zbu ta3 rfl ?_ | refine za4 rfl ?_)
  all_goals (first | refine za3 rfl rfl (zat rfl rfl rfl) (zbp rfl rfl rfl) (fun h31 => ?_) (fun h31 => ?_) | refine za4 rfl ?_)
  all_goals refine zac rfl (zac rfl ?_)
  all_goals (first | refine zac rfl ?_ | refine za4 rfl ?_)
  all_goals (first | refine zbz tf32_3 rfl ?_ | refine za4 rfl ?_)
  all_goals (first | refine zbu ta30 rfl ?_ | refine za4 rfl ?_)
  all_goals (first | refine zcn rfl rfl (zat rfl rfl rfl) (zam rfl rfl (hmu) (zae rfl (zae rfl zap))) (fun h37 => ?_) (fun h37 => ?_) | refine za4 rfl ?_)
  all_goals (first | refine zaf rfl rfl (zat rfl rfl rfl) (zbj rfl rfl) ?_ | refine za4 rfl ?_)
  all_goals refine zac rfl (zad (zai ?_))
  all_goals (first | refine za5 rfl ?_ | refine zau rfl ?_)
  all_goals (repeat (first | refine zag ?_ | refine zar ?_))
  all_goals first
   |
    refine zab (zac rfl (zad (zai ?_)))
    (refine za7 ?_; repeat (first | refine zbc ?_ | refine zbe ?_))
    exact zb6 (.inr rfl) rfl (congrArg eI (by
     rw [HR]
     first
     | (rw [decide_eq_false (show ¬ (s = 0) by omega)]; rfl)
     | (rw [decide_eq_true (show s = 0 by omega), decide_eq_false (show ¬ (t = 0) by omega)]; rfl)
     | (rw [pf h37, Bool.and_false, Bool.and_false]; rfl)))
   | skip
  rw [decide_eq_true (show s = 0 by omega), decide_eq_true (show t = 0 by omega), Bool.true_and, Bool.true_and] at HR
  have hbd := rBound_pf (P := P) d l lo hi y hv (hml h37) z1 z2
  have hok := @bdE_okr d l lo hi y
  generalize bdE d l lo hi y = bb at hbd hok pb pc
  obtain ⟨bf, bz⟩ := bb
  replace hbd : Pure P 40 [eL eI d, eL eSh l, eL eI lo, eL eI hi, eL eF y] (.tup [eF bf, eB bz]) := hbd
  have hoc := shof_ok (n := c - 1) xd xd
  cases bz with
  | false =>
   rw [pb rfl] at HR
   refine zab (zac rfl (zac rfl (zac rfl (zac rfl (zbz tf32_3 rfl (zbu ta30 rfl (zaf rfl rfl (zaa rfl) (zam rfl rfl (hbd) (zae rfl (zae rfl (zae rfl (zae rfl (zae rfl zap)))))) (zac rfl (zac rfl (zac rfl (zaf rfl rfl (zaa rfl) (za1 rfl ti45 rfl rfl) (zba rfl (zaa rfl) (zaj rfl ti45 rfl rfl rfl rfl rfl rfl xf xf) (zac rfl (zad (zag (zag ?_))))))))))))))))
   refine zb2 hmix ?_
   refine zbx xi ?_
   refine qx_s rfl (zby rfl rfl (zaa rfl) (zbj rfl rfl) (qx_s rfl (qx_z rfl (qx_z rfl (qx_z rfl (qx_z rfl (qx_z rfl (qx_z rfl (qx_s rfl ?_)))))))))
   refine zdg ?_
   refine zai (za5 rfl (zag (zab (zac rfl (zad (zai ?_))))))
   (refine za7 ?_; repeat (first | refine zbc ?_ | refine zbe ?_))
   exact zb6 (.inr rfl) rfl (congrArg eI (by rw [HR, lft_f]))
  | true =>
   have hfo := hok rfl
   have hcm := rCmp_pf (P := P) bf (Fr.of (c - 1)) hfo hoc
   rw [pc h37 rfl hfo hoc] at HR
   clear pc pb pf
   generalize cmpN bf (Fr.of (c - 1)) = cm at HR hcm
   refine zab (zac rfl (zac rfl (zac rfl (zac rfl (zbz tf32_3 rfl (zbu ta30 rfl (zaf rfl rfl (zaa rfl) (zam rfl rfl (hbd) (zae rfl (zae rfl (zae rfl (zae rfl (zae rfl zap)))))) (zac rfl (zac rfl (zac rfl (zaf rfl rfl (zaa rfl) (za1 rfl ti45 rfl rfl) (zba rfl (zaa rfl) (zaj rfl ti45 rfl rfl rfl rfl rfl rfl xf xf) (zac rfl (zad (zag (zag ?_))))))))))))))))
   refine zb2 hmix ?_
   refine zbx xi ?_
   refine qx_s rfl (zby rfl rfl (zaa rfl) (zbj rfl rfl) (qx_s rfl (zby rfl rfl (zat rfl rfl rfl) (za8 rfl ta45 ti45 rfl rfl rfl rfl rfl) (qx_s rfl (zby rfl rfl (zat rfl rfl rfl) (zdx rfl rfl rfl (IntWalk.i64_in _ xd)) (zby rfl rfl (zat rfl rfl rfl) (zam rfl rfl (rOf_pf _) (zae rfl zap)) (zby rfl rfl (zat rfl rfl rfl) (zam rfl rfl (hcm) (zae rfl (zae rfl zap))) ?_)))))))
   refine qx_opP rfl rfl (zat rfl rfl rfl) (does_leq rfl rfl rfl) (fun h58 => ?_) (fun h58 => ?_)
   all_goals refine qx_s rfl ?_
   all_goals refine zdg ?_
   all_goals refine zai ?_
   all_goals (first | refine za5 rfl ?_ | refine zau rfl ?_)
   all_goals (repeat (first | refine zag ?_ | refine zar ?_))
   ·
    refine zab (zac rfl (zad (zai ?_)))
    (refine za7 ?_; repeat (first | refine zbc ?_ | refine zbe ?_))
    exact zb6 (.inr rfl) rfl (congrArg eI (by rw [HR, decide_eq_false xd, lft_f]))
   ·
    refine zab (zac rfl (zac rfl (zad (zai ?_))))
    (refine za7 ?_; repeat (first | refine zbc ?_ | refine zbe ?_))
    exact zb6 (.inr rfl) rfl (congrArg eI (by rw [HR, decide_eq_true xd, lft_t]))
 have hL0 : L.length ≠ 0 := by omega
 refine zar (zag (zag ?_))
 refine zda (d := 22) rfl (fun hm4 => ?_)
 refine zb2 hmix ?_
 refine zbx xi ?_
 refine qx_f tf32_2 rfl (qx_l ta29 rfl (zby rfl rfl (zaa rfl) (zao rfl ts29 rfl) ?_))
 refine qx_opP rfl rfl (zaa rfl) (zbp rfl rfl rfl) (fun h64 => ?_) (fun h64 => ?_)
 all_goals refine qx_s rfl ?_
 all_goals (first | refine qx_f tf32_3 rfl ?_ | refine qx_z rfl ?_)
 all_goals (first | refine qx_l ta30 rfl ?_ | refine qx_z rfl ?_)
 all_goals (first | refine zby rfl rfl (zat rfl rfl rfl) (zao rfl ts30 rfl) ?_ | refine qx_z rfl ?_)
 all_goals (first | refine qx_opP rfl rfl (zat rfl rfl rfl) (zbp rfl rfl rfl) (fun h69 => ?_) (fun h69 => ?_) | refine qx_z rfl ?_)
 all_goals refine qx_s rfl (qx_s rfl ?_)
 all_goals (first | refine qx_f tf32_0 rfl ?_ | refine qx_z rfl ?_)
 all_goals (first | refine qx_l ta3 rfl ?_ | refine qx_z rfl ?_)
 all_goals (first | refine qx_opP rfl rfl (zat rfl rfl rfl) (za2 rfl rfl rfl) (fun h74 => ?_) (fun h74 => ?_) | refine qx_z rfl ?_)
 all_goals refine qx_s rfl (qx_s rfl ?_)
 all_goals (first | refine qx_f tf32_0 rfl ?_ | refine qx_z rfl ?_)
 all_goals (first | refine qx_l ta3 rfl ?_ | refine qx_z rfl ?_)
 all_goals (first | refine qx_s rfl ?_ | refine qx_z rfl ?_)
 all_goals (first | refine zby rfl rfl (zat rfl rfl rfl) (zao rfl ts23 rfl) ?_ | refine qx_z rfl ?_)
 all_goals (first | refine qx_opP rfl rfl (zat rfl rfl rfl) (zcp rfl rfl rfl) (fun h81 => ?_) (fun h81 => ?_) | refine qx_z rfl ?_)
 all_goals refine qx_s rfl (qx_s rfl ?_)
 all_goals (first | refine qx_f tf32_1 rfl ?_ | refine qx_z rfl ?_)
 all_goals (first | refine qx_l ta3 rfl ?_ | refine qx_z rfl ?_)
 all_goals (first | refine qx_s rfl ?_ | refine qx_z rfl ?_)
 all_goals (first | refine qx_f tf32_0 rfl ?_ | refine qx_z rfl ?_)
 all_goals (first | refine qx_l ta3 rfl ?_ | refine qx_z rfl ?_)
 all_goals (first | refine zby rfl rfl (zat rfl rfl rfl) (zal rfl ts22 ti3 rfl rfl (by omega) (zbb (k := s.toNat) (by omega)) rfl) ?_ | refine qx_z rfl ?_)
 all_goals (first | refine qx_l ta3 rfl ?_ | refine qx_z rfl ?_)
 all_goals (first | refine qx_opP rfl rfl (zat rfl rfl rfl) (za2 rfl rfl rfl) (fun h91 => ?_) (fun h91 => ?_) | refine qx_z rfl ?_)
 all_goals refine qx_s rfl (qx_s rfl ?_)
 all_goals (first | refine qx_f tf32_1 rfl ?_ | refine qx_z rfl ?_)
 all_goals (first | refine qx_l ta3 rfl ?_ | refine qx_z rfl ?_)
 all_goals (first | refine qx_s rfl ?_ | refine qx_z rfl ?_)
 all_goals (first | refine qx_f tf32_0 rfl ?_ | refine qx_z rfl ?_)
 all_goals (first | refine qx_l ta3 rfl ?_ | refine qx_z rfl ?_)
 all_goals (first | refine zby rfl rfl (zat rfl rfl rfl) (zal rfl ts22 ti3 rfl rfl (by omega) (zbb (k := s.toNat) (by omega)) rfl) ?_ | refine qx_z rfl ?_)
 all_goals (first | refine qx_l ta3 rfl ?_ | refine qx_z rfl ?_)
 all_goals (first | refine qx_opP rfl rfl (zat rfl rfl rfl) (zcp rfl rfl rfl) (fun h101 => ?_) (fun h101 => ?_) | refine qx_z rfl ?_)
 all_goals refine qx_s rfl ?_
 all_goals refine zdg ?_
 all_goals refine zai ?_
 all_goals (first | refine za5 rfl ?_ | refine zau rfl ?_)
 all_goals (repeat (first | refine zag ?_ | refine zar ?_))
 all_goals first
  |
   rw [rgt_bad hn0 hL0 xd] at HR
   refine zab (zac rfl (zad (zai ?_)))
   (refine za7 ?_; repeat (first | refine zbc ?_ | refine zbe ?_))
   exact zb6 (.inr rfl) rfl (congrArg eI (by rw [HR, lft_f]))
  | skip
 have hs : s = (s.toNat : Int) := by omega
 have hsl : s.toNat < l.length := by omega
 have b1 := z3 s.toNat hsl
 have b2 := z4 s.toNat hsl
 obtain ⟨a, b, hab⟩ := two_of (L := L) xd
 subst hab
 rw [rgt_two hn0 ⟨by omega, by omega, by omega, by omega, by omega⟩] at HR
 have hw1 := with_pf (P := P) hi s.toNat t xd xd
 have hw2 := with_pf (P := P) lo s.toNat (t + 1) xd xd
 rw [← hs] at hw1 hw2
 have r1 := IH a xo lo (setI hi s.toNat t) (n - 1) (hbx.hi hsl xd xd) xd xd
 have r1b := rgtE_bd d l c a lo (setI hi s.toNat t) (n - 1) xd
 generalize rgtE d l c a lo (setI hi s.toNat t) (n - 1) = x at HR r1 r1b
 have r2 := IH b xo (setI lo s.toNat (t + 1)) hi x.2 (hbx.lo hsl xd xd) r1b.1 xd
 obtain ⟨xz, xn⟩ := x
 dsimp only at HR r2 r1b
 generalize rgtE d l c b (setI lo s.toNat (t + 1)) hi xn = x2 at HR r2
 obtain ⟨sa, ta, La, ya⟩ := a
 obtain ⟨sb, tb, Lb, yb⟩ := b
 have hixa : (List.map eBr [.mk sa ta La ya, .mk sb tb Lb yb])[0]? = some (.agg [eI sa, eI ta, eL eBr La, eL eF ya]) := by rw [← zdk]; rfl
 have hixb : (List.map eBr [.mk sa ta La ya, .mk sb tb Lb yb])[1]? = some (.agg [eI sb, eI tb, eL eBr Lb, eL eF yb]) := by rw [← zdk]; rfl
 rw [zdk] at r1 r2
 cases xz with
 | false =>
  rw [if_pos rfl] at HR
  rw [lft_f] at r1
  refine zb2 hmix ?_
  refine zbx xi ?_
  refine qx_s rfl (qx_s rfl (qx_s rfl (qx_s rfl (qx_f tf32_0 rfl (qx_l ta3 rfl (qx_f tf32_1 rfl (qx_l ta3 rfl (zby rfl rfl (zaa rfl) (zam rfl rfl (hw1) (zae rfl (zae rfl (zae rfl zap)))) (qx_s rfl (qx_f tf32_2 rfl (qx_l ta29 rfl (zby rfl rfl (zaa rfl) (zal rfl ts29 ti32 rfl rfl (show (0 : Int) = ((0 : Nat) : Int) from rfl) hixa rfl) (qx_w ta32 ti32 rfl (qx_s rfl (zby rfl rfl (zaa rfl) (zam rfl rfl (r1) (zae rfl (zae rfl (zae rfl (zae rfl (zae rfl (zae rfl (zae rfl zap)))))))) (qx_s rfl ?_))))))))))))))))
  refine zdg ?_
  refine zag (zag (zab (zac rfl (zaf rfl rfl (zaa rfl) (zdc xd (za2 rfl rfl rfl)) (zad (zai (za5 rfl (zag (zab (zac rfl (zad (zai ?_))))))))))))
  (refine za7 ?_; repeat (first | refine zbc ?_ | refine zbe ?_))
  exact zb6 (.inr rfl) rfl (congrArg eI (by rw [HR, lft_f]))
 | true =>
  rw [if_neg xo] at HR
  rw [lft_t] at r1
  refine zb2 hmix ?_
  refine zbx xi ?_
  refine qx_s rfl (qx_s rfl (qx_s rfl (qx_s rfl (qx_f tf32_0 rfl (qx_l ta3 rfl (qx_f tf32_1 rfl (qx_l ta3 rfl (zby rfl rfl (zaa rfl) (zam rfl rfl (hw1) (zae rfl (zae rfl (zae rfl zap)))) (qx_s rfl (qx_f tf32_2 rfl (qx_l ta29 rfl (zby rfl rfl (zaa rfl) (zal rfl ts29 ti32 rfl rfl (show (0 : Int) = ((0 : Nat) : Int) from rfl) hixa rfl) (qx_w ta32 ti32 rfl (qx_s rfl (zby rfl rfl (zaa rfl) (zam rfl rfl (r1) (zae rfl (zae rfl (zae rfl (zae rfl (zae rfl (zae rfl (zae rfl zap)))))))) (qx_s rfl ?_))))))))))))))))
  refine zdg ?_
  refine zag (zag (zab (zac rfl (zaf rfl rfl (zaa rfl) (dec_f xd (za2 rfl rfl rfl)) (zad (zai (zau rfl (zar (zag ?_)))))))))
  refine zb2 hmix ?_
  refine zbx xi ?_
  refine qx_s rfl (qx_s rfl (qx_s rfl (qx_f tf32_0 rfl (qx_l ta3 rfl (qx_f tf32_1 rfl (qx_l ta3 rfl (zby rfl rfl (zaa rfl) (zax rfl rfl rfl (IntWalk.i64_in _ xd)) (zby rfl rfl (zaa rfl) (zam rfl rfl (hw2) (zae rfl (zae rfl (zae rfl zap)))) (qx_s rfl (qx_s rfl (qx_f tf32_2 rfl (qx_l ta29 rfl (zby rfl rfl (zaa rfl) (zal rfl ts29 ti32 rfl rfl (show (1 : Int) = ((1 : Nat) : Int) from rfl) hixb rfl) (qx_w ta32 ti32 rfl (qx_s rfl (zby rfl rfl (zaa rfl) (zam rfl rfl (r2) (zae rfl (zae rfl (zae rfl (zae rfl (zae rfl (zae rfl (zae rfl zap)))))))) ?_))))))))))))))))
  refine qx_s rfl ?_
  refine zdg ?_
  refine zai ?_
  (refine za7 ?_; repeat (first | refine zbc ?_ | refine zbe ?_))
  exact zb6 (.inr rfl) rfl (congrArg eI (by rw [HR]))
theorem rproves_pf (d : List Int) (l : List Sft) (c : Int) (hv : zce d l = true) (hc1 : 0 ≤ c) (hc2 : c ≤ 1000000) (b : Br) (lo hi : List Int) (n : Int) (hb : BX l lo hi) (h1 : 0 ≤ n) (h2 : n ≤ 20000) : Pure P 25 [eL eI d, eL eSh l, eL eI lo, eL eI hi, eI c, eBr b, eI n] (eI (lftI (rgtE d l c b lo hi n))) :=
 rproves_n d l c hv hc1 hc2 (SizeOf.sizeOf b + 1) b lo hi n (Nat.lt_succ_self _) hb h1 h2
set_option maxHeartbeats 4000000 in
theorem rcheck_pf (d : List Int) (l : List Sft) (p : Pln) (b : Br) : Pure P 12 [eL eI d, eL eSh l, ePl p, eBr b] (eB (chkE d l p b)) := by
 have HI : chkE d l p b = if headK d l p then (rgtE d l p.cost b (zcv l.length) (zcs l) 20000).1 else false := rfl
 generalize chkE d l p b = R at HI ⊢
 obtain ⟨s, t, L, y⟩ := b
 have hz : List.replicate l.length (eI 0) = (zcv l.length).map eI := by simp [zcv]
 have hlo : ∀ x ∈ [eL eI d, eL eSh l, ePl p, eBr (.mk s t L y)], Lo 0 x := zah (zan fun _ => .s _) (zah (zan lo_Sh) (zah xa (zah (lo_Br _) zak)))
 rw [zdk] at hlo ⊢
 refine zcl (by rw [IsP.eq (P := P)]; exact Tryz.func12) rfl rfl rfl rfl rfl hlo (.s _) (by simp only [argF]; rfl) ?_
 refine zag (zab (zaf rfl rfl (zaa rfl) (zb3 rfl rfl rfl rfl) ?_))
 refine za6 (zbm (id := 0) rfl) (za6 (zcb (d := 6) rfl rfl rfl) ?_)
 refine zaf rfl rfl (zaa rfl) (zb3 rfl rfl rfl rfl) ?_
 refine za6 (zbm (id := 1) rfl) (za6 (zcb (d := 7) rfl rfl rfl) ?_)
 refine zac rfl (zad (zag (zag ?_)))
 refine zb2 hmix ?_
 refine zbx xi ?_
 refine qx_s rfl (qx_s rfl ?_)
 refine qx_opB rfl rfl (zaa rfl) (zam rfl rfl ((qValid_pf54 d l)) (zae rfl (zae rfl zap))) (fun h11 => ?_) (fun h11 => ?_)
 all_goals refine zby rfl rfl (zaa rfl) (zbj rfl rfl) (qx_s rfl ?_)
 all_goals (first | refine qx_s rfl ?_ | refine qx_z rfl ?_)
 all_goals (first | refine qx_f tf28_0 rfl ?_ | refine qx_z rfl ?_)
 all_goals (first | refine qx_l ta22 rfl ?_ | refine qx_z rfl ?_)
 all_goals (first | refine qx_opB rfl rfl (zat rfl rfl rfl) (zam rfl rfl ((rCounts_pf l p.c)) (zae rfl (zae rfl zap))) (fun h17 => ?_) (fun h17 => ?_) | refine qx_z rfl ?_)
 all_goals (first | refine zby rfl rfl (zat rfl rfl rfl) (zbj rfl rfl) ?_ | refine qx_z rfl ?_)
 all_goals refine qx_s rfl (qx_s rfl ?_)
 all_goals (first | refine qx_s rfl ?_ | refine qx_z rfl ?_)
 all_goals (first | refine qx_s rfl ?_ | refine qx_z rfl ?_)
 all_goals (first | refine qx_f tf28_0 rfl ?_ | refine qx_z rfl ?_)
 all_goals (first | refine qx_l ta22 rfl ?_ | refine qx_z rfl ?_)
 all_goals (first | refine zby rfl rfl (zat rfl rfl rfl) (zam rfl rfl ((rShort_pf d l p.c (zb4 h11).1.2.1 (okC_of h11 h17))) (zae rfl (zae rfl (zae rfl zap)))) ?_ | refine qx_z rfl ?_)
 all_goals (first | refine qx_opP rfl rfl (zat rfl rfl rfl) (zcp rfl rfl rfl) (fun h26 => ?_) (fun h26 => ?_) | refine qx_z rfl ?_)
 all_goals refine qx_s rfl (qx_s rfl ?_)
 all_goals (first | refine qx_s rfl ?_ | refine qx_z rfl ?_)
 all_goals (first | refine qx_f tf28_0 rfl ?_ | refine qx_z rfl ?_)
 all_goals (first | refine qx_l ta22 rfl ?_ | refine qx_z rfl ?_)
 all_goals (first | refine zby rfl rfl (zat rfl rfl rfl) (zam rfl rfl ((rCost_pf d l p.c h11 (okC_of h11 h17))) (zae rfl (zae rfl zap))) ?_ | refine qx_z rfl ?_)
 all_goals (first | refine qx_f tf28_1 rfl ?_ | refine qx_z rfl ?_)
 all_goals (first | refine qx_l ta3 rfl ?_ | refine qx_z rfl ?_)
 all_goals (first | refine qx_opP rfl rfl (zat rfl rfl rfl) (zbp rfl rfl rfl) (fun h35 => ?_) (fun h35 => ?_) | refine qx_z rfl ?_)
 all_goals refine qx_s rfl ?_
 all_goals refine zdg ?_
 all_goals refine zai ?_
 all_goals (first | refine za5 rfl ?_ | refine zau rfl ?_)
 all_goals (repeat (first | refine zag ?_ | refine zar ?_))
 all_goals first
  |
   rw [if_neg (by
    unfold headK
    rintro ⟨g1, g2, g3, g4⟩
    first
    | exact Bool.noConfusion (g1.symm.trans h11)
    | exact Bool.noConfusion (g2.symm.trans h17)
    | omega)] at HI
   refine zab (zac rfl (zad (zai ?_)))
   (refine za7 ?_; repeat (first | refine zbc ?_ | refine zbe ?_))
   exact zb6 (.inr rfl) rfl (congrArg eB HI.symm)
  | skip
 have hk : headK d l p := ⟨h11, h17, by omega, by omega⟩
 rw [if_pos hk] at HI
 have hbd := prcP_bd h11 (okC_of h11 h17) l.length (Nat.le_refl _)
 have hpc := hk.2.2.2
 have hl12 := (zb4 h11).1.2.2
 have hr := rproves_pf (P := P) d l p.cost h11 xd xd (.mk s t L y) (zcv l.length) (zcs l) 20000 (first_box h11) xd xd
 have hb2 := rgtE_bd d l p.cost (.mk s t L y) (zcv l.length) (zcs l) 20000 xd
 generalize rgtE d l p.cost (.mk s t L y) (zcv l.length) (zcs l) 20000 = x at HI hr hb2
 obtain ⟨xz, xn⟩ := x
 rw [zdk] at hr
 dsimp only at HI hb2
 have hge : (0 ≤ lftI (xz, xn)) ↔ R = true := by
  rw [HI]
  cases xz
  ·
   rw [lft_f]; simp
  ·
   rw [lft_t]; simp; exact hb2.1
 generalize lftI (xz, xn) = w at hr hge
 have hw : eL eI (zcv l.length) = .sl (List.replicate l.length (eI 0)) := by unfold eL; rw [hz]
 rw [hw] at hr
 by_cases hw0 : 0 ≤ w
 ·
  have hwt : R = true := hge.1 hw0
  subst hwt
  refine zb2 hmix ?_
  refine zc1 ?_
  refine ex_s rfl (ex_s rfl (ex_s rfl (zay rfl rfl (zaa rfl) (fun _ => (zao rfl ts23 rfl)) ?_)))
  refine zay rfl rfl (zaa rfl) (fun _ => (does_makeF rfl ts22 ti3 rfl rfl (by decide) rfl rfl rfl rfl (by omega) (by omega) (by omega) (.sl _ (fun c hc => by rw [List.eq_of_mem_replicate hc]; first | exact .s _ | exact (by repeat' (first | exact Lo.s _ | exact zak | refine zah ?_ ?_ | refine zan ?_ | refine Lo.cells ?_ | refine Lo.agg _ ?_ | refine Lo.ref _ ?_ | refine Lo.tup _ ?_ | refine Lo.fn _ _ ?_ | refine Lo.sl _ ?_ | intro _)))))) ?_
  refine ex_s rfl (zay rfl rfl (zaa rfl) (fun _ => (zam rfl rfl ((greatest_pf l hl12)) (zae rfl zap))) (ex_f tf28_1 rfl (ex_l ta3 rfl (ex_w ta32 ti32 rfl (zay rfl rfl (zaa rfl) (fun _ => (zam rfl rfl (hr) (zae rfl (zae rfl (zae rfl (zae rfl (zae rfl (zae rfl (zae rfl zap))))))))) (zay rfl rfl (zaa rfl) (fun _ => (zdc xd (zcp rfl rfl rfl))) (ex_s rfl ?_)))))))
  refine zcf xi ?_
  refine zai ?_
  (refine za7 ?_; repeat (first | refine zbc ?_ | refine zbe ?_))
  exact zb6 (.inr rfl) rfl rfl
 ·
  have hwf : R = false := by cases R; rfl; exact absurd (hge.2 rfl) hw0
  subst hwf
  refine zb2 hmix ?_
  refine zc1 ?_
  refine ex_s rfl (ex_s rfl (ex_s rfl (zay rfl rfl (zaa rfl) (fun _ => (zao rfl ts23 rfl)) ?_)))
  refine zay rfl rfl (zaa rfl) (fun _ => (does_makeF rfl ts22 ti3 rfl rfl (by decide) rfl rfl rfl rfl (by omega) (by omega) (by omega) (.sl _ (fun c hc => by rw [List.eq_of_mem_replicate hc]; first | exact .s _ | exact (by repeat' (first | exact Lo.s _ | exact zak | refine zah ?_ ?_ | refine zan ?_ | refine Lo.cells ?_ | refine Lo.agg _ ?_ | refine Lo.ref _ ?_ | refine Lo.tup _ ?_ | refine Lo.fn _ _ ?_ | refine Lo.sl _ ?_ | intro _)))))) ?_
  refine ex_s rfl (zay rfl rfl (zaa rfl) (fun _ => (zam rfl rfl ((greatest_pf l hl12)) (zae rfl zap))) (ex_f tf28_1 rfl (ex_l ta3 rfl (ex_w ta32 ti32 rfl (zay rfl rfl (zaa rfl) (fun _ => (zam rfl rfl (hr) (zae rfl (zae rfl (zae rfl (zae rfl (zae rfl (zae rfl (zae rfl zap))))))))) (zay rfl rfl (zaa rfl) (fun _ => (dec_f xd (zcp rfl rfl rfl))) (ex_s rfl ?_)))))))
  refine zcf xi ?_
  refine zai ?_
  (refine za7 ?_; repeat (first | refine zbc ?_ | refine zbe ?_))
  exact zb6 (.inr rfl) rfl rfl
end Go.Proofs.YtllkbjcemecmjaaGreat.Aw
end
section
namespace Go.Proofs.YtllkbjcemecmjaaGreat.Aw
open Go Go.RowKit Go.Proofs
variable {P : Program} [IsP P]
theorem eR3_mkB (c : List Int) (k s t : Int) (L : List Br) (y : List Fr) (e : Int) : eR3 (⟨c, k⟩, .mk s t L y, e) = .tup [.agg [eL eI c, eI k], .agg [eI s, eI t, eL eBr L, eL eF y], eI e] := by unfold eR3; rw [zdk]; rfl
set_option maxHeartbeats 16000000 in
theorem lawBest_pf (d : List Int) (l : List Sft) (lim : Int) : Pure P 3 [eL eI d, eL eSh l, eI lim] (eB true) := by
 have hfew := few_pf (P := P) d l
 have hval := qValid_pf54 (P := P) d l
 have hb := best_pf (P := P) d l lim
 have hno := none_pf (P := P)
 refine zcl (by rw [IsP.eq (P := P)]; exact Tryz.func3) rfl rfl rfl rfl rfl (zah (zan fun _ => .s _) (zah (zan lo_Sh) (zah (.s _) zak))) (.s _) (by simp only [argF]; rfl) ?_
 refine zag (zab (zac rfl (zad (zag (zag (zab (zaf rfl rfl (zaa rfl) (zam rfl rfl (awake54) zap) (zaf rfl rfl (zaa rfl) (zbj rfl rfl) (zad (zai (zau rfl (zar (zag (zag ?_))))))))))))))
 cases hf : fewB d l with
 | false =>
  rw [hf] at hfew
  refine zab (zac rfl (zac rfl (zaf rfl rfl (zaa rfl) (zam rfl rfl (hfew) (zae rfl (zae rfl zap))) (zaf rfl rfl (zaa rfl) (zbj rfl rfl) (zac rfl (za4 rfl (za4 rfl (za4 rfl (za4 rfl (zcj rfl rfl (zbi rfl rfl rfl) (zcj rfl rfl (zbi rfl rfl rfl) (zcj rfl rfl (zbi rfl rfl rfl) (za4 rfl (zac rfl (zad (zai (za5 rfl (zag (zab (zac rfl (zad (zai ?_))))))))))))))))))))))
  (refine za7 ?_; repeat (first | refine zbc ?_ | refine zbe ?_))
  exact zb6 (.inr rfl) rfl rfl
 | true =>
 rw [hf] at hfew
 cases hv : zce d l with
 | false =>
  rw [hv] at hval
  have hR : bstR d l lim = (⟨[], 0⟩, zBr, 1) := by unfold bstR; rw [if_pos (by rw [hv]; simp)]
  rw [hR, eR3_zero] at hb
  refine zab (zac rfl (zac rfl (zaf rfl rfl (zaa rfl) (zam rfl rfl (hfew) (zae rfl (zae rfl zap))) (zaf rfl rfl (zaa rfl) (zbj rfl rfl) (zac rfl (zac rfl (zac rfl (zaf rfl rfl (zat rfl rfl rfl) (zam rfl rfl (hval) (zae rfl (zae rfl zap))) (zac rfl (za4 rfl (za4 rfl (za4 rfl (zac rfl (zac rfl (zad (zai (zau rfl (zar (zag (zab (zac rfl (zac rfl (zac rfl (zaf rfl rfl (zaa rfl) (zam rfl rfl (hb) (zae rfl (zae rfl (zae rfl zap)))) ?_))))))))))))))))))))))))
  refine zac rfl (zac rfl (zac rfl (zac rfl (zaf rfl rfl (zaa rfl) (za1 rfl ti28 rfl rfl) (zaf rfl rfl (zaa rfl) (za1 rfl ti32 rfl rfl) (zba rfl (zaa rfl) (zaj rfl ti28 rfl rfl rfl rfl rfl rfl xf xf) (zba rfl (zaa rfl) (zaj rfl ti32 rfl rfl rfl rfl rfl rfl xf xf) (zac rfl (zad (zag (zag ?_)))))))))))
  refine zbg (zbm (id := 0) rfl) (zbg (zcb (d := 7) rfl rfl rfl) ?_)
  refine zbg (zbm (id := 1) rfl) (zbg (zcb (d := 8) rfl rfl rfl) ?_)
  refine zab (zac rfl (zaf rfl rfl (zaa rfl) (zdc xf (zbp rfl rfl rfl)) (zac rfl (zcx ta28 ti28 rfl (zcx ta32 ti32 rfl (zaf rfl rfl (zat rfl rfl rfl) (zam rfl rfl (hno) (zae rfl (zae rfl zap))) (zaf rfl rfl (zat rfl rfl rfl) (zbj rfl rfl) (zac rfl (zad (zai (zau rfl (zar (zag (zag (zab (zac rfl (zac rfl (zaf rfl rfl (zaa rfl) (zam rfl rfl (hval) (zae rfl (zae rfl zap))) (zaf rfl rfl (zaa rfl) (zbj rfl rfl) (zad (zai (za5 rfl ?_))))))))))))))))))))))
  refine zag (zab (zac rfl (zaf rfl rfl (zaa rfl) (zdc rfl (zbn rfl rfl rfl)) (zac rfl (zad (zai ?_))))))
  (refine za7 ?_; repeat (first | refine zbc ?_ | refine zbe ?_))
  exact zb6 (.inr rfl) rfl rfl
 | true =>
 rw [hv] at hval
 have hnum := rNum_pf (P := P) d l hv 500 xf
 have hneq := numF_eq (most0 hv) (L := 500) xf l.length (Nat.le_refl _)
 have haeq := allF_eq (most0 hv) l.length (Nat.le_refl _)
 have haeq2 := numF_eq (most0 hv) (L := 1048576) xf l.length (Nat.le_refl _)
 refine zab (zac rfl (zac rfl (zaf rfl rfl (zaa rfl) (zam rfl rfl (hfew) (zae rfl (zae rfl zap))) (zaf rfl rfl (zaa rfl) (zbj rfl rfl) (zac rfl (zac rfl (zac rfl (zaf rfl rfl (zat rfl rfl rfl) (zam rfl rfl (hval) (zae rfl (zae rfl zap))) (zac rfl (zac rfl (zaf rfl rfl (zat rfl rfl rfl) (zam rfl rfl (hnum) (zae rfl (zae rfl zap))) ?_)))))))))))
 refine za3 rfl rfl (zat rfl rfl rfl) (zb0 rfl rfl rfl) (fun h25 => ?_) (fun h25 => ?_)
 all_goals refine zac rfl (zac rfl (zad (zai ?_)))
 all_goals (first | refine za5 rfl ?_ | refine zau rfl ?_)
 all_goals (repeat (first | refine zag ?_ | refine zar ?_))
 ·
  refine zab (zac rfl (zad (zai ?_)))
  (refine za7 ?_; repeat (first | refine zbc ?_ | refine zbe ?_))
  exact zb6 (.inr rfl) rfl rfl
 by_cases hlim : lim < 1 ∨ 1048576 < lim
 ·
  have hR : bstR d l lim = (⟨[], 0⟩, zBr, 2) := by unfold bstR; rw [if_neg (fun h => h hv), if_pos hlim]
  rw [hR, eR3_zero] at hb
  refine zab (zac rfl (zac rfl (zac rfl (zaf rfl rfl (zaa rfl) (zam rfl rfl (hb) (zae rfl (zae rfl (zae rfl zap)))) (zac rfl (zac rfl (zac rfl (zac rfl (zaf rfl rfl (zaa rfl) (za1 rfl ti28 rfl rfl) (zaf rfl rfl (zaa rfl) (za1 rfl ti32 rfl rfl) (zba rfl (zaa rfl) (zaj rfl ti28 rfl rfl rfl rfl rfl rfl xf xf) (zba rfl (zaa rfl) (zaj rfl ti32 rfl rfl rfl rfl rfl rfl xf xf) (zac rfl (zad (zag (zag ?_))))))))))))))))
  refine zbg (zbm (id := 0) rfl) (zbg (zcb (d := 7) rfl rfl rfl) ?_)
  refine zbg (zbm (id := 1) rfl) (zbg (zcb (d := 8) rfl rfl rfl) ?_)
  refine zab (zac rfl (zaf rfl rfl (zaa rfl) (zdc xf (zbp rfl rfl rfl)) (zac rfl (zcx ta28 ti28 rfl (zcx ta32 ti32 rfl (zaf rfl rfl (zat rfl rfl rfl) (zam rfl rfl (hno) (zae rfl (zae rfl zap))) (zaf rfl rfl (zat rfl rfl rfl) (zbj rfl rfl) (zac rfl (zad (zai (zau rfl (zar (zag (zag (zab (zac rfl (zac rfl (zaf rfl rfl (zaa rfl) (zam rfl rfl (hval) (zae rfl (zae rfl zap))) (zaf rfl rfl (zaa rfl) (zbj rfl rfl) (zad (zai (zau rfl ?_))))))))))))))))))))))
  refine zar (zag (zag (zab (zac rfl ?_))))
  refine za3 rfl rfl (zaa rfl) (za2 rfl rfl rfl) (fun h51 => ?_) (fun h51 => ?_)
  all_goals refine zac rfl ?_
  all_goals (first | refine zac rfl ?_ | refine za4 rfl ?_)
  all_goals (first | refine za3 rfl rfl (zat rfl rfl rfl) (zb0 rfl rfl rfl) (fun h54 => ?_) (fun h54 => ?_) | refine za4 rfl ?_)
  all_goals refine zac rfl (zad (zai ?_))
  all_goals (first | refine za5 rfl ?_ | refine zau rfl ?_)
  all_goals (repeat (first | refine zag ?_ | refine zar ?_))
  rotate_right
  ·
   omega
  all_goals
   refine zab (zac rfl (zaf rfl rfl (zaa rfl) (zdc rfl (zbn rfl rfl rfl)) (zac rfl (zad (zai ?_)))))
   (refine za7 ?_; repeat (first | refine zbc ?_ | refine zbe ?_))
   exact zb6 (.inr rfl) rfl rfl
 have hrb := rBest_pf (P := P) d l hv
 by_cases hs : shE d l (zcs l) < 0
 ·
  obtain ⟨c, hc⟩ := srcE_some hv hs
  by_cases hp : prodF l l.length ≤ lim
  ·
   obtain ⟨c', b, g1, g2, g3⟩ := bstR_good hv (lim := lim) xd xd hs hp xd
   rw [hc] at g1
   cases g1
   rw [g2] at hb
   have hck := rcheck_pf (P := P) d l ⟨c, (srcE d l).2⟩ b
   rw [g3] at hck
   have e1 : plO (srcE d l) = ⟨c, (srcE d l).2⟩ := by unfold plO; rw [hc]; rfl
   rw [e1, hc] at hrb
   generalize (srcE d l).2 = k at hb hck hrb
   obtain ⟨s1, t1', L1, y1⟩ := b
   rw [eR3_mkB] at hb
   rw [zdk] at hck
   replace hrb : Pure P 10 [eL eI d, eL eSh l] (.tup [.agg [eL eI c, eI k], eB true]) := hrb
   refine zab (zac rfl (zac rfl (zac rfl (zaf rfl rfl (zaa rfl) (zam rfl rfl (hb) (zae rfl (zae rfl (zae rfl zap)))) (zac rfl (zac rfl (zac rfl (zac rfl (zaf rfl rfl (zaa rfl) (za1 rfl ti28 rfl rfl) (zaf rfl rfl (zaa rfl) (za1 rfl ti32 rfl rfl) (zba rfl (zaa rfl) (zaj rfl ti28 rfl rfl rfl rfl rfl rfl xf xf) (zba rfl (zaa rfl) (zaj rfl ti32 rfl rfl rfl rfl rfl rfl xf xf) (zac rfl (zad (zag (zag ?_))))))))))))))))
   refine zbg (zbm (id := 0) rfl) (zbg (zcb (d := 7) rfl rfl rfl) ?_)
   refine zbg (zbm (id := 1) rfl) (zbg (zcb (d := 8) rfl rfl rfl) ?_)
   refine zab (zac rfl (zaf rfl rfl (zaa rfl) (dec_f xf (zbp rfl rfl rfl)) (zac rfl (za4 rfl (za4 rfl (za4 rfl (za4 rfl (zac rfl (zad (zai (zau rfl (zar (zag (zag (zab (zac rfl (zac rfl (zaf rfl rfl (zaa rfl) (zam rfl rfl (hval) (zae rfl (zae rfl zap))) (zaf rfl rfl (zaa rfl) (zbj rfl rfl) (zad (zai (zau rfl (zar (zag (zag (zab (zac rfl (zaf rfl rfl (zaa rfl) (dec_f xd (za2 rfl rfl rfl)) (zac rfl (zac rfl ?_))))))))))))))))))))))))))))))
   refine zaf rfl rfl (zat rfl rfl rfl) (dec_f xd (zb0 rfl rfl rfl)) (zac rfl (zad (zai (zau rfl (zar (zag (zab (zac rfl (zac rfl (zaf rfl rfl (zaa rfl) (zam rfl rfl (hrb) (zae rfl (zae rfl zap))) (zac rfl (zac rfl (zac rfl (zaf rfl rfl (zaa rfl) (za1 rfl ti28 rfl rfl) (zba rfl (zaa rfl) (zaj rfl ti28 rfl rfl rfl rfl rfl rfl xf xf) (zac rfl (zad (zag (zag ?_)))))))))))))))))))
   refine zbg (zbm (id := 2) rfl) (zbg (zcb (d := 10) rfl rfl rfl) ?_)
   refine zab (zac rfl (zaf rfl rfl (zaa rfl) (zbj rfl rfl) (zad (zai (zau rfl (zar (zag (zag (zab (zac rfl (zaf rfl rfl (zaa rfl) (dec_f xf (zbp rfl rfl rfl)) (zad (zai (zau rfl (zar (zag (zab (zbz tf28_0 rfl (zbu ta22 rfl (zbz tf28_0 rfl (zbu ta22 rfl (zaf rfl rfl (zaa rfl) (zam rfl rfl ((equalSelf_pf c)) (zae rfl (zae rfl zap))) (zac rfl (zbz tf28_1 rfl (zbu ta3 rfl (zbz tf28_1 rfl (zbu ta3 rfl (zaf rfl rfl (zat rfl rfl rfl) (zdc rfl (zbn rfl rfl rfl)) ?_))))))))))))))))))))))))))))
   refine zac rfl (zac rfl (zac rfl (zac rfl (zcx ta28 ti28 rfl (zcx ta32 ti32 rfl (zaf rfl rfl (zat rfl rfl rfl) (zam rfl rfl (hck) (zae rfl (zae rfl (zae rfl (zae rfl zap))))) (zac rfl (zac rfl (zad (zai ?_))))))))))
   (refine za7 ?_; repeat (first | refine zbc ?_ | refine zbe ?_))
   exact zb6 (.inr rfl) rfl rfl
  ·
   have hR : bstR d l lim = (⟨[], 0⟩, zBr, 13) := by
    unfold bstR
    rw [if_neg (fun h => h hv), if_neg hlim, if_neg xd, if_pos xd]
   rw [hR, eR3_zero] at hb
   have e1 : (srcE d l).1.isSome = true := by rw [hc]; rfl
   rw [e1] at hrb
   generalize plO (srcE d l) = pl at hrb
   obtain ⟨pc, pk⟩ := pl
   replace hrb : Pure P 10 [eL eI d, eL eSh l] (.tup [.agg [eL eI pc, eI pk], eB true]) := hrb
   have hgt : numF l 500 l.length > lim := by omega
   refine zab (zac rfl (zac rfl (zac rfl (zaf rfl rfl (zaa rfl) (zam rfl rfl (hb) (zae rfl (zae rfl (zae rfl zap)))) (zac rfl (zac rfl (zac rfl (zac rfl (zaf rfl rfl (zaa rfl) (za1 rfl ti28 rfl rfl) (zaf rfl rfl (zaa rfl) (za1 rfl ti32 rfl rfl) (zba rfl (zaa rfl) (zaj rfl ti28 rfl rfl rfl rfl rfl rfl xf xf) (zba rfl (zaa rfl) (zaj rfl ti32 rfl rfl rfl rfl rfl rfl xf xf) (zac rfl (zad (zag (zag ?_))))))))))))))))
   refine zbg (zbm (id := 0) rfl) (zbg (zcb (d := 7) rfl rfl rfl) ?_)
   refine zbg (zbm (id := 1) rfl) (zbg (zcb (d := 8) rfl rfl rfl) ?_)
   refine zab (zac rfl (zaf rfl rfl (zaa rfl) (zdc xf (zbp rfl rfl rfl)) (zac rfl (zcx ta28 ti28 rfl (zcx ta32 ti32 rfl (zaf rfl rfl (zat rfl rfl rfl) (zam rfl rfl (hno) (zae rfl (zae rfl zap))) (zaf rfl rfl (zat rfl rfl rfl) (zbj rfl rfl) (zac rfl (zad (zai (zau rfl (zar (zag (zag (zab (zac rfl (zac rfl (zaf rfl rfl (zaa rfl) (zam rfl rfl (hval) (zae rfl (zae rfl zap))) (zaf rfl rfl (zaa rfl) (zbj rfl rfl) (zad (zai (zau rfl ?_))))))))))))))))))))))
   refine zar (zag (zag (zab (zac rfl (zaf rfl rfl (zaa rfl) (dec_f xd (za2 rfl rfl rfl)) (zac rfl (zac rfl (zaf rfl rfl (zat rfl rfl rfl) (dec_f xd (zb0 rfl rfl rfl)) (zac rfl (zad (zai (zau rfl (zar (zag (zab (zac rfl (zac rfl (zaf rfl rfl (zaa rfl) (zam rfl rfl (hrb) (zae rfl (zae rfl zap))) (zac rfl (zac rfl (zac rfl (zaf rfl rfl (zaa rfl) (za1 rfl ti28 rfl rfl) (zba rfl (zaa rfl) (zaj rfl ti28 rfl rfl rfl rfl rfl rfl xf xf) ?_)))))))))))))))))))))))
   refine zac rfl (zad (zag (zag (zab (zac rfl (zaf rfl rfl (zaa rfl) (zbj rfl rfl) (zad (zai (zau rfl (zar (zag (zag (zab (zac rfl (zaf rfl rfl (zaa rfl) (zdc xf (zbp rfl rfl rfl)) (zad (zai (za5 rfl (zag (zab (zac rfl (zaf rfl rfl (zaa rfl) (zdc rfl (zbn rfl rfl rfl)) (zac rfl (zac rfl (zaf rfl rfl (zat rfl rfl rfl) (zam rfl rfl (hnum) (zae rfl (zae rfl zap))) (zac rfl (zaf rfl rfl (zat rfl rfl rfl) (zdc hgt (zb0 rfl rfl rfl)) ?_)))))))))))))))))))))))))))
   refine zac rfl (zac rfl (zad (zai ?_)))
   (refine za7 ?_; repeat (first | refine zbc ?_ | refine zbe ?_))
   exact zb6 (.inr rfl) rfl rfl
 ·
  have hR := bstR_none hv (lim := lim) xd xd hs
  rw [hR, eR3_zero] at hb
  have e1 : (srcE d l).1.isSome = false := by rw [srcE_none hv hs]; rfl
  rw [e1] at hrb
  generalize plO (srcE d l) = pl at hrb
  obtain ⟨pc, pk⟩ := pl
  replace hrb : Pure P 10 [eL eI d, eL eSh l] (.tup [.agg [eL eI pc, eI pk], eB false]) := hrb
  refine zab (zac rfl (zac rfl (zac rfl (zaf rfl rfl (zaa rfl) (zam rfl rfl (hb) (zae rfl (zae rfl (zae rfl zap)))) (zac rfl (zac rfl (zac rfl (zac rfl (zaf rfl rfl (zaa rfl) (za1 rfl ti28 rfl rfl) (zaf rfl rfl (zaa rfl) (za1 rfl ti32 rfl rfl) (zba rfl (zaa rfl) (zaj rfl ti28 rfl rfl rfl rfl rfl rfl xf xf) (zba rfl (zaa rfl) (zaj rfl ti32 rfl rfl rfl rfl rfl rfl xf xf) (zac rfl (zad (zag (zag ?_))))))))))))))))
  refine zbg (zbm (id := 0) rfl) (zbg (zcb (d := 7) rfl rfl rfl) ?_)
  refine zbg (zbm (id := 1) rfl) (zbg (zcb (d := 8) rfl rfl rfl) ?_)
  refine zab (zac rfl (zaf rfl rfl (zaa rfl) (zdc xf (zbp rfl rfl rfl)) (zac rfl (zcx ta28 ti28 rfl (zcx ta32 ti32 rfl (zaf rfl rfl (zat rfl rfl rfl) (zam rfl rfl (hno) (zae rfl (zae rfl zap))) (zaf rfl rfl (zat rfl rfl rfl) (zbj rfl rfl) (zac rfl (zad (zai (zau rfl (zar (zag (zag (zab (zac rfl (zac rfl (zaf rfl rfl (zaa rfl) (zam rfl rfl (hval) (zae rfl (zae rfl zap))) (zaf rfl rfl (zaa rfl) (zbj rfl rfl) (zad (zai (zau rfl ?_))))))))))))))))))))))
  refine zar (zag (zag (zab (zac rfl (zaf rfl rfl (zaa rfl) (dec_f xd (za2 rfl rfl rfl)) (zac rfl (zac rfl (zaf rfl rfl (zat rfl rfl rfl) (dec_f xd (zb0 rfl rfl rfl)) (zac rfl (zad (zai (zau rfl (zar (zag (zab (zac rfl (zac rfl (zaf rfl rfl (zaa rfl) (zam rfl rfl (hrb) (zae rfl (zae rfl zap))) (zac rfl (zac rfl (zac rfl (zaf rfl rfl (zaa rfl) (za1 rfl ti28 rfl rfl) (zba rfl (zaa rfl) (zaj rfl ti28 rfl rfl rfl rfl rfl rfl xf xf) ?_)))))))))))))))))))))))
  refine zac rfl (zad (zag (zag (zab (zac rfl (zaf rfl rfl (zaa rfl) (zbj rfl rfl) (zad (zai (za5 rfl (zag (zab (zac rfl (zaf rfl rfl (zaa rfl) (zdc rfl (zbn rfl rfl rfl)) (zac rfl (zad (zai ?_))))))))))))))))
  (refine za7 ?_; repeat (first | refine zbc ?_ | refine zbe ?_))
  exact zb6 (.inr rfl) rfl rfl
end Go.Proofs.YtllkbjcemecmjaaGreat.Aw
end
section
namespace Go.Proofs.YtllkbjcemecmjaaGreat
open Go.ChangeShapes Go.WideShapes Go.ChangeAt Go.RowKit
theorem own_knob : ownKnob Tryz.prog.godebug = none := by kernel_rfl
theorem laid_out : laidOutB Tryz.prog = true := by kernel_rfl
section
variable {H : Type} {enc : TypeId × Value → H}
set_option maxRecDepth 100000 in
theorem law_post {f : Func} {s : ChangeSpec} {W W' : World} {args : Array Value} {ds gs : List (DataW H)} {before : List MemPlace} {t : TypeId}
  (hW : DataW.Whole enc Tryz.prog f.params.toList s.vars false W args.toList ds gs before) (hr : f.resultTypes = #[t]) (ht : Tryz.prog.underlying t = some .bool)
  (hfn : (s.fn H (ds ++ gs)).results = [.lit (.bool true)] ∧ (s.fn H (ds ++ gs)).args = ds ∧ (s.fn H (ds ++ gs)).vars = []) (hv : s.vars = [])
  (hargs : DataW.TrodAll enc Tryz.prog W' 0 (fun b => decide (b < W.heap.size)) true f.params.toList args.toList ds before) (hb : Below W.heap.size W W') :
  s.post enc Tryz.prog f false true false false W args (.bool true) W' := by
 refine ⟨ds, gs, before, [], before, [], hW, ?_, ?_, ?_, World.keptBut_mono (fun p hp => ⟨hp, Or.inr (by simpa using hp)⟩) (hb.frame (· ∈ before)), fun h => by cases h⟩
 ·
  rw [hfn.1, hr]
  exact trodAll_mk1 (shut_bool ht true)
 ·
  rw [hfn.2.1]
  exact hargs
 ·
  rw [hfn.2.2, hv]
  rfl
end
namespace Aw
def G0 (W : World) : Cx := { base := 0, w0 := W, w := W, mu := fun _ => none, St := fun b _ => b < W.heap.size }
theorem pure_law {P : Program} {f : FuncId} {args : List AV} (hp : Pure P f args (eB true)) (W : World) (vargs : Array Value) (hsz : vargs.size = args.length) (hrep : ∀ (j : Nat) v x, vargs[j]? = some v → args[j]? = some x → Rep (G0 W) v x) :
  Calls P f vargs W fun e w' => e = .returned (.bool true) ∧ Below W.heap.size W w' :=
 (hp.call (G0 W) vargs ⟨fun b o h => h, ⟨⟩⟩ hsz hrep).mono (by
  rintro e w' ⟨v, G', rfl, rfl, hb, _, _, _, hr⟩
  exact ⟨by rw [rep_s hr], hb⟩)
section
variable {H : Type} {enc : TypeId × Value → H} {w : World} {base : Nat} {sp : Nat → Bool} {held : Bool}
def Rc (w : World) (cs : List Value) (l : List AV) : Prop := cs.length = l.length ∧ (∀ c ∈ l, c.one = true) ∧ ∀ (j : Nat) v c, cs[j]? = some v → l[j]? = some c → Rep (G0 w) v c
theorem rc_nil : Rc w [] [] := ⟨rfl, by simp, fun j v c h => by simp at h⟩
theorem rc_cons {v : Value} {a : AV} {cs : List Value} {l : List AV} (h1 : Rep (G0 w) v a) (h2 : a.one = true) (h : Rc w cs l) : Rc w (v :: cs) (a :: l) :=
 ⟨by simp [h.1], fun c hc => by
  rcases List.mem_cons.1 hc with rfl | hc
  ·
   exact h2
  ·
   exact h.2.1 c hc, fun j u c hu hc => by
  cases j with
  | zero => simp at hu hc; subst hu hc; exact h1
  | succ j => simp at hu hc; exact h.2.2 j u c hu hc⟩
theorem addr_off (b off j : Nat) : (⟨b, off, none⟩ : Addr).add j = ⟨b, off + j, none⟩ := by unfold Addr.add; split <;> simp_all
theorem opens_sliceN {t e : TypeId} {β : Type} {f : β → AV} {size : Nat} (ht : Tryz.prog.underlying t = some (.slice e)) (hc : Tryz.prog.cellsOf e = size) (hpos : 0 < size) (hen : ∀ b, (f b).cells.length = size)
  {fuel : Nat} (hel : ∀ n, n < fuel → ∀ cs (x : DataW H × List MemPlace), DataW.trod enc Tryz.prog w base sp held n e cs = some x → ∃ b, Rc w cs (f b).cells)
  {cs : List Value} {x : DataW H × List MemPlace} (h : DataW.trod enc Tryz.prog w base sp held fuel t cs = some x) : ∃ (v : Value) (l : List β), cs = [v] ∧ Rep (G0 w) v (eL f l) := by
 rcases DataW.trod_slice ht h with ⟨rfl, _⟩ | ⟨a, len, cap, elems, rest, n, hfu, rfl, _, hb, hl, hm, hlen, helem, _⟩
 ·
  exact ⟨_, [], rfl, .slnil none 0⟩
 ·
  rw [hc] at helem
  have hx : ∀ i : Fin len, ∃ p : List Value × β, w.cells? base (a.add (i * size)) size = some p.1 ∧ Rc w p.1 (f p.2).cells := by
   intro i
   have h1 := helem i i.2
   have hi : (i : Nat) < elems.length := by rw [hlen]; exact i.2
   rw [List.getElem?_eq_getElem hi, Option.bind_eq_some_iff] at h1
   obtain ⟨cs', h2, h3⟩ := h1
   obtain ⟨y, hy⟩ := hel n xd _ _ h3
   exact ⟨(cs', y), h2, hy⟩
  obtain ⟨g, hg⟩ : ∃ g : Fin len → List Value × β, ∀ i : Fin len, w.cells? base (a.add ((i : Nat) * size)) size = some (g i).1 ∧ Rc w (g i).1 (f (g i).2).cells := ⟨fun i => Classical.choose (hx i), fun i => Classical.choose_spec (hx i)⟩
  rcases Nat.eq_zero_or_pos len with h0 | hn
  ·
   subst h0
   exact ⟨_, [], rfl, .slnil _ _⟩
  ·
   have hspot : a.spot = none := by
    have h1 := World.cells?_some (hg ⟨0, hn⟩).1
    have h2 := h1.2.2 0 hpos
    have h3 : ((a.add (0 * size)).add 0) = a := by simp [Addr.add]
    rw [List.getElem?_eq_getElem (by rw [h1.2.1]; exact hpos)] at h2
    have h4 := World.cell?_spot h2
    simpa [Addr.add] using h4
   obtain ⟨b, off, s⟩ := a
   simp only at hspot
   subst hspot
   refine ⟨_, List.ofFn (fun i => (g i).2), rfl, ?_⟩
   have hlf : ((List.ofFn fun i => (g i).2).map f).length = len := by simp
   have hel2 : ∀ (k : Nat) e, ((List.ofFn fun i => (g i).2).map f)[k]? = some e → ∃ hk : k < len, e = f (g ⟨k, hk⟩).2 := by
    intro k e hk
    have hkl : k < len := by have := (List.getElem?_eq_some_iff.1 hk).1; rwa [hlf] at this
    refine ⟨hkl, ?_⟩
    rw [List.getElem?_map, List.getElem?_ofFn] at hk
    simp [hkl] at hk
    exact hk.symm
   have key : ∀ (k : Nat) e (j : Nat) c, ((List.ofFn fun i => (g i).2).map f)[k]? = some e → e.cells[j]? = some c → ∃ u, w.cell? ⟨b, off + k * size + j, none⟩ = some u ∧ Rep (G0 w) u c := by
    intro k e j c hk hc'
    obtain ⟨hkl, rfl⟩ := hel2 k e hk
    obtain ⟨q1, q2, q3⟩ := (hg ⟨k, hkl⟩).2
    have hcs := World.cells?_some (hg ⟨k, hkl⟩).1
    have hj : j < size := by rw [← hen (g ⟨k, hkl⟩).2]; exact (List.getElem?_eq_some_iff.1 hc').1
    have hj2 : j < (g ⟨k, hkl⟩).1.length := by rw [hcs.2.1]; exact hj
    have h5 := hcs.2.2 j hj
    rw [List.getElem?_eq_getElem hj2] at h5
    rw [addr_off, addr_off] at h5
    exact ⟨(g ⟨k, hkl⟩).1[j], h5, q3 j _ c (List.getElem?_eq_getElem hj2) hc'⟩
   have hR := Rep.sl (G := G0 w) b off cap size ((List.ofFn fun i => (g i).2).map f) (fun k j => (w.cell? ⟨b, off + k * size + j, none⟩).getD undef) (by rw [hlf]; exact hl) (by rw [hlf]; exact Nat.le_trans hl hm) (fun k e hk => by
     obtain ⟨hkl, rfl⟩ := hel2 k e hk
     exact ⟨hen _, (hg ⟨k, hkl⟩).2.2.1⟩) (fun k e j c hk hc' => by
     obtain ⟨u, h6, _⟩ := key k e j c hk hc'
     exact ⟨World.block_lt_of_cell? _ _ h6, by show w.cell? _ = _; rw [h6]; rfl⟩) (fun k e j c hk hc' => by
     obtain ⟨u, h6, h7⟩ := key k e j c hk hc'
     rw [h6]; exact h7)
   rw [hlf] at hR
   exact hR
theorem opens_slice {t e : TypeId} {β : Type} {f : β → AV} {size : Nat} (ht : Tryz.prog.underlying t = some (.slice e)) (hc : Tryz.prog.cellsOf e = size) (hpos : 0 < size) (hen : ∀ b, (f b).cells.length = size)
  (hel : ∀ fuel cs (x : DataW H × List MemPlace), DataW.trod enc Tryz.prog w base sp held fuel e cs = some x → ∃ b, Rc w cs (f b).cells)
  {fuel : Nat} {cs : List Value} {x : DataW H × List MemPlace} (h : DataW.trod enc Tryz.prog w base sp held fuel t cs = some x) : ∃ (v : Value) (l : List β), cs = [v] ∧ Rep (G0 w) v (eL f l) :=
 opens_sliceN ht hc hpos hen (fun n _ cs x h => hel n cs x h) h
theorem opens_int {fuel : Nat} {cs : List Value} {x : DataW H × List MemPlace} (h : DataW.trod enc Tryz.prog w base sp held fuel 3 cs = some x) : ∃ n : Int, Rc w cs (eI n).cells := by
 obtain ⟨n, rfl, _⟩ := DataW.trod_int Tryz.underlying3 h
 exact ⟨n, rc_cons (.s _) rfl rc_nil⟩
theorem opens_ints {fuel : Nat} {cs : List Value} {x : DataW H × List MemPlace} (h : DataW.trod enc Tryz.prog w base sp held fuel 22 cs = some x) : ∃ (v : Value) (l : List Int), cs = [v] ∧ Rep (G0 w) v (eL eI l) :=
 opens_slice (size := 1) Tryz.underlying22 xi xf (fun _ => rfl) (fun fuel cs x h => opens_int h) h
set_option maxRecDepth 100000 in
theorem opens_shift {fuel : Nat} {cs : List Value} {x : DataW H × List MemPlace} (h : DataW.trod enc Tryz.prog w base sp held fuel 43 cs = some x) : ∃ s : Sft, Rc w cs (eSh s).cells := by
 obtain ⟨xs, n, _, _, hlen, hl, hg⟩ := DataW.trod_struct Tryz.underlying43 h
 have hc : Tryz.prog.cellsOf 43 = 3 := by kernel_rfl
 have h1 : Tryz.prog.cellsOf 22 = 1 := by kernel_rfl
 have h2 : Tryz.prog.cellsOf 3 = 1 := by kernel_rfl
 match cs, hlen.trans hc, xs, hl with
 | [c0, c1, c2], _, [x0, x1, x2], _ =>
  have g0 := hg 0 _ rfl
  have g1 := hg 1 _ rfl
  have g2 := hg 2 _ rfl
  simp [h1, h2] at g0 g1 g2
  obtain ⟨v0, l0, e0, r0⟩ := opens_ints g0
  obtain ⟨k1, e1, _⟩ := DataW.trod_int Tryz.underlying3 g1
  obtain ⟨k2, e2, _⟩ := DataW.trod_int Tryz.underlying3 g2
  injection e0 with e0
  injection e1 with e1
  injection e2 with e2
  subst e0 e1 e2
  exact ⟨⟨l0, k1, k2⟩, rc_cons r0 rfl (rc_cons (.s _) rfl (rc_cons (.s _) rfl rc_nil))⟩
theorem opens_shifts {fuel : Nat} {cs : List Value} {x : DataW H × List MemPlace} (h : DataW.trod enc Tryz.prog w base sp held fuel 23 cs = some x) : ∃ (v : Value) (l : List Sft), cs = [v] ∧ Rep (G0 w) v (eL eSh l) :=
 opens_slice (size := 3) Tryz.underlying23 xi xf (fun _ => rfl) (fun fuel cs x h => opens_shift h) h
variable {b0 : Nat} {r : Reach} {v : Value} {d : DataW H} {p : List MemPlace}
set_option maxRecDepth 100000 in
theorem open_ints (hv : Value.okWide Tryz.prog w r b0 22 v) (h : DataW.Trod enc Tryz.prog w base sp held 22 v d p) : ∃ l : List Int, Rep (G0 w) v (eL eI l) := by
 obtain ⟨a, n, c, rfl⟩ := okWide_slice Tryz.underlying22 hv
 obtain ⟨fuel, hf⟩ := h
 obtain ⟨v', l, ha, hr⟩ := opens_ints hf
 simp [Value.cells] at ha
 subst ha
 exact ⟨l, hr⟩
set_option maxRecDepth 100000 in
theorem open_shifts (hv : Value.okWide Tryz.prog w r b0 23 v) (h : DataW.Trod enc Tryz.prog w base sp held 23 v d p) : ∃ l : List Sft, Rep (G0 w) v (eL eSh l) := by
 obtain ⟨a, n, c, rfl⟩ := okWide_slice Tryz.underlying23 hv
 obtain ⟨fuel, hf⟩ := h
 obtain ⟨v', l, ha, hr⟩ := opens_shifts hf
 simp [Value.cells] at ha
 subst ha
 exact ⟨l, hr⟩
end
end Aw
end Go.Proofs.YtllkbjcemecmjaaGreat
end
section
namespace Go.Proofs.YtllkbjcemecmjaaGreat
open Go.ChangeShapes Go.WideShapes Go.ChangeAt Go.RowKit
namespace Aw
section
variable {H : Type} {enc : TypeId × Value → H} {w : World} {base b0 : Nat} {r : Reach} {sp : Nat → Bool} {held : Bool} {v : Value} {d : DataW H} {p : List MemPlace}
set_option maxRecDepth 100000 in
theorem open_int (hv : Value.okWide Tryz.prog w r b0 3 v) (h : DataW.Trod enc Tryz.prog w base sp held 3 v d p) : ∃ n : Int, Rep (G0 w) v (eI n) := by
 obtain ⟨n, rfl⟩ := okWide_int Tryz.underlying3 hv
 exact ⟨n, .s _⟩
end
end Aw
end Go.Proofs.YtllkbjcemecmjaaGreat
end
section
namespace Go.Proofs.YtllkbjcemecmjaaGreat
open Go.ChangeShapes Go.WideShapes Go.ChangeAt Go.RowKit
set_option maxRecDepth 100000 in
theorem shiftBest_lifted (os : Os) (started : os.Started) (H : Type) (enc : TypeId × Value → H) :
  ReturnsInHanded {} Tryz.checked os 3 .any (Rows.shiftBestSpec.pre6 enc Tryz.prog Tryz.f3 Rows.shiftBestRow.domain false) (Rows.shiftBestSpec.post enc Tryz.prog Tryz.f3 false true false false) := by
 refine returnsInHanded_of_change (C := Tryz.checked) own_knob started xi Tryz.func3
  (ChangeSpec.witness6 (enc := enc) (C := Tryz.checked) false ⟨#[], #[.slice none 0 0, .slice none 0 0, .int .i64 0], []⟩ 8 xi xi xi xi) ?_
 intro W base args ds gs before hval0 hW hcnd _
 have hval : ∀ (j : Nat) t v, Tryz.f3.params[j]? = some t → args[j]? = some v → Value.okWide Tryz.prog W .any base t v := hval0
 have hW' := hW
 obtain ⟨p, q, hA0, hV, rfl, hfz, hnd⟩ := hW
 have hA : DataW.TrodAll enc Tryz.prog W 0 (fun _ => true) true Tryz.f3.params.toList args.toList ds p := hA0
 rw [Tryz.params3] at hA hval
 obtain ⟨v0, v1, v2, d0, d1, d2, p0, p1, p2, rfl, rfl, rfl, h0, h1, h2⟩ := trodAll_three hA
 obtain ⟨rfl, rfl⟩ := trodVars_none hV
 obtain ⟨x0, hx0⟩ := Aw.open_ints (hval 0 22 v0 rfl rfl) h0
 obtain ⟨x1, hx1⟩ := Aw.open_shifts (hval 1 23 v1 rfl rfl) h1
 obtain ⟨x2, hx2⟩ := Aw.open_int (hval 2 3 v2 rfl rfl) h2
 simp only [List.append_nil] at hW'
 refine (Aw.pure_law (Aw.lawBest_pf (P := Tryz.prog) x0 x1 x2) W #[v0, v1, v2] rfl (fun j v x hv hx => ?_)).mono fun e W' ⟨he, hb⟩ => ?_
 ·
  match j, hv, hx with
  | 0, hv, hx => simp at hv hx; subst hv hx; exact hx0
  | 1, hv, hx => simp at hv hx; subst hv hx; exact hx1
  | 2, hv, hx => simp at hv hx; subst hv hx; exact hx2
  | j + 3, hv, hx => simp at hv
 subst he
 have hp : ∀ x ∈ p0 ++ p1 ++ p2, x.block < W.heap.size := fun x hx => hW'.lt x (by simpa using hx)
 have hg := trodAll_mk3 (Below.trod laid_out xi (of_decide_eq_true xi) h0 hb (fun x hx => hp x (by simp [hx]))) (Below.trod laid_out xi (of_decide_eq_true xi) h1 hb (fun x hx => hp x (by simp [hx]))) (Below.trod laid_out xi (of_decide_eq_true xi) h2 hb (fun x hx => hp x (by simp [hx])))
 simp only [← List.append_assoc] at hg
 exact ⟨_, rfl, law_post (t := 4) hW' xi Tryz.underlying4 ⟨rfl, rfl, rfl⟩ rfl hg hb⟩
theorem shiftBest_holds : Rows.ShiftBestSaid :=
 OpenClaim.holds_of_wide 3 Tryz.f3 rfl rfl rfl rfl rfl rfl rfl ⟨rfl, rfl, rfl, rfl, rfl⟩ rfl rfl rfl rfl rfl xi Tryz.func3 xi
  (of_decide_eq_true (by kernel_rfl)) (by unfold Func.isWrapper; first | (rw [if_pos (by decide +kernel)]; kernel_rfl) | (rw [if_neg (by decide +kernel)]; exact ⟨rfl, rfl⟩))
  (fun os started H enc _ => shiftBest_lifted os started H enc)
#print axioms shiftBest_holds
end Go.Proofs.YtllkbjcemecmjaaGreat
end
