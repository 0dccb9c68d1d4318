/-
  Texts joined: ShG, ShOpB, ShH, ShT, EvL. Conditions: none.
-/
import Derived.Test.YtmoipmnhgdmkpaaJQ8
import Derived.Test.YtmoipmnhgdmkpaaRows
import Derived.Test.YtmoipmnhgdmkpaaJQ6
import Derived.ProofKit
import Derived.Below
import Derived.ChangeShapes
import Derived.ChangeSame
import Derived.ChangeSlices
import Derived.DataReads
import Derived.Test.YtmoipmnhgdmkpaaJQ3
section
namespace Go.Proofs.Ytmoipmnhgdmkpaa.Aw
set_option linter.unusedSimpArgs false
set_option linter.unusedVariables false
set_option linter.unusedSectionVars false
open Go.RowKit Go.Proofs
variable {P : Program} [IsP P]

inductive Br where
  | mk (s t : Int) (l : List Br) (y : List Fr)
instance : Inhabited Br := ⟨.mk 0 0 [] []⟩
mutual
def eBr : Br → AV
  | .mk s t l y => .agg [eI s, eI t, .sl (eBrs l), eL eF y]
def eBrs : List Br → List AV
  | [] => []
  | b :: l => eBr b :: eBrs l
end
theorem eBrs_map : ∀ l : List Br, eBrs l = l.map eBr
  | [] => by simp [eBrs]
  | b :: l => by simp [eBrs, eBrs_map l]
theorem eBr_mk (s t : Int) (l : List Br) (y : List Fr) : eBr (.mk s t l y) = .agg [eI s, eI t, eL eBr l, eL eF y] := by
  rw [eBr, eBrs_map]; rfl
mutual
theorem lo_Br : ∀ b : Br, Lo 0 (eBr b)
  | .mk s t l y => by
    rw [eBr]
    exact .agg _ (zad (.s _) (zad (.s _) (zad (.sl _ (lo_Brs l)) (zad (lo_Fs y) zai))))
theorem lo_Brs : ∀ l : List Br, ∀ c ∈ eBrs l, Lo 0 c
  | [], c, h => by simp [eBrs] at h
  | b :: l, c, h => by
    rw [eBrs] at h
    rcases List.mem_cons.1 h with e | h
    · rw [e]; exact lo_Br b
    · exact lo_Brs l c h
end
def rgtE (d : List Int) (l : List Sft) (c : Int) : Br → List Int → List Int → Int → Bool × Int
  | .mk s t [] y, lo, hi, n => if n ≤ 0 then (false, 0) else (decide (s = 0) && (decide (t = 0) && prvB d l lo hi y c), n - 1)
  | .mk s t [a, b] y, lo, hi, n => if n ≤ 0 then (false, 0) else if ¬ (y.length = 0 ∧ 0 ≤ s ∧ s < (l.length : Int) ∧ gti lo s.toNat ≤ t ∧ t < gti hi s.toNat) then (false, n - 1) else if (rgtE d l c a lo (setI hi s.toNat t) (n - 1)).1 = false then (false, (rgtE d l c a lo (setI hi s.toNat t) (n - 1)).2) else rgtE d l c b (setI lo s.toNat (t + 1)) hi (rgtE d l c a lo (setI hi s.toNat t) (n - 1)).2
  | .mk s t (_ :: []) y, lo, hi, n => if n ≤ 0 then (false, 0) else (false, n - 1)
  | .mk s t (_ :: _ :: _ :: _) y, lo, hi, n => if n ≤ 0 then (false, 0) else (false, n - 1)
theorem rgtE_bd (d : List Int) (l : List Sft) (c : Int) : ∀ (b : Br) (lo hi : List Int) (n : Int), 0 ≤ n → 0 ≤ (rgtE d l c b lo hi n).2 ∧ (rgtE d l c b lo hi n).2 ≤ n
  | .mk s t [] y, lo, hi, n, h => by
    rw [rgtE]; split
    · exact ⟨Int.le_refl _, h⟩
    · dsimp only; omega
  | .mk s t [a, b] y, lo, hi, n, h => by
    rw [rgtE]; split
    · exact ⟨Int.le_refl _, h⟩
    · split
      · dsimp only; omega
      · have h1 := rgtE_bd d l c a lo (setI hi s.toNat t) (n - 1) (by omega)
        split
        · dsimp only; omega
        · have h2 := rgtE_bd d l c b (setI lo s.toNat (t + 1)) hi _ h1.1
          omega
  | .mk s t (_ :: []) y, lo, hi, n, h => by
    rw [rgtE]; split
    · exact ⟨Int.le_refl _, h⟩
    · dsimp only; omega
  | .mk s t (_ :: _ :: _ :: _) y, lo, hi, n, h => by
    rw [rgtE]; split
    · exact ⟨Int.le_refl _, h⟩
    · dsimp only; omega
/-- a box: its numbers are small -/
structure BX (l : List Sft) (lo hi : List Int) : Prop where
  l1 : lo.length = l.length
  l2 : hi.length = l.length
  b1 : ∀ k, k < l.length → 0 ≤ gti lo k ∧ gti lo k ≤ 20
  b2 : ∀ k, k < l.length → 0 ≤ gti hi k ∧ gti hi k ≤ 20
theorem setI_len (l : List Int) (k : Nat) (x : Int) : (setI l k x).length = l.length := by simp [setI]
theorem setI_gti {l : List Int} {k : Nat} {x : Int} (h : k < l.length) (j : Nat) : gti (setI l k x) j = if j = k then x else gti l j := by
  unfold gti setI
  rw [List.getElem?_set]
  by_cases e : j = k
  · subst e; rw [if_pos rfl, if_pos rfl, if_pos h]; rfl
  · rw [if_neg (Ne.symm e), if_neg e]
theorem BX.hi {l : List Sft} {lo hi : List Int} (h : BX l lo hi) {k : Nat} {t : Int} (hk : k < l.length) (h1 : 0 ≤ t) (h2 : t ≤ 20) : BX l lo (setI hi k t) :=
  ⟨h.l1, by rw [setI_len]; exact h.l2, h.b1, fun j hj => by rw [setI_gti (by rw [h.l2]; exact hk)]; split <;> first | exact ⟨h1, h2⟩ | exact h.b2 j hj⟩
theorem BX.lo {l : List Sft} {lo hi : List Int} (h : BX l lo hi) {k : Nat} {t : Int} (hk : k < l.length) (h1 : 0 ≤ t) (h2 : t ≤ 20) : BX l (setI lo k t) hi :=
  ⟨by rw [setI_len]; exact h.l1, h.l2, fun j hj => by rw [setI_gti (by rw [h.l1]; exact hk)]; split <;> first | exact ⟨h1, h2⟩ | exact h.b1 j hj, h.b2⟩
def zeroI (n : Nat) : List Int := List.replicate n 0
theorem first_box {d : List Int} {l : List Sft} (hv : validS d l = true) : BX l (zeroI l.length) (mostL l) := by
  obtain ⟨⟨_, _, q3⟩, _, ql⟩ := validS_iff hv
  refine ⟨by simp [zeroI], mostL_len l, fun k hk => ?_, fun k hk => ?_⟩
  · unfold zeroI gti
    rw [List.getElem?_replicate, if_pos hk]
    exact ⟨Int.le_refl _, by decide⟩
  · rw [mostL_gti hk]; have := (ql k hk).1; omega
set_option maxHeartbeats 1000000 in
theorem first_pf (l : List Sft) (hl : l.length ≤ 12) : Pure P 26 [eL eSh l] (eBx (zeroI l.length) (mostL l)) := by
  have hz : List.replicate l.length (eI 0) = (zeroI l.length).map eI := by simp [zeroI]
  refine aw_fn (by rw [IsP.eq (P := P)]; exact Try.func26) rfl rfl rfl rfl rfl (by repeat' (first | exact Lo.s _ | exact zai | refine zad ?_ ?_ | refine zak ?_ | refine Lo.cells ?_ | refine Lo.agg _ ?_ | refine Lo.ref _ ?_ | refine Lo.tup _ ?_ | refine Lo.fn _ _ ?_ | refine Lo.sl _ ?_ | intro _)) (by repeat' (first | exact Lo.s _ | exact zai | refine zad ?_ ?_ | refine zak ?_ | refine Lo.cells ?_ | refine Lo.agg _ ?_ | refine Lo.ref _ ?_ | refine Lo.tup _ ?_ | refine Lo.fn _ _ ?_ | refine Lo.sl _ ?_ | intro _)) (by simp only [argF]; rfl) ?_
  repeat (first | refine zag ?_ | refine zap ?_ | refine zae ?_ | refine zar ?_ | refine zac ?_)
  refine zaf ?_
  refine zab rfl rfl (zaa rfl) (zbt rfl ti69 rfl rfl) ?_
  refine zam ?_
  repeat (first | refine zag ?_ | refine zap ?_ | refine zae ?_ | refine zar ?_ | refine zac ?_)
  all_goals refine aw_draw hmix ?_
  all_goals refine adraw_ex ?_
  all_goals (first | refine zaq rfl rfl (zaa rfl) (fun _ => (za9 (.inl rfl) rfl)) ?_ | refine zaq rfl rfl (zaa rfl) (fun _ => (zbp (.inl rfl) rfl)) ?_ | refine zaq rfl rfl (zaa rfl) (fun _ => (mv_s (.inl rfl) rfl)) ?_ | refine zaq rfl rfl (zaa rfl) (fun _ => (zba (.inl rfl) rfl)) ?_)
  all_goals (first | refine zaq rfl rfl (zaa rfl) (fun _ => (za3 rfl ts23 rfl)) ?_ | refine zaq rfl rfl (zaa rfl) (fun _ => (za8 rfl ts23 rfl)) ?_ | refine zaq rfl rfl (zaa rfl) (fun _ => (za0 rfl ts23 rfl)) ?_ | refine zaq rfl rfl (zaa rfl) (fun _ => (zbe rfl ts23 rfl)) ?_ | refine zaq rfl rfl (zaa rfl) (fun _ => (za1 rfl ts23 rfl)) ?_)
  all_goals refine ex_eff rfl rfl (zaa rfl) (does_make rfl ts22 ti3 rfl rfl (by decide) rfl rfl rfl rfl (by omega) (by omega) (by omega)) (fun _ h => app_other h) ?_
  all_goals (first | refine zaq rfl rfl (zaa rfl) (fun _ => (za9 (.inl rfl) rfl)) ?_ | refine zaq rfl rfl (zaa rfl) (fun _ => (zbp (.inl rfl) rfl)) ?_ | refine zaq rfl rfl (zaa rfl) (fun _ => (mv_s (.inl rfl) rfl)) ?_ | refine zaq rfl rfl (zaa rfl) (fun _ => (zba (.inl rfl) rfl)) ?_)
  all_goals refine zaq rfl rfl (zaa rfl) (fun _ => (za2 rfl rfl ((most_pf l hl)) (zat rfl zbl))) ?_
  all_goals refine zaq rfl rfl (zaa rfl) (fun _ => (does_build rfl ti69 tp69 rfl rfl)) ?_
  all_goals refine ex_eff0 rfl (zaa rfl) (zbd rfl ti69 rfl rfl rfl rfl rfl rfl (by decide) (by decide)) (fun _ h => set_other h) ?_
  all_goals refine ex_nil (by kernel_rfl) ?_
  all_goals (repeat (first | refine zag ?_ | refine zap ?_ | refine zae ?_ | refine zar ?_ | refine zac ?_))
  (refine zbw ?_; repeat (first | refine ath_r ?_ | refine abl_r ?_))
  refine post_c1 (N := 0) (.inr rfl) ta69 ti69 rfl rfl rfl rfl rfl ?_
  refine .agg _ _ rfl (FiniL.cons ?_ (FiniL.cons (.refl _) FiniL.nil)).2
  unfold eL
  rw [← hz]
  exact .own _ _ _ _ _ rfl rfl (by simp)
def eBI (r : Bool × Int) : AV := .tup [eB r.1, eI r.2]
theorem post_bi {N : Nat} {F : Frm} {σ : List Ob} {t u : Nat} {r : Bool × Int} {b : Bool} {n : Int} {e : Exit} (he : e = .normal ∨ e = .ret) (h : F.get t = eB b) (h' : F.get u = eI n) (hr : r = (b, n)) : APost P [.tmp t, .tmp u] (eBI r) e F σ := by
  subst hr
  exact post2 he h h' (.refl _) (.refl _)
theorem rgt_0 {d : List Int} {l : List Sft} {c s t : Int} {L : List Br} {y : List Fr} {lo hi : List Int} {n : Int} (h : n ≤ 0) : rgtE d l c (.mk s t L y) lo hi n = (false, 0) := by
  match L with
  | [] => rw [rgtE, if_pos h]
  | [_] => rw [rgtE, if_pos h]
  | [_, _] => rw [rgtE, if_pos h]
  | _ :: _ :: _ :: _ => rw [rgtE, if_pos h]
theorem rgt_leaf {d : List Int} {l : List Sft} {c s t : Int} {L : List Br} {y : List Fr} {lo hi : List Int} {n : Int} (h : ¬ n ≤ 0) (hL : L.length = 0) : rgtE d l c (.mk s t L y) lo hi n = (decide (s = 0) && (decide (t = 0) && prvB d l lo hi y c), n - 1) := by
  match L, hL with
  | [], _ => rw [rgtE, if_neg h]
theorem rgt_bad {d : List Int} {l : List Sft} {c s t : Int} {L : List Br} {y : List Fr} {lo hi : List Int} {n : Int} (h : ¬ n ≤ 0) (hL : L.length ≠ 0) (hb : ¬ (L.length = 2 ∧ y.length = 0 ∧ 0 ≤ s ∧ s < (l.length : Int) ∧ gti lo s.toNat ≤ t ∧ t < gti hi s.toNat)) : rgtE d l c (.mk s t L y) lo hi n = (false, n - 1) := by
  match L, hL, hb with
  | [_], _, _ => rw [rgtE, if_neg h]
  | [_, _], _, hb => rw [rgtE, if_neg h, if_pos (fun g => hb ⟨rfl, g⟩)]
  | _ :: _ :: _ :: _, _, _ => rw [rgtE, if_neg h]
theorem rgt_two {d : List Int} {l : List Sft} {c s t : Int} {a b : Br} {y : List Fr} {lo hi : List Int} {n : Int} (h : ¬ n ≤ 0) (hb : y.length = 0 ∧ 0 ≤ s ∧ s < (l.length : Int) ∧ gti lo s.toNat ≤ t ∧ t < gti hi s.toNat) : rgtE d l c (.mk s t [a, b] y) lo hi n = if (rgtE d l c a lo (setI hi s.toNat t) (n - 1)).1 = false then (false, (rgtE d l c a lo (setI hi s.toNat t) (n - 1)).2) else rgtE d l c b (setI lo s.toNat (t + 1)) hi (rgtE d l c a lo (setI hi s.toNat t) (n - 1)).2 := by
  rw [rgtE, if_neg h, if_neg (fun g => g hb)]
theorem two_of {L : List Br} (h : L.length = 2) : ∃ a b, L = [a, b] := by
  match L, h with
  | [a, b], _ => exact ⟨a, b, rfl⟩
set_option maxHeartbeats 8000000 in
theorem right_n (d : List Int) (l : List Sft) (c : Int) (hv : validS d l = true) (hc1 : 0 ≤ c) (hc2 : c ≤ 1000000) : ∀ (m : Nat) (b : Br) (lo hi : List Int) (n : Int), SizeOf.sizeOf b < m → BX l lo hi → 0 ≤ n → n ≤ 20000 → Pure P 25 [eL eI d, eL eSh l, eBx lo hi, eBr b, eI c, eI n] (eBI (rgtE d l c b lo hi n)) := by
  intro m
  induction m
  · intro b lo hi n h; omega
  rename_i m IH0
  intro b lo hi n hsz hb hn1 hn2
  obtain ⟨s, t, L, y⟩ := b
  have IH : ∀ b', b' ∈ L → ∀ (lo hi : List Int) (n : Int), BX l lo hi → 0 ≤ n → n ≤ 20000 → Pure P 25 [eL eI d, eL eSh l, eBx lo hi, eBr b', eI c, eI n] (eBI (rgtE d l c b' lo hi n)) := fun b' hb' lo hi n h1 h2 h3 => IH0 b' lo hi n (by have := List.sizeOf_lt_of_mem hb'; simp at hsz; omega) h1 h2 h3
  clear IH0 hsz
  obtain ⟨⟨q1, q2, q3⟩, qd, ql⟩ := validS_iff hv
  obtain ⟨z1, z2, z3, z4⟩ := hb
  obtain ⟨R, HR⟩ : ∃ R, R = rgtE d l c (.mk s t L y) lo hi n := ⟨_, rfl⟩
  rw [← HR]
  have hlo : ∀ x ∈ [eL eI d, eL eSh l, eBx lo hi, eBr (.mk s t L y), eI c, eI n], Lo 0 x := zad (by repeat' (first | exact Lo.s _ | exact zai | refine zad ?_ ?_ | refine zak ?_ | refine Lo.cells ?_ | refine Lo.agg _ ?_ | refine Lo.ref _ ?_ | refine Lo.tup _ ?_ | refine Lo.fn _ _ ?_ | refine Lo.sl _ ?_ | intro _)) (zad (zak lo_Sh) (zad (by repeat' (first | exact Lo.s _ | exact zai | refine zad ?_ ?_ | refine zak ?_ | refine Lo.cells ?_ | refine Lo.agg _ ?_ | refine Lo.ref _ ?_ | refine Lo.tup _ ?_ | refine Lo.fn _ _ ?_ | refine Lo.sl _ ?_ | intro _)) (zad (lo_Br _) (zad (.s _) (zad (.s _) zai)))))
  have hloR : Lo 0 (eBI R) := (by repeat' (first | exact Lo.s _ | exact zai | refine zad ?_ ?_ | refine zak ?_ | refine Lo.cells ?_ | refine Lo.agg _ ?_ | refine Lo.ref _ ?_ | refine Lo.tup _ ?_ | refine Lo.fn _ _ ?_ | refine Lo.sl _ ?_ | intro _))
  rw [eBr_mk] at hlo ⊢
  refine aw_fn (by rw [IsP.eq (P := P)]; exact Try.func25) rfl rfl rfl rfl rfl hlo hloR (by simp only [argF]; rfl) ?_
  repeat (first | refine zag ?_ | refine zap ?_ | refine zae ?_ | refine zar ?_ | refine zac ?_)
  refine aw_bdm (d := 1) rfl (fun hm1 => ?_)
  unfold maxLen at hm1
  refine zaf ?_
  refine zab rfl rfl (zaa rfl) (does_box rfl rfl rfl rfl) ?_
  refine zbo (wk_froz (id := 0) rfl) (zbo (wk_ref (d := 8) rfl rfl rfl) ?_)
  refine zab rfl rfl (zaa rfl) (does_box rfl rfl rfl rfl) ?_
  refine zbo (wk_froz (id := 1) rfl) (zbo (wk_ref (d := 9) rfl rfl rfl) ?_)
  refine zab rfl rfl (zaa rfl) (mv_s (.inr rfl) rfl) ?_
  refine zab rfl rfl (zaa rfl) (mv_s (.inr rfl) rfl) ?_
  refine zam ?_
  repeat (first | refine zag ?_ | refine zap ?_ | refine zae ?_ | refine zar ?_ | refine zac ?_)
  all_goals refine zaf ?_
  all_goals refine zab rfl rfl (zaa rfl) (mv_s (.inl rfl) rfl) ?_
  all_goals (first | refine zbm rfl rfl (zaa rfl) (does_leq rfl rfl rfl) (fun h18 => ?_) (fun h18 => ?_) | refine zbn rfl rfl (zaa rfl) (does_leq rfl rfl rfl) (fun h18 => ?_) (fun h18 => ?_))
  all_goals refine zam ?_
  all_goals (repeat (first | refine zag ?_ | refine zap ?_ | refine zae ?_ | refine zar ?_ | refine zac ?_))
  all_goals (first | refine zbv rfl ?_ | refine zbr rfl ?_)
  all_goals (repeat (first | refine zag ?_ | refine zap ?_ | refine zae ?_ | refine zar ?_ | refine zac ?_))
  · rw [rgt_0 (by omega)] at HR
    refine zaf ?_
    refine zab rfl rfl (zaa rfl) (mv_s (.inr rfl) rfl) ?_
    refine zab rfl rfl (zaa rfl) (mv_s (.inr rfl) rfl) ?_
    refine zam ?_
    repeat (first | refine zag ?_ | refine zap ?_ | refine zae ?_ | refine zar ?_ | refine zac ?_)
    (refine zbw ?_; repeat (first | refine ath_r ?_ | refine abl_r ?_))
    exact post_bi (N := 0) (.inr rfl) rfl rfl HR
  have hn0 : ¬ n ≤ 0 := by omega
  refine zaf ?_
  refine zab rfl rfl (zaa rfl) (mv_s (.inl rfl) rfl) ?_
  refine zab rfl rfl (zaa rfl) (does_sub rfl rfl rfl (IntWalk.i64_in _ (by omega))) ?_
  refine zab rfl rfl (zaa rfl) (mv_s (.inr rfl) rfl) ?_
  refine zam ?_
  repeat (first | refine zag ?_ | refine zap ?_ | refine zae ?_ | refine zar ?_ | refine zac ?_)
  refine zaf ?_
  first | refine zab rfl rfl (zaa rfl) (zao rfl tf29_2 (by decide) rfl) ?_ | refine zab rfl rfl (zaa rfl) (zal rfl tf29_2 (by decide) rfl) ?_
  first | refine zab rfl rfl (zaa rfl) (zan rfl ta26 rfl) ?_ | refine zab rfl rfl (zaa rfl) (zas rfl ta26 rfl rfl rfl rfl rfl) ?_
  first | refine zab rfl rfl (zaa rfl) (za3 rfl ts26 rfl) ?_ | refine zab rfl rfl (zaa rfl) (za8 rfl ts26 rfl) ?_ | refine zab rfl rfl (zaa rfl) (za0 rfl ts26 rfl) ?_ | refine zab rfl rfl (zaa rfl) (zbe rfl ts26 rfl) ?_ | refine zab rfl rfl (zaa rfl) (za1 rfl ts26 rfl) ?_
  refine zab rfl rfl (zaa rfl) (does_eql rfl rfl rfl) ?_
  refine zam ?_
  repeat (first | refine zag ?_ | refine zap ?_ | refine zae ?_ | refine zar ?_ | refine zac ?_)
  refine aw_bdm (d := 22) rfl (fun hm2 => ?_)
  unfold maxLen at hm2
  refine aw_if rfl (fun h => ?_) (fun h => ?_)
  · repeat (first | refine zag ?_ | refine zap ?_ | refine zae ?_ | refine zar ?_ | refine zac ?_)
    rw [rgt_leaf hn0 (by omega)] at HR
    have hpr := proves_pf (P := P) d l lo hi y c hv z1 z2 hc1 hc2
    generalize prvB d l lo hi y c = zp at HR hpr
    all_goals refine zaf ?_
    all_goals (first | refine zab rfl rfl (zaa rfl) (zao rfl tf29_0 (by decide) rfl) ?_ | refine zab rfl rfl (zaa rfl) (zal rfl tf29_0 (by decide) rfl) ?_)
    all_goals (first | refine zab rfl rfl (zaa rfl) (zan rfl ta3 rfl) ?_ | refine zab rfl rfl (zaa rfl) (zas rfl ta3 rfl rfl rfl rfl rfl) ?_)
    all_goals (first | refine zbm rfl rfl (zaa rfl) (does_eql rfl rfl rfl) (fun h27 => ?_) (fun h27 => ?_) | refine zbn rfl rfl (zaa rfl) (does_eql rfl rfl rfl) (fun h27 => ?_) (fun h27 => ?_))
    all_goals refine zab rfl rfl (zaa rfl) (mv_s (.inl rfl) rfl) ?_
    all_goals (first | refine zab rfl rfl (zah rfl rfl rfl) (zao rfl tf29_1 (by decide) rfl) ?_ | refine zab rfl rfl (zah rfl rfl rfl) (zal rfl tf29_1 (by decide) rfl) ?_ | refine zaj rfl rfl (runs_nt rfl rfl rfl) ?_ | refine zaj rfl rfl (zau rfl rfl rfl) ?_)
    all_goals (first | refine zab rfl rfl (zah rfl rfl rfl) (zan rfl ta3 rfl) ?_ | refine zab rfl rfl (zah rfl rfl rfl) (zas rfl ta3 rfl rfl rfl rfl rfl) ?_ | refine zaj rfl rfl (runs_nt rfl rfl rfl) ?_ | refine zaj rfl rfl (zau rfl rfl rfl) ?_)
    all_goals (first | refine zbm rfl rfl (zah rfl rfl rfl) (does_eql rfl rfl rfl) (fun h31 => ?_) (fun h31 => ?_) | refine zbn rfl rfl (zah rfl rfl rfl) (does_eql rfl rfl rfl) (fun h31 => ?_) (fun h31 => ?_) | refine zaj rfl rfl (runs_nt rfl rfl rfl) ?_ | refine zaj rfl rfl (zau rfl rfl rfl) ?_)
    all_goals (first | refine zab rfl rfl (zaa rfl) (pickT_s rfl rfl rfl) ?_ | refine zab rfl rfl (zaa rfl) (pickF_s rfl rfl rfl) ?_ | refine zab rfl rfl (zaa rfl) (zbi rfl rfl rfl) ?_ | refine zab rfl rfl (zaa rfl) (zbj rfl rfl rfl) ?_)
    all_goals refine zab rfl rfl (zaa rfl) (mv_s (.inl rfl) rfl) ?_
    all_goals (first | refine zab rfl rfl (zah rfl rfl rfl) (za9 (.inl rfl) rfl) ?_ | refine zab rfl rfl (zah rfl rfl rfl) (zbp (.inl rfl) rfl) ?_ | refine zab rfl rfl (zah rfl rfl rfl) (mv_s (.inl rfl) rfl) ?_ | refine zab rfl rfl (zah rfl rfl rfl) (zba (.inl rfl) rfl) ?_ | refine zaj rfl rfl (runs_nt rfl rfl rfl) ?_ | refine zaj rfl rfl (zau rfl rfl rfl) ?_)
    all_goals (first | refine zab rfl rfl (zah rfl rfl rfl) (za9 (.inl rfl) rfl) ?_ | refine zab rfl rfl (zah rfl rfl rfl) (zbp (.inl rfl) rfl) ?_ | refine zab rfl rfl (zah rfl rfl rfl) (mv_s (.inl rfl) rfl) ?_ | refine zab rfl rfl (zah rfl rfl rfl) (zba (.inl rfl) rfl) ?_ | refine zaj rfl rfl (runs_nt rfl rfl rfl) ?_ | refine zaj rfl rfl (zau rfl rfl rfl) ?_)
    all_goals (first | refine zab rfl rfl (zah rfl rfl rfl) (zax rfl ta69 ti69 rfl rfl) ?_ | refine zab rfl rfl (zah rfl rfl rfl) (za6 rfl ta69 ti69 rfl rfl rfl rfl rfl) ?_ | refine zab rfl rfl (zah rfl rfl rfl) (zav rfl ta69 ti69 rfl (Nat.le_of_ble_eq_true rfl)) ?_ | refine zab rfl rfl (zah rfl rfl rfl) (za7 rfl ta69 ti69 rfl rfl rfl rfl (Nat.le_of_ble_eq_true rfl)) ?_ | refine zaj rfl rfl (runs_nt rfl rfl rfl) ?_ | refine zaj rfl rfl (zau rfl rfl rfl) ?_)
    all_goals (first | refine zab rfl rfl (zah rfl rfl rfl) (zao rfl tf29_3 (by decide) rfl) ?_ | refine zab rfl rfl (zah rfl rfl rfl) (zal rfl tf29_3 (by decide) rfl) ?_ | refine zaj rfl rfl (runs_nt rfl rfl rfl) ?_ | refine zaj rfl rfl (zau rfl rfl rfl) ?_)
    all_goals (first | refine zab rfl rfl (zah rfl rfl rfl) (zan rfl ta27 rfl) ?_ | refine zab rfl rfl (zah rfl rfl rfl) (zas rfl ta27 rfl rfl rfl rfl rfl) ?_ | refine zaj rfl rfl (runs_nt rfl rfl rfl) ?_ | refine zaj rfl rfl (zau rfl rfl rfl) ?_)
    all_goals (first | refine zab rfl rfl (zah rfl rfl rfl) (mv_s (.inl rfl) rfl) ?_ | refine zaj rfl rfl (runs_nt rfl rfl rfl) ?_ | refine zaj rfl rfl (zau rfl rfl rfl) ?_)
    all_goals (first | refine zbm rfl rfl (zah rfl rfl rfl) (za2 rfl rfl (hpr) (zat rfl (zat rfl (zat rfl (zat rfl (zat rfl zbl)))))) (fun h40 => ?_) (fun h40 => ?_) | refine zbn rfl rfl (zah rfl rfl rfl) (za2 rfl rfl (hpr) (zat rfl (zat rfl (zat rfl (zat rfl (zat rfl zbl)))))) (fun h40 => ?_) (fun h40 => ?_) | refine zaj rfl rfl (runs_nt rfl rfl rfl) ?_ | refine zaj rfl rfl (zau rfl rfl rfl) ?_)
    all_goals (first | refine zab rfl rfl (zaa rfl) (pickT_s rfl rfl rfl) ?_ | refine zab rfl rfl (zaa rfl) (pickF_s rfl rfl rfl) ?_ | refine zab rfl rfl (zaa rfl) (zbi rfl rfl rfl) ?_ | refine zab rfl rfl (zaa rfl) (zbj rfl rfl rfl) ?_)
    all_goals refine zab rfl rfl (zaa rfl) (mv_s (.inl rfl) rfl) ?_
    all_goals refine zab rfl rfl (zaa rfl) (mv_s (.inr rfl) rfl) ?_
    all_goals refine zab rfl rfl (zaa rfl) (mv_s (.inr rfl) rfl) ?_
    all_goals refine zam ?_
    all_goals (repeat (first | refine zag ?_ | refine zap ?_ | refine zae ?_ | refine zar ?_ | refine zac ?_))
    all_goals (refine zbw ?_; repeat (first | refine ath_r ?_ | refine abl_r ?_))
    all_goals exact post_bi (N := 0) (.inr rfl) rfl rfl (by
      rw [HR]
      first
      | (rw [decide_eq_false (show ¬ (s = 0) by omega)]; rfl)
      | (rw [decide_eq_true (show s = 0 by omega), decide_eq_false (show ¬ (t = 0) by omega)]; rfl)
      | (rw [decide_eq_true (show s = 0 by omega), decide_eq_true (show t = 0 by omega), h40]; rfl))
  have hL0 : L.length ≠ 0 := by omega
  repeat (first | refine zag ?_ | refine zap ?_ | refine zae ?_ | refine zar ?_ | refine zac ?_)
  refine aw_bdm (d := 22) rfl (fun hm4 => ?_)
  all_goals refine aw_draw hmix ?_
  all_goals refine adraw_quiet (by kernel_rfl) ?_
  all_goals (first | refine za4 rfl rfl (zaa rfl) (zao rfl tf29_2 (by decide) rfl) ?_ | refine za4 rfl rfl (zaa rfl) (zal rfl tf29_2 (by decide) rfl) ?_)
  all_goals (first | refine za4 rfl rfl (zaa rfl) (zan rfl ta26 rfl) ?_ | refine za4 rfl rfl (zaa rfl) (zas rfl ta26 rfl rfl rfl rfl rfl) ?_)
  all_goals (first | refine za4 rfl rfl (zaa rfl) (za3 rfl ts26 rfl) ?_ | refine za4 rfl rfl (zaa rfl) (za8 rfl ts26 rfl) ?_ | refine za4 rfl rfl (zaa rfl) (za0 rfl ts26 rfl) ?_ | refine za4 rfl rfl (zaa rfl) (zbe rfl ts26 rfl) ?_ | refine za4 rfl rfl (zaa rfl) (za1 rfl ts26 rfl) ?_)
  all_goals (first | refine qx_opP rfl rfl (zaa rfl) (does_neq rfl rfl rfl) (fun h46 => ?_) (fun h46 => ?_) | refine qx_opB rfl rfl (zaa rfl) (does_neq rfl rfl rfl) (fun h46 => ?_) (fun h46 => ?_))
  all_goals refine za4 rfl rfl (zaa rfl) (mv_s (.inl rfl) rfl) ?_
  all_goals (first | refine za4 rfl rfl (zah rfl rfl rfl) (zao rfl tf29_3 (by decide) rfl) ?_ | refine za4 rfl rfl (zah rfl rfl rfl) (zal rfl tf29_3 (by decide) rfl) ?_ | refine zbc rfl rfl (zaw rfl rfl rfl) ?_ | refine zbc rfl rfl (zau rfl rfl rfl) ?_)
  all_goals (first | refine za4 rfl rfl (zah rfl rfl rfl) (zan rfl ta27 rfl) ?_ | refine za4 rfl rfl (zah rfl rfl rfl) (zas rfl ta27 rfl rfl rfl rfl rfl) ?_ | refine zbc rfl rfl (zaw rfl rfl rfl) ?_ | refine zbc rfl rfl (zau rfl rfl rfl) ?_)
  all_goals (first | refine za4 rfl rfl (zah rfl rfl rfl) (za3 rfl ts27 rfl) ?_ | refine za4 rfl rfl (zah rfl rfl rfl) (za8 rfl ts27 rfl) ?_ | refine za4 rfl rfl (zah rfl rfl rfl) (za0 rfl ts27 rfl) ?_ | refine za4 rfl rfl (zah rfl rfl rfl) (zbe rfl ts27 rfl) ?_ | refine za4 rfl rfl (zah rfl rfl rfl) (za1 rfl ts27 rfl) ?_ | refine zbc rfl rfl (zaw rfl rfl rfl) ?_ | refine zbc rfl rfl (zau rfl rfl rfl) ?_)
  all_goals (first | refine qx_opP rfl rfl (zah rfl rfl rfl) (does_gtr rfl rfl rfl) (fun h51 => ?_) (fun h51 => ?_) | refine qx_opB rfl rfl (zah rfl rfl rfl) (does_gtr rfl rfl rfl) (fun h51 => ?_) (fun h51 => ?_) | refine zbc rfl rfl (zaw rfl rfl rfl) ?_ | refine zbc rfl rfl (zau rfl rfl rfl) ?_)
  all_goals (first | refine za4 rfl rfl (zaa rfl) (pickT_s rfl rfl rfl) ?_ | refine za4 rfl rfl (zaa rfl) (pickF_s rfl rfl rfl) ?_ | refine za4 rfl rfl (zaa rfl) (zbi rfl rfl rfl) ?_ | refine za4 rfl rfl (zaa rfl) (zbj rfl rfl rfl) ?_)
  all_goals refine za4 rfl rfl (zaa rfl) (mv_s (.inl rfl) rfl) ?_
  all_goals (first | refine za4 rfl rfl (zah rfl rfl rfl) (zao rfl tf29_0 (by decide) rfl) ?_ | refine za4 rfl rfl (zah rfl rfl rfl) (zal rfl tf29_0 (by decide) rfl) ?_ | refine zbc rfl rfl (zaw rfl rfl rfl) ?_ | refine zbc rfl rfl (zau rfl rfl rfl) ?_)
  all_goals (first | refine za4 rfl rfl (zah rfl rfl rfl) (zan rfl ta3 rfl) ?_ | refine za4 rfl rfl (zah rfl rfl rfl) (zas rfl ta3 rfl rfl rfl rfl rfl) ?_ | refine zbc rfl rfl (zaw rfl rfl rfl) ?_ | refine zbc rfl rfl (zau rfl rfl rfl) ?_)
  all_goals (first | refine qx_opP rfl rfl (zah rfl rfl rfl) (zbh rfl rfl rfl) (fun h56 => ?_) (fun h56 => ?_) | refine qx_opB rfl rfl (zah rfl rfl rfl) (zbh rfl rfl rfl) (fun h56 => ?_) (fun h56 => ?_) | refine zbc rfl rfl (zaw rfl rfl rfl) ?_ | refine zbc rfl rfl (zau rfl rfl rfl) ?_)
  all_goals (first | refine za4 rfl rfl (zaa rfl) (pickT_s rfl rfl rfl) ?_ | refine za4 rfl rfl (zaa rfl) (pickF_s rfl rfl rfl) ?_ | refine za4 rfl rfl (zaa rfl) (zbi rfl rfl rfl) ?_ | refine za4 rfl rfl (zaa rfl) (zbj rfl rfl rfl) ?_)
  all_goals refine za4 rfl rfl (zaa rfl) (mv_s (.inl rfl) rfl) ?_
  all_goals (first | refine za4 rfl rfl (zah rfl rfl rfl) (zao rfl tf29_0 (by decide) rfl) ?_ | refine za4 rfl rfl (zah rfl rfl rfl) (zal rfl tf29_0 (by decide) rfl) ?_ | refine zbc rfl rfl (zaw rfl rfl rfl) ?_ | refine zbc rfl rfl (zau rfl rfl rfl) ?_)
  all_goals (first | refine za4 rfl rfl (zah rfl rfl rfl) (zan rfl ta3 rfl) ?_ | refine za4 rfl rfl (zah rfl rfl rfl) (zas rfl ta3 rfl rfl rfl rfl rfl) ?_ | refine zbc rfl rfl (zaw rfl rfl rfl) ?_ | refine zbc rfl rfl (zau rfl rfl rfl) ?_)
  all_goals (first | refine za4 rfl rfl (zah rfl rfl rfl) (za9 (.inl rfl) rfl) ?_ | refine za4 rfl rfl (zah rfl rfl rfl) (zbp (.inl rfl) rfl) ?_ | refine za4 rfl rfl (zah rfl rfl rfl) (mv_s (.inl rfl) rfl) ?_ | refine za4 rfl rfl (zah rfl rfl rfl) (zba (.inl rfl) rfl) ?_ | refine zbc rfl rfl (zaw rfl rfl rfl) ?_ | refine zbc rfl rfl (zau rfl rfl rfl) ?_)
  all_goals (first | refine za4 rfl rfl (zah rfl rfl rfl) (za3 rfl ts23 rfl) ?_ | refine za4 rfl rfl (zah rfl rfl rfl) (za8 rfl ts23 rfl) ?_ | refine za4 rfl rfl (zah rfl rfl rfl) (za0 rfl ts23 rfl) ?_ | refine za4 rfl rfl (zah rfl rfl rfl) (zbe rfl ts23 rfl) ?_ | refine za4 rfl rfl (zah rfl rfl rfl) (za1 rfl ts23 rfl) ?_ | refine zbc rfl rfl (zaw rfl rfl rfl) ?_ | refine zbc rfl rfl (zau rfl rfl rfl) ?_)
  all_goals (first | refine qx_opP rfl rfl (zah rfl rfl rfl) (does_geq rfl rfl rfl) (fun h63 => ?_) (fun h63 => ?_) | refine qx_opB rfl rfl (zah rfl rfl rfl) (does_geq rfl rfl rfl) (fun h63 => ?_) (fun h63 => ?_) | refine zbc rfl rfl (zaw rfl rfl rfl) ?_ | refine zbc rfl rfl (zau rfl rfl rfl) ?_)
  all_goals (first | refine za4 rfl rfl (zaa rfl) (pickT_s rfl rfl rfl) ?_ | refine za4 rfl rfl (zaa rfl) (pickF_s rfl rfl rfl) ?_ | refine za4 rfl rfl (zaa rfl) (zbi rfl rfl rfl) ?_ | refine za4 rfl rfl (zaa rfl) (zbj rfl rfl rfl) ?_)
  all_goals refine za4 rfl rfl (zaa rfl) (mv_s (.inl rfl) rfl) ?_
  all_goals (first | refine za4 rfl rfl (zah rfl rfl rfl) (zao rfl tf29_1 (by decide) rfl) ?_ | refine za4 rfl rfl (zah rfl rfl rfl) (zal rfl tf29_1 (by decide) rfl) ?_ | refine zbc rfl rfl (zaw rfl rfl rfl) ?_ | refine zbc rfl rfl (zau rfl rfl rfl) ?_)
  all_goals (first | refine za4 rfl rfl (zah rfl rfl rfl) (zan rfl ta3 rfl) ?_ | refine za4 rfl rfl (zah rfl rfl rfl) (zas rfl ta3 rfl rfl rfl rfl rfl) ?_ | refine zbc rfl rfl (zaw rfl rfl rfl) ?_ | refine zbc rfl rfl (zau rfl rfl rfl) ?_)
  all_goals (first | refine za4 rfl rfl (zah rfl rfl rfl) (zao rfl tf69_0 (by decide) rfl) ?_ | refine za4 rfl rfl (zah rfl rfl rfl) (zal rfl tf69_0 (by decide) rfl) ?_ | refine zbc rfl rfl (zaw rfl rfl rfl) ?_ | refine zbc rfl rfl (zau rfl rfl rfl) ?_)
  all_goals (first | refine za4 rfl rfl (zah rfl rfl rfl) (zan rfl ta22 rfl) ?_ | refine za4 rfl rfl (zah rfl rfl rfl) (zas rfl ta22 rfl rfl rfl rfl rfl) ?_ | refine zbc rfl rfl (zaw rfl rfl rfl) ?_ | refine zbc rfl rfl (zau rfl rfl rfl) ?_)
  all_goals (first | refine za4 rfl rfl (zah rfl rfl rfl) (zao rfl tf29_0 (by decide) rfl) ?_ | refine za4 rfl rfl (zah rfl rfl rfl) (zal rfl tf29_0 (by decide) rfl) ?_ | refine zbc rfl rfl (zaw rfl rfl rfl) ?_ | refine zbc rfl rfl (zau rfl rfl rfl) ?_)
  all_goals (first | refine za4 rfl rfl (zah rfl rfl rfl) (zan rfl ta3 rfl) ?_ | refine za4 rfl rfl (zah rfl rfl rfl) (zas rfl ta3 rfl rfl rfl rfl rfl) ?_ | refine zbc rfl rfl (zaw rfl rfl rfl) ?_ | refine zbc rfl rfl (zau rfl rfl rfl) ?_)
  all_goals (first | refine za4 rfl rfl (zah rfl rfl rfl) (zaz rfl ts22 ti3 rfl rfl (by omega) (ix_map (k := s.toNat) (by omega)) rfl) ?_ | refine za4 rfl rfl (zah rfl rfl rfl) (zay rfl ts22 ti3 rfl rfl (by omega) (ix_map (k := s.toNat) (by omega))) ?_ | refine zbc rfl rfl (zaw rfl rfl rfl) ?_ | refine zbc rfl rfl (zau rfl rfl rfl) ?_)
  all_goals (first | refine za4 rfl rfl (zah rfl rfl rfl) (zan rfl ta3 rfl) ?_ | refine za4 rfl rfl (zah rfl rfl rfl) (zas rfl ta3 rfl rfl rfl rfl rfl) ?_ | refine zbc rfl rfl (zaw rfl rfl rfl) ?_ | refine zbc rfl rfl (zau rfl rfl rfl) ?_)
  all_goals (first | refine qx_opP rfl rfl (zah rfl rfl rfl) (zbh rfl rfl rfl) (fun h74 => ?_) (fun h74 => ?_) | refine qx_opB rfl rfl (zah rfl rfl rfl) (zbh rfl rfl rfl) (fun h74 => ?_) (fun h74 => ?_) | refine zbc rfl rfl (zaw rfl rfl rfl) ?_ | refine zbc rfl rfl (zau rfl rfl rfl) ?_)
  all_goals (first | refine za4 rfl rfl (zaa rfl) (pickT_s rfl rfl rfl) ?_ | refine za4 rfl rfl (zaa rfl) (pickF_s rfl rfl rfl) ?_ | refine za4 rfl rfl (zaa rfl) (zbi rfl rfl rfl) ?_ | refine za4 rfl rfl (zaa rfl) (zbj rfl rfl rfl) ?_)
  all_goals refine za4 rfl rfl (zaa rfl) (mv_s (.inl rfl) rfl) ?_
  all_goals (first | refine za4 rfl rfl (zah rfl rfl rfl) (zao rfl tf29_1 (by decide) rfl) ?_ | refine za4 rfl rfl (zah rfl rfl rfl) (zal rfl tf29_1 (by decide) rfl) ?_ | refine zbc rfl rfl (zaw rfl rfl rfl) ?_ | refine zbc rfl rfl (zau rfl rfl rfl) ?_)
  all_goals (first | refine za4 rfl rfl (zah rfl rfl rfl) (zan rfl ta3 rfl) ?_ | refine za4 rfl rfl (zah rfl rfl rfl) (zas rfl ta3 rfl rfl rfl rfl rfl) ?_ | refine zbc rfl rfl (zaw rfl rfl rfl) ?_ | refine zbc rfl rfl (zau rfl rfl rfl) ?_)
  all_goals (first | refine za4 rfl rfl (zah rfl rfl rfl) (zao rfl tf69_1 (by decide) rfl) ?_ | refine za4 rfl rfl (zah rfl rfl rfl) (zal rfl tf69_1 (by decide) rfl) ?_ | refine zbc rfl rfl (zaw rfl rfl rfl) ?_ | refine zbc rfl rfl (zau rfl rfl rfl) ?_)
  all_goals (first | refine za4 rfl rfl (zah rfl rfl rfl) (zan rfl ta22 rfl) ?_ | refine za4 rfl rfl (zah rfl rfl rfl) (zas rfl ta22 rfl rfl rfl rfl rfl) ?_ | refine zbc rfl rfl (zaw rfl rfl rfl) ?_ | refine zbc rfl rfl (zau rfl rfl rfl) ?_)
  all_goals (first | refine za4 rfl rfl (zah rfl rfl rfl) (zao rfl tf29_0 (by decide) rfl) ?_ | refine za4 rfl rfl (zah rfl rfl rfl) (zal rfl tf29_0 (by decide) rfl) ?_ | refine zbc rfl rfl (zaw rfl rfl rfl) ?_ | refine zbc rfl rfl (zau rfl rfl rfl) ?_)
  all_goals (first | refine za4 rfl rfl (zah rfl rfl rfl) (zan rfl ta3 rfl) ?_ | refine za4 rfl rfl (zah rfl rfl rfl) (zas rfl ta3 rfl rfl rfl rfl rfl) ?_ | refine zbc rfl rfl (zaw rfl rfl rfl) ?_ | refine zbc rfl rfl (zau rfl rfl rfl) ?_)
  all_goals (first | refine za4 rfl rfl (zah rfl rfl rfl) (zaz rfl ts22 ti3 rfl rfl (by omega) (ix_map (k := s.toNat) (by omega)) rfl) ?_ | refine za4 rfl rfl (zah rfl rfl rfl) (zay rfl ts22 ti3 rfl rfl (by omega) (ix_map (k := s.toNat) (by omega))) ?_ | refine zbc rfl rfl (zaw rfl rfl rfl) ?_ | refine zbc rfl rfl (zau rfl rfl rfl) ?_)
  all_goals (first | refine za4 rfl rfl (zah rfl rfl rfl) (zan rfl ta3 rfl) ?_ | refine za4 rfl rfl (zah rfl rfl rfl) (zas rfl ta3 rfl rfl rfl rfl rfl) ?_ | refine zbc rfl rfl (zaw rfl rfl rfl) ?_ | refine zbc rfl rfl (zau rfl rfl rfl) ?_)
  all_goals (first | refine qx_opP rfl rfl (zah rfl rfl rfl) (does_geq rfl rfl rfl) (fun h85 => ?_) (fun h85 => ?_) | refine qx_opB rfl rfl (zah rfl rfl rfl) (does_geq rfl rfl rfl) (fun h85 => ?_) (fun h85 => ?_) | refine zbc rfl rfl (zaw rfl rfl rfl) ?_ | refine zbc rfl rfl (zau rfl rfl rfl) ?_)
  all_goals (first | refine za4 rfl rfl (zaa rfl) (pickT_s rfl rfl rfl) ?_ | refine za4 rfl rfl (zaa rfl) (pickF_s rfl rfl rfl) ?_ | refine za4 rfl rfl (zaa rfl) (zbi rfl rfl rfl) ?_ | refine za4 rfl rfl (zaa rfl) (zbj rfl rfl rfl) ?_)
  all_goals refine qx_nil ?_
  all_goals (repeat (first | refine zag ?_ | refine zap ?_ | refine zae ?_ | refine zar ?_ | refine zac ?_))
  all_goals (first | refine zbv rfl ?_ | refine zbr rfl ?_)
  all_goals (repeat (first | refine zag ?_ | refine zap ?_ | refine zae ?_ | refine zar ?_ | refine zac ?_))
  all_goals first
    | skip
      rw [rgt_bad hn0 hL0 (by omega)] at HR
      refine zaf ?_
      refine zab rfl rfl (zaa rfl) (mv_s (.inl rfl) rfl) ?_
      refine zab rfl rfl (zaa rfl) (mv_s (.inr rfl) rfl) ?_
      refine zab rfl rfl (zaa rfl) (mv_s (.inr rfl) rfl) ?_
      refine zam ?_
      repeat (first | refine zag ?_ | refine zap ?_ | refine zae ?_ | refine zar ?_ | refine zac ?_)
      (refine zbw ?_; repeat (first | refine ath_r ?_ | refine abl_r ?_))
      exact post_bi (N := 0) (.inr rfl) rfl rfl HR
    | skip
  have hs : s = (s.toNat : Int) := by omega
  have hsl : s.toNat < l.length := by omega
  have b1 := z3 s.toNat hsl
  have b2 := z4 s.toNat hsl
  obtain ⟨a, b, hab⟩ := two_of (L := L) (by omega)
  subst hab
  rw [rgt_two hn0 ⟨by omega, by omega, by omega, by omega, by omega⟩] at HR
  have hbx : BX l lo hi := ⟨z1, z2, z3, z4⟩
  have hhv := halves_pf (P := P) lo hi s.toNat t (by omega) (by omega) (by omega) (by omega) (by omega)
  rw [← hs] at hhv
  have r1 := IH a (by simp) lo (setI hi s.toNat t) (n - 1) (hbx.hi hsl (by omega) (by omega)) (by omega) (by omega)
  have r1b := rgtE_bd d l c a lo (setI hi s.toNat t) (n - 1) (by omega)
  generalize rgtE d l c a lo (setI hi s.toNat t) (n - 1) = x at HR r1 r1b
  have r2 := IH b (by simp) (setI lo s.toNat (t + 1)) hi x.2 (hbx.lo hsl (by omega) (by omega)) r1b.1 (by omega)
  obtain ⟨xz, xn⟩ := x
  replace r1 : Pure P 25 [eL eI d, eL eSh l, eBx lo (setI hi s.toNat t), eBr a, eI c, eI (n - 1)] (.tup [eB xz, eI xn]) := r1
  dsimp only at HR r2
  generalize rgtE d l c b (setI lo s.toNat (t + 1)) hi xn = x2 at HR r2
  obtain ⟨yz, yn⟩ := x2
  replace r2 : Pure P 25 [eL eI d, eL eSh l, eBx (setI lo s.toNat (t + 1)) hi, eBr b, eI c, eI xn] (.tup [eB yz, eI yn]) := r2
  obtain ⟨sa, ta, La, ya⟩ := a
  obtain ⟨sb, tb, Lb, yb⟩ := b
  have hixa : (List.map eBr [.mk sa ta La ya, .mk sb tb Lb yb])[0]? = some (.agg [eI sa, eI ta, eL eBr La, eL eF ya]) := by rw [← eBr_mk]; rfl
  have hixb : (List.map eBr [.mk sa ta La ya, .mk sb tb Lb yb])[1]? = some (.agg [eI sb, eI tb, eL eBr Lb, eL eF yb]) := by rw [← eBr_mk]; rfl
  rw [eBr_mk] at r1 r2
  cases xz with
  | false =>
    rw [if_pos rfl] at HR
    refine zaf ?_
    first | refine zab rfl rfl (zaa rfl) (zax rfl ta69 ti69 rfl rfl) ?_ | refine zab rfl rfl (zaa rfl) (za6 rfl ta69 ti69 rfl rfl rfl rfl rfl) ?_ | refine zab rfl rfl (zaa rfl) (zav rfl ta69 ti69 rfl (Nat.le_of_ble_eq_true rfl)) ?_ | refine zab rfl rfl (zaa rfl) (za7 rfl ta69 ti69 rfl rfl rfl rfl (Nat.le_of_ble_eq_true rfl)) ?_
    first | refine zab rfl rfl (zaa rfl) (zao rfl tf29_0 (by decide) rfl) ?_ | refine zab rfl rfl (zaa rfl) (zal rfl tf29_0 (by decide) rfl) ?_
    first | refine zab rfl rfl (zaa rfl) (zan rfl ta3 rfl) ?_ | refine zab rfl rfl (zaa rfl) (zas rfl ta3 rfl rfl rfl rfl rfl) ?_
    first | refine zab rfl rfl (zaa rfl) (zao rfl tf29_1 (by decide) rfl) ?_ | refine zab rfl rfl (zaa rfl) (zal rfl tf29_1 (by decide) rfl) ?_
    first | refine zab rfl rfl (zaa rfl) (zan rfl ta3 rfl) ?_ | refine zab rfl rfl (zaa rfl) (zas rfl ta3 rfl rfl rfl rfl rfl) ?_
    refine zab rfl rfl (zaa rfl) (za2 rfl rfl (hhv) (zat rfl (zat rfl (zat rfl zbl)))) ?_
    first | refine zab rfl rfl (zaa rfl) (mv_tup (.inl rfl) rfl) ?_ | refine zab rfl rfl (zaa rfl) (mv_s (.inl rfl) rfl) ?_
    refine zab rfl rfl (zaa rfl) (zbb rfl rfl rfl) ?_
    refine zab rfl rfl (zaa rfl) (zbb rfl rfl rfl) ?_
    refine zab rfl rfl (zaa rfl) (zbt rfl ti69 rfl rfl) ?_
    refine zab rfl rfl (zaa rfl) (zbt rfl ti69 rfl rfl) ?_
    refine ops_eff rfl (zaa rfl) (zbd rfl ti69 rfl rfl rfl rfl rfl rfl (by decide) (by decide)) ?_
    refine ops_eff rfl (zaa rfl) (zbd rfl ti69 rfl rfl rfl rfl rfl rfl (by decide) (by decide)) ?_
    refine zam ?_
    repeat (first | refine zag ?_ | refine zap ?_ | refine zae ?_ | refine zar ?_ | refine zac ?_)
    refine aw_weak (wk_froz (id := 2) rfl) ?_
    refine aw_weak (wk_ref (d := 14) rfl rfl rfl) ?_
    refine aw_weak (wk_froz (id := 3) rfl) ?_
    refine aw_weak (wk_ref (d := 15) rfl rfl rfl) ?_
    all_goals refine aw_draw hmix ?_
    all_goals refine adraw_ex ?_
    all_goals (first | refine zaq rfl rfl (zaa rfl) (fun _ => (za9 (.inl rfl) rfl)) ?_ | refine zaq rfl rfl (zaa rfl) (fun _ => (zbp (.inl rfl) rfl)) ?_ | refine zaq rfl rfl (zaa rfl) (fun _ => (mv_s (.inl rfl) rfl)) ?_ | refine zaq rfl rfl (zaa rfl) (fun _ => (zba (.inl rfl) rfl)) ?_)
    all_goals (first | refine zaq rfl rfl (zaa rfl) (fun _ => (za9 (.inl rfl) rfl)) ?_ | refine zaq rfl rfl (zaa rfl) (fun _ => (zbp (.inl rfl) rfl)) ?_ | refine zaq rfl rfl (zaa rfl) (fun _ => (mv_s (.inl rfl) rfl)) ?_ | refine zaq rfl rfl (zaa rfl) (fun _ => (zba (.inl rfl) rfl)) ?_)
    all_goals (first | refine zaq rfl rfl (zaa rfl) (fun _ => (zax rfl ta69 ti69 rfl rfl)) ?_ | refine ex_look rfl rfl (zaa rfl) (look_whole rfl ta69 ti69 rfl rfl rfl rfl rfl) ?_ | refine zaq rfl rfl (zaa rfl) (fun _ => (zav rfl ta69 ti69 rfl (Nat.le_of_ble_eq_true rfl))) ?_ | refine ex_look rfl rfl (zaa rfl) (look_ptrs rfl ta69 ti69 rfl rfl rfl rfl (Nat.le_of_ble_eq_true rfl)) ?_)
    all_goals (first | refine zaq rfl rfl (zaa rfl) (fun _ => (zao rfl tf29_2 (by decide) rfl)) ?_ | refine zaq rfl rfl (zaa rfl) (fun _ => (zal rfl tf29_2 (by decide) rfl)) ?_)
    all_goals (first | refine zaq rfl rfl (zaa rfl) (fun _ => (zan rfl ta26 rfl)) ?_ | refine ex_look rfl rfl (zaa rfl) (look_ptr rfl ta26 rfl rfl rfl rfl rfl) ?_)
    all_goals (first | refine zaq rfl rfl (zaa rfl) (fun _ => (zaz rfl ts26 ti29 rfl rfl (show (0 : Int) = ((0 : Nat) : Int) from rfl) hixa rfl)) ?_ | refine zaq rfl rfl (zaa rfl) (fun _ => (zay rfl ts26 ti29 rfl rfl (show (0 : Int) = ((0 : Nat) : Int) from rfl) hixa)) ?_)
    all_goals (first | refine zaq rfl rfl (zaa rfl) (fun _ => (zax rfl ta29 ti29 rfl rfl)) ?_ | refine ex_look rfl rfl (zaa rfl) (look_whole rfl ta29 ti29 rfl rfl rfl rfl rfl) ?_ | refine zaq rfl rfl (zaa rfl) (fun _ => (zav rfl ta29 ti29 rfl (Nat.le_of_ble_eq_true rfl))) ?_ | refine ex_look rfl rfl (zaa rfl) (look_ptrs rfl ta29 ti29 rfl rfl rfl rfl (Nat.le_of_ble_eq_true rfl)) ?_)
    all_goals refine zaq rfl rfl (zaa rfl) (fun _ => (mv_s (.inl rfl) rfl)) ?_
    all_goals refine zaq rfl rfl (zaa rfl) (fun _ => (mv_s (.inl rfl) rfl)) ?_
    all_goals refine zaq rfl rfl (zaa rfl) (fun _ => (za2 rfl rfl (r1) (zat rfl (zat rfl (zat rfl (zat rfl (zat rfl (zat rfl zbl)))))))) ?_
    all_goals (first | refine zaq rfl rfl (zaa rfl) (fun _ => (mv_tup (.inl rfl) rfl)) ?_ | refine zaq rfl rfl (zaa rfl) (fun _ => (mv_s (.inl rfl) rfl)) ?_)
    all_goals refine zaq rfl rfl (zaa rfl) (fun _ => (zbb rfl rfl rfl)) ?_
    all_goals refine zaq rfl rfl (zaa rfl) (fun _ => (zbb rfl rfl rfl)) ?_
    all_goals refine zaq rfl rfl (zaa rfl) (fun _ => (mv_s (.inr rfl) rfl)) ?_
    all_goals refine zaq rfl rfl (zaa rfl) (fun _ => (mv_s (.inr rfl) rfl)) ?_
    all_goals refine ex_nil (by kernel_rfl) ?_
    all_goals (repeat (first | refine zag ?_ | refine zap ?_ | refine zae ?_ | refine zar ?_ | refine zac ?_))
    refine zaf ?_
    refine zab rfl rfl (zaa rfl) (mv_s (.inl rfl) rfl) ?_
    first | refine zab rfl rfl (zaa rfl) (does_notp rfl rfl) ?_ | refine zab rfl rfl (zaa rfl) (does_not rfl rfl) ?_
    refine zam ?_
    repeat (first | refine zag ?_ | refine zap ?_ | refine zae ?_ | refine zar ?_ | refine zac ?_)
    refine zbv rfl ?_
    repeat (first | refine zag ?_ | refine zap ?_ | refine zae ?_ | refine zar ?_ | refine zac ?_)
    refine zaf ?_
    refine zab rfl rfl (zaa rfl) (mv_s (.inl rfl) rfl) ?_
    refine zab rfl rfl (zaa rfl) (mv_s (.inr rfl) rfl) ?_
    refine zab rfl rfl (zaa rfl) (mv_s (.inr rfl) rfl) ?_
    refine zam ?_
    repeat (first | refine zag ?_ | refine zap ?_ | refine zae ?_ | refine zar ?_ | refine zac ?_)
    (refine zbw ?_; repeat (first | refine ath_r ?_ | refine abl_r ?_))
    exact post_bi (N := 0) (.inr rfl) rfl rfl HR
  | true =>
    rw [if_neg (by simp)] at HR
    refine zaf ?_
    first | refine zab rfl rfl (zaa rfl) (zax rfl ta69 ti69 rfl rfl) ?_ | refine zab rfl rfl (zaa rfl) (za6 rfl ta69 ti69 rfl rfl rfl rfl rfl) ?_ | refine zab rfl rfl (zaa rfl) (zav rfl ta69 ti69 rfl (Nat.le_of_ble_eq_true rfl)) ?_ | refine zab rfl rfl (zaa rfl) (za7 rfl ta69 ti69 rfl rfl rfl rfl (Nat.le_of_ble_eq_true rfl)) ?_
    first | refine zab rfl rfl (zaa rfl) (zao rfl tf29_0 (by decide) rfl) ?_ | refine zab rfl rfl (zaa rfl) (zal rfl tf29_0 (by decide) rfl) ?_
    first | refine zab rfl rfl (zaa rfl) (zan rfl ta3 rfl) ?_ | refine zab rfl rfl (zaa rfl) (zas rfl ta3 rfl rfl rfl rfl rfl) ?_
    first | refine zab rfl rfl (zaa rfl) (zao rfl tf29_1 (by decide) rfl) ?_ | refine zab rfl rfl (zaa rfl) (zal rfl tf29_1 (by decide) rfl) ?_
    first | refine zab rfl rfl (zaa rfl) (zan rfl ta3 rfl) ?_ | refine zab rfl rfl (zaa rfl) (zas rfl ta3 rfl rfl rfl rfl rfl) ?_
    refine zab rfl rfl (zaa rfl) (za2 rfl rfl (hhv) (zat rfl (zat rfl (zat rfl zbl)))) ?_
    first | refine zab rfl rfl (zaa rfl) (mv_tup (.inl rfl) rfl) ?_ | refine zab rfl rfl (zaa rfl) (mv_s (.inl rfl) rfl) ?_
    refine zab rfl rfl (zaa rfl) (zbb rfl rfl rfl) ?_
    refine zab rfl rfl (zaa rfl) (zbb rfl rfl rfl) ?_
    refine zab rfl rfl (zaa rfl) (zbt rfl ti69 rfl rfl) ?_
    refine zab rfl rfl (zaa rfl) (zbt rfl ti69 rfl rfl) ?_
    refine ops_eff rfl (zaa rfl) (zbd rfl ti69 rfl rfl rfl rfl rfl rfl (by decide) (by decide)) ?_
    refine ops_eff rfl (zaa rfl) (zbd rfl ti69 rfl rfl rfl rfl rfl rfl (by decide) (by decide)) ?_
    refine zam ?_
    repeat (first | refine zag ?_ | refine zap ?_ | refine zae ?_ | refine zar ?_ | refine zac ?_)
    refine aw_weak (wk_froz (id := 2) rfl) ?_
    refine aw_weak (wk_ref (d := 14) rfl rfl rfl) ?_
    refine aw_weak (wk_froz (id := 3) rfl) ?_
    refine aw_weak (wk_ref (d := 15) rfl rfl rfl) ?_
    all_goals refine aw_draw hmix ?_
    all_goals refine adraw_ex ?_
    all_goals (first | refine zaq rfl rfl (zaa rfl) (fun _ => (za9 (.inl rfl) rfl)) ?_ | refine zaq rfl rfl (zaa rfl) (fun _ => (zbp (.inl rfl) rfl)) ?_ | refine zaq rfl rfl (zaa rfl) (fun _ => (mv_s (.inl rfl) rfl)) ?_ | refine zaq rfl rfl (zaa rfl) (fun _ => (zba (.inl rfl) rfl)) ?_)
    all_goals (first | refine zaq rfl rfl (zaa rfl) (fun _ => (za9 (.inl rfl) rfl)) ?_ | refine zaq rfl rfl (zaa rfl) (fun _ => (zbp (.inl rfl) rfl)) ?_ | refine zaq rfl rfl (zaa rfl) (fun _ => (mv_s (.inl rfl) rfl)) ?_ | refine zaq rfl rfl (zaa rfl) (fun _ => (zba (.inl rfl) rfl)) ?_)
    all_goals (first | refine zaq rfl rfl (zaa rfl) (fun _ => (zax rfl ta69 ti69 rfl rfl)) ?_ | refine ex_look rfl rfl (zaa rfl) (look_whole rfl ta69 ti69 rfl rfl rfl rfl rfl) ?_ | refine zaq rfl rfl (zaa rfl) (fun _ => (zav rfl ta69 ti69 rfl (Nat.le_of_ble_eq_true rfl))) ?_ | refine ex_look rfl rfl (zaa rfl) (look_ptrs rfl ta69 ti69 rfl rfl rfl rfl (Nat.le_of_ble_eq_true rfl)) ?_)
    all_goals (first | refine zaq rfl rfl (zaa rfl) (fun _ => (zao rfl tf29_2 (by decide) rfl)) ?_ | refine zaq rfl rfl (zaa rfl) (fun _ => (zal rfl tf29_2 (by decide) rfl)) ?_)
    all_goals (first | refine zaq rfl rfl (zaa rfl) (fun _ => (zan rfl ta26 rfl)) ?_ | refine ex_look rfl rfl (zaa rfl) (look_ptr rfl ta26 rfl rfl rfl rfl rfl) ?_)
    all_goals (first | refine zaq rfl rfl (zaa rfl) (fun _ => (zaz rfl ts26 ti29 rfl rfl (show (0 : Int) = ((0 : Nat) : Int) from rfl) hixa rfl)) ?_ | refine zaq rfl rfl (zaa rfl) (fun _ => (zay rfl ts26 ti29 rfl rfl (show (0 : Int) = ((0 : Nat) : Int) from rfl) hixa)) ?_)
    all_goals (first | refine zaq rfl rfl (zaa rfl) (fun _ => (zax rfl ta29 ti29 rfl rfl)) ?_ | refine ex_look rfl rfl (zaa rfl) (look_whole rfl ta29 ti29 rfl rfl rfl rfl rfl) ?_ | refine zaq rfl rfl (zaa rfl) (fun _ => (zav rfl ta29 ti29 rfl (Nat.le_of_ble_eq_true rfl))) ?_ | refine ex_look rfl rfl (zaa rfl) (look_ptrs rfl ta29 ti29 rfl rfl rfl rfl (Nat.le_of_ble_eq_true rfl)) ?_)
    all_goals refine zaq rfl rfl (zaa rfl) (fun _ => (mv_s (.inl rfl) rfl)) ?_
    all_goals refine zaq rfl rfl (zaa rfl) (fun _ => (mv_s (.inl rfl) rfl)) ?_
    all_goals refine zaq rfl rfl (zaa rfl) (fun _ => (za2 rfl rfl (r1) (zat rfl (zat rfl (zat rfl (zat rfl (zat rfl (zat rfl zbl)))))))) ?_
    all_goals (first | refine zaq rfl rfl (zaa rfl) (fun _ => (mv_tup (.inl rfl) rfl)) ?_ | refine zaq rfl rfl (zaa rfl) (fun _ => (mv_s (.inl rfl) rfl)) ?_)
    all_goals refine zaq rfl rfl (zaa rfl) (fun _ => (zbb rfl rfl rfl)) ?_
    all_goals refine zaq rfl rfl (zaa rfl) (fun _ => (zbb rfl rfl rfl)) ?_
    all_goals refine zaq rfl rfl (zaa rfl) (fun _ => (mv_s (.inr rfl) rfl)) ?_
    all_goals refine zaq rfl rfl (zaa rfl) (fun _ => (mv_s (.inr rfl) rfl)) ?_
    all_goals refine ex_nil (by kernel_rfl) ?_
    all_goals (repeat (first | refine zag ?_ | refine zap ?_ | refine zae ?_ | refine zar ?_ | refine zac ?_))
    refine zaf ?_
    refine zab rfl rfl (zaa rfl) (mv_s (.inl rfl) rfl) ?_
    first | refine zab rfl rfl (zaa rfl) (does_notp rfl rfl) ?_ | refine zab rfl rfl (zaa rfl) (does_not rfl rfl) ?_
    refine zam ?_
    repeat (first | refine zag ?_ | refine zap ?_ | refine zae ?_ | refine zar ?_ | refine zac ?_)
    refine zbr rfl ?_
    repeat (first | refine zag ?_ | refine zap ?_ | refine zae ?_ | refine zar ?_ | refine zac ?_)
    all_goals refine aw_draw hmix ?_
    all_goals refine adraw_ex ?_
    all_goals (first | refine zaq rfl rfl (zaa rfl) (fun _ => (za9 (.inl rfl) rfl)) ?_ | refine zaq rfl rfl (zaa rfl) (fun _ => (zbp (.inl rfl) rfl)) ?_ | refine zaq rfl rfl (zaa rfl) (fun _ => (mv_s (.inl rfl) rfl)) ?_ | refine zaq rfl rfl (zaa rfl) (fun _ => (zba (.inl rfl) rfl)) ?_)
    all_goals (first | refine zaq rfl rfl (zaa rfl) (fun _ => (za9 (.inl rfl) rfl)) ?_ | refine zaq rfl rfl (zaa rfl) (fun _ => (zbp (.inl rfl) rfl)) ?_ | refine zaq rfl rfl (zaa rfl) (fun _ => (mv_s (.inl rfl) rfl)) ?_ | refine zaq rfl rfl (zaa rfl) (fun _ => (zba (.inl rfl) rfl)) ?_)
    all_goals (first | refine zaq rfl rfl (zaa rfl) (fun _ => (zax rfl ta69 ti69 rfl rfl)) ?_ | refine ex_look rfl rfl (zaa rfl) (look_whole rfl ta69 ti69 rfl rfl rfl rfl rfl) ?_ | refine zaq rfl rfl (zaa rfl) (fun _ => (zav rfl ta69 ti69 rfl (Nat.le_of_ble_eq_true rfl))) ?_ | refine ex_look rfl rfl (zaa rfl) (look_ptrs rfl ta69 ti69 rfl rfl rfl rfl (Nat.le_of_ble_eq_true rfl)) ?_)
    all_goals (first | refine zaq rfl rfl (zaa rfl) (fun _ => (zao rfl tf29_2 (by decide) rfl)) ?_ | refine zaq rfl rfl (zaa rfl) (fun _ => (zal rfl tf29_2 (by decide) rfl)) ?_)
    all_goals (first | refine zaq rfl rfl (zaa rfl) (fun _ => (zan rfl ta26 rfl)) ?_ | refine ex_look rfl rfl (zaa rfl) (look_ptr rfl ta26 rfl rfl rfl rfl rfl) ?_)
    all_goals (first | refine zaq rfl rfl (zaa rfl) (fun _ => (zaz rfl ts26 ti29 rfl rfl (show (1 : Int) = ((1 : Nat) : Int) from rfl) hixb rfl)) ?_ | refine zaq rfl rfl (zaa rfl) (fun _ => (zay rfl ts26 ti29 rfl rfl (show (1 : Int) = ((1 : Nat) : Int) from rfl) hixb)) ?_)
    all_goals (first | refine zaq rfl rfl (zaa rfl) (fun _ => (zax rfl ta29 ti29 rfl rfl)) ?_ | refine ex_look rfl rfl (zaa rfl) (look_whole rfl ta29 ti29 rfl rfl rfl rfl rfl) ?_ | refine zaq rfl rfl (zaa rfl) (fun _ => (zav rfl ta29 ti29 rfl (Nat.le_of_ble_eq_true rfl))) ?_ | refine ex_look rfl rfl (zaa rfl) (look_ptrs rfl ta29 ti29 rfl rfl rfl rfl (Nat.le_of_ble_eq_true rfl)) ?_)
    all_goals refine zaq rfl rfl (zaa rfl) (fun _ => (mv_s (.inl rfl) rfl)) ?_
    all_goals refine zaq rfl rfl (zaa rfl) (fun _ => (mv_s (.inl rfl) rfl)) ?_
    all_goals refine zaq rfl rfl (zaa rfl) (fun _ => (za2 rfl rfl (r2) (zat rfl (zat rfl (zat rfl (zat rfl (zat rfl (zat rfl zbl)))))))) ?_
    all_goals refine zaq rfl rfl (zaa rfl) (fun _ => (zbb rfl rfl rfl)) ?_
    all_goals refine zaq rfl rfl (zaa rfl) (fun _ => (zbb rfl rfl rfl)) ?_
    all_goals refine zaq rfl rfl (zaa rfl) (fun _ => (mv_s (.inr rfl) rfl)) ?_
    all_goals refine zaq rfl rfl (zaa rfl) (fun _ => (mv_s (.inr rfl) rfl)) ?_
    all_goals refine ex_nil (by kernel_rfl) ?_
    all_goals (repeat (first | refine zag ?_ | refine zap ?_ | refine zae ?_ | refine zar ?_ | refine zac ?_))
    (refine zbw ?_; repeat (first | refine ath_r ?_ | refine abl_r ?_))
    exact post_bi (N := 0) (.inr rfl) rfl rfl HR
theorem right_pf (d : List Int) (l : List Sft) (c : Int) (hv : validS d l = true) (hc1 : 0 ≤ c) (hc2 : c ≤ 1000000) (b : Br) (lo hi : List Int) (n : Int) (hb : BX l lo hi) (h1 : 0 ≤ n) (h2 : n ≤ 20000) : Pure P 25 [eL eI d, eL eSh l, eBx lo hi, eBr b, eI c, eI n] (eBI (rgtE d l c b lo hi n)) :=
  right_n d l c hv hc1 hc2 (SizeOf.sizeOf b + 1) b lo hi n (Nat.lt_succ_self _) hb h1 h2
end Go.Proofs.Ytmoipmnhgdmkpaa.Aw
end
section
namespace Go.Proofs.Ytmoipmnhgdmkpaa
set_option linter.unusedSimpArgs false
set_option linter.unusedVariables false
open Go.ChangeShapes Go.WideShapes Go.ChangeAt Go.RowKit

theorem own_knob : ownKnob Try.prog.godebug = none := by kernel_rfl
theorem laid_out : laidOutB Try.prog = true := by kernel_rfl

section
variable {H : Type} {enc : TypeId × Value → H}
set_option maxRecDepth 100000 in
theorem law_post {f : Func} {s : ChangeSpec} {W W' : World} {args : Array Value} {ds gs : List (DataW H)} {before : List MemPlace} {t : TypeId}
    (hW : DataW.Whole enc Try.prog f.params.toList s.vars false W args.toList ds gs before) (hr : f.resultTypes = #[t]) (ht : Try.prog.underlying t = some .bool)
    (hfn : (s.fn H (ds ++ gs)).results = [.lit (.bool true)] ∧ (s.fn H (ds ++ gs)).args = ds ∧ (s.fn H (ds ++ gs)).vars = []) (hv : s.vars = [])
    (hargs : DataW.TrodAll enc Try.prog W' 0 (fun b => decide (b < W.heap.size)) true f.params.toList args.toList ds before) (hb : Below W.heap.size W W') :
    s.post enc Try.prog f false true false false W args (.bool true) W' := by
  refine ⟨ds, gs, before, [], before, [], hW, ?_, ?_, ?_, World.keptBut_mono (fun p hp => ⟨hp, Or.inr (by simpa using hp)⟩) (hb.frame (· ∈ before)), fun h => by cases h⟩
  · rw [hfn.1, hr]
    exact trodAll_mk1 (shut_bool ht true)
  · rw [hfn.2.1]
    exact hargs
  · rw [hfn.2.2, hv]
    rfl
end
namespace Aw
/-- before the law is called -/
def G0 (W : World) : Cx := { base := 0, w0 := W, w := W, mu := fun _ => none, St := fun b _ => b < W.heap.size }
theorem pure_law {P : Program} {f : FuncId} {args : List AV} (hp : Pure P f args (eB true)) (W : World) (vargs : Array Value) (hsz : vargs.size = args.length) (hrep : ∀ (j : Nat) v x, vargs[j]? = some v → args[j]? = some x → Rep (G0 W) v x) :
    Calls P f vargs W fun e w' => e = .returned (.bool true) ∧ Below W.heap.size W w' :=
  (hp.call (G0 W) vargs (fun b o h => h) hsz hrep).mono (by
    rintro e w' ⟨v, G', rfl, rfl, hb, _, _, _, hr⟩
    exact ⟨by rw [rep_s hr], hb⟩)
section
variable {H : Type} {enc : TypeId × Value → H} {w : World} {base : Nat} {sp : Nat → Bool} {held : Bool}
/-- cells of the store, seen -/
def Rc (w : World) (cs : List Value) (l : List AV) : Prop := cs.length = l.length ∧ (∀ c ∈ l, c.one = true) ∧ ∀ (j : Nat) v c, cs[j]? = some v → l[j]? = some c → Rep (G0 w) v c
theorem rc_nil : Rc w [] [] := ⟨rfl, by simp, fun j v c h => by simp at h⟩
theorem rc_cons {v : Value} {a : AV} {cs : List Value} {l : List AV} (h1 : Rep (G0 w) v a) (h2 : a.one = true) (h : Rc w cs l) : Rc w (v :: cs) (a :: l) :=
  ⟨by simp [h.1], fun c hc => by
    rcases List.mem_cons.1 hc with rfl | hc
    · exact h2
    · exact h.2.1 c hc, fun j u c hu hc => by
    cases j with
    | zero => simp at hu hc; subst hu hc; exact h1
    | succ j => simp at hu hc; exact h.2.2 j u c hu hc⟩
theorem rc_agg {vs : Array Value} {l : List AV} (h : Rc w vs.toList l) : Rep (G0 w) (.agg vs) (.agg l) :=
  .agg vs l (by simpa using h.1) h.2.1 (fun j v c hv hc => h.2.2 j v c (by simpa using hv) hc)
theorem addr_off (b off j : Nat) : (⟨b, off, none⟩ : Addr).add j = ⟨b, off + j, none⟩ := by unfold Addr.add; split <;> simp_all
theorem opens_sliceN {t e : TypeId} {β : Type} {f : β → AV} {size : Nat} (ht : Try.prog.underlying t = some (.slice e)) (hc : Try.prog.cellsOf e = size) (hpos : 0 < size) (hen : ∀ b, (f b).cells.length = size)
    {fuel : Nat} (hel : ∀ n, n < fuel → ∀ cs (x : DataW H × List MemPlace), DataW.trod enc Try.prog w base sp held n e cs = some x → ∃ b, Rc w cs (f b).cells)
    {cs : List Value} {x : DataW H × List MemPlace} (h : DataW.trod enc Try.prog w base sp held fuel t cs = some x) : ∃ (v : Value) (l : List β), cs = [v] ∧ Rep (G0 w) v (eL f l) := by
  rcases DataW.trod_slice ht h with ⟨rfl, _⟩ | ⟨a, len, cap, elems, rest, n, hfu, rfl, _, hb, hl, hm, hlen, helem, _⟩
  · exact ⟨_, [], rfl, .slnil none 0⟩
  · rw [hc] at helem
    have hx : ∀ i : Fin len, ∃ p : List Value × β, w.cells? base (a.add (i * size)) size = some p.1 ∧ Rc w p.1 (f p.2).cells := by
      intro i
      have h1 := helem i i.2
      have hi : (i : Nat) < elems.length := by rw [hlen]; exact i.2
      rw [List.getElem?_eq_getElem hi, Option.bind_eq_some_iff] at h1
      obtain ⟨cs', h2, h3⟩ := h1
      obtain ⟨y, hy⟩ := hel n (by omega) _ _ h3
      exact ⟨(cs', y), h2, hy⟩
    obtain ⟨g, hg⟩ : ∃ g : Fin len → List Value × β, ∀ i : Fin len, w.cells? base (a.add ((i : Nat) * size)) size = some (g i).1 ∧ Rc w (g i).1 (f (g i).2).cells := ⟨fun i => Classical.choose (hx i), fun i => Classical.choose_spec (hx i)⟩
    rcases Nat.eq_zero_or_pos len with h0 | hn
    · subst h0
      exact ⟨_, [], rfl, .slnil _ _⟩
    · have hspot : a.spot = none := by
        have h1 := World.cells?_some (hg ⟨0, hn⟩).1
        have h2 := h1.2.2 0 hpos
        have h3 : ((a.add (0 * size)).add 0) = a := by simp [Addr.add]
        rw [List.getElem?_eq_getElem (by rw [h1.2.1]; exact hpos)] at h2
        have h4 := World.cell?_spot h2
        simpa [Addr.add] using h4
      obtain ⟨b, off, s⟩ := a
      simp only at hspot
      subst hspot
      refine ⟨_, List.ofFn (fun i => (g i).2), rfl, ?_⟩
      have hlf : ((List.ofFn fun i => (g i).2).map f).length = len := by simp
      have hel2 : ∀ (k : Nat) e, ((List.ofFn fun i => (g i).2).map f)[k]? = some e → ∃ hk : k < len, e = f (g ⟨k, hk⟩).2 := by
        intro k e hk
        have hkl : k < len := by have := (List.getElem?_eq_some_iff.1 hk).1; rwa [hlf] at this
        refine ⟨hkl, ?_⟩
        rw [List.getElem?_map, List.getElem?_ofFn] at hk
        simp [hkl] at hk
        exact hk.symm
      have key : ∀ (k : Nat) e (j : Nat) c, ((List.ofFn fun i => (g i).2).map f)[k]? = some e → e.cells[j]? = some c → ∃ u, w.cell? ⟨b, off + k * size + j, none⟩ = some u ∧ Rep (G0 w) u c := by
        intro k e j c hk hc'
        obtain ⟨hkl, rfl⟩ := hel2 k e hk
        obtain ⟨q1, q2, q3⟩ := (hg ⟨k, hkl⟩).2
        have hcs := World.cells?_some (hg ⟨k, hkl⟩).1
        have hj : j < size := by rw [← hen (g ⟨k, hkl⟩).2]; exact (List.getElem?_eq_some_iff.1 hc').1
        have hj2 : j < (g ⟨k, hkl⟩).1.length := by rw [hcs.2.1]; exact hj
        have h5 := hcs.2.2 j hj
        rw [List.getElem?_eq_getElem hj2] at h5
        rw [addr_off, addr_off] at h5
        exact ⟨(g ⟨k, hkl⟩).1[j], h5, q3 j _ c (List.getElem?_eq_getElem hj2) hc'⟩
      have hR := Rep.sl (G := G0 w) b off cap size ((List.ofFn fun i => (g i).2).map f) (fun k j => (w.cell? ⟨b, off + k * size + j, none⟩).getD undef) (by rw [hlf]; exact hl) (by rw [hlf]; exact Nat.le_trans hl hm) (fun k e hk => by
          obtain ⟨hkl, rfl⟩ := hel2 k e hk
          exact ⟨hen _, (hg ⟨k, hkl⟩).2.2.1⟩) (fun k e j c hk hc' => by
          obtain ⟨u, h6, _⟩ := key k e j c hk hc'
          exact ⟨World.block_lt_of_cell? _ _ h6, by show w.cell? _ = _; rw [h6]; rfl⟩) (fun k e j c hk hc' => by
          obtain ⟨u, h6, h7⟩ := key k e j c hk hc'
          rw [h6]; exact h7)
      rw [hlf] at hR
      exact hR
theorem opens_slice {t e : TypeId} {β : Type} {f : β → AV} {size : Nat} (ht : Try.prog.underlying t = some (.slice e)) (hc : Try.prog.cellsOf e = size) (hpos : 0 < size) (hen : ∀ b, (f b).cells.length = size)
    (hel : ∀ fuel cs (x : DataW H × List MemPlace), DataW.trod enc Try.prog w base sp held fuel e cs = some x → ∃ b, Rc w cs (f b).cells)
    {fuel : Nat} {cs : List Value} {x : DataW H × List MemPlace} (h : DataW.trod enc Try.prog w base sp held fuel t cs = some x) : ∃ (v : Value) (l : List β), cs = [v] ∧ Rep (G0 w) v (eL f l) :=
  opens_sliceN ht hc hpos hen (fun n _ cs x h => hel n cs x h) h
theorem opens_int {fuel : Nat} {cs : List Value} {x : DataW H × List MemPlace} (h : DataW.trod enc Try.prog w base sp held fuel 3 cs = some x) : ∃ n : Int, Rc w cs (eI n).cells := by
  obtain ⟨n, rfl, _⟩ := DataW.trod_int Try.underlying3 h
  exact ⟨n, rc_cons (.s _) rfl rc_nil⟩
set_option maxRecDepth 100000 in
theorem opens_frac {fuel : Nat} {cs : List Value} {x : DataW H × List MemPlace} (h : DataW.trod enc Try.prog w base sp held fuel 59 cs = some x) : ∃ a : Fr, Rc w cs (eF a).cells := by
  obtain ⟨xs, n, _, _, hlen, hl, hg⟩ := DataW.trod_struct Try.underlying59 h
  have hc : Try.prog.cellsOf 59 = 2 := by kernel_rfl
  have hi : Try.prog.cellsOf 3 = 1 := by kernel_rfl
  match cs, hlen.trans hc, xs, hl with
  | [c0, c1], _, [x0, x1], _ =>
    have g0 := hg 0 _ rfl
    have g1 := hg 1 _ rfl
    simp [hi] at g0 g1
    obtain ⟨n0, e0, _⟩ := DataW.trod_int Try.underlying3 g0
    obtain ⟨n1, e1, _⟩ := DataW.trod_int Try.underlying3 g1
    injection e0 with e0
    injection e1 with e1
    subst e0 e1
    exact ⟨⟨n0, n1⟩, rc_cons (.s _) rfl (rc_cons (.s _) rfl rc_nil)⟩
theorem opens_ints {fuel : Nat} {cs : List Value} {x : DataW H × List MemPlace} (h : DataW.trod enc Try.prog w base sp held fuel 22 cs = some x) : ∃ (v : Value) (l : List Int), cs = [v] ∧ Rep (G0 w) v (eL eI l) :=
  opens_slice (size := 1) Try.underlying22 (by kernel_rfl) (by decide) (fun _ => rfl) (fun fuel cs x h => opens_int h) h
theorem opens_fracs {fuel : Nat} {cs : List Value} {x : DataW H × List MemPlace} (h : DataW.trod enc Try.prog w base sp held fuel 27 cs = some x) : ∃ (v : Value) (l : List Fr), cs = [v] ∧ Rep (G0 w) v (eL eF l) :=
  opens_slice (size := 2) Try.underlying27 (by kernel_rfl) (by decide) (fun _ => rfl) (fun fuel cs x h => opens_frac h) h
set_option maxRecDepth 100000 in
theorem opens_shift {fuel : Nat} {cs : List Value} {x : DataW H × List MemPlace} (h : DataW.trod enc Try.prog w base sp held fuel 39 cs = some x) : ∃ s : Sft, Rc w cs (eSh s).cells := by
  obtain ⟨xs, n, _, _, hlen, hl, hg⟩ := DataW.trod_struct Try.underlying39 h
  have hc : Try.prog.cellsOf 39 = 3 := by kernel_rfl
  have h1 : Try.prog.cellsOf 22 = 1 := by kernel_rfl
  have h2 : Try.prog.cellsOf 3 = 1 := by kernel_rfl
  match cs, hlen.trans hc, xs, hl with
  | [c0, c1, c2], _, [x0, x1, x2], _ =>
    have g0 := hg 0 _ rfl
    have g1 := hg 1 _ rfl
    have g2 := hg 2 _ rfl
    simp [h1, h2] at g0 g1 g2
    obtain ⟨v0, l0, e0, r0⟩ := opens_ints g0
    obtain ⟨k1, e1, _⟩ := DataW.trod_int Try.underlying3 g1
    obtain ⟨k2, e2, _⟩ := DataW.trod_int Try.underlying3 g2
    injection e0 with e0
    injection e1 with e1
    injection e2 with e2
    subst e0 e1 e2
    exact ⟨⟨l0, k1, k2⟩, rc_cons r0 rfl (rc_cons (.s _) rfl (rc_cons (.s _) rfl rc_nil))⟩
theorem opens_shifts {fuel : Nat} {cs : List Value} {x : DataW H × List MemPlace} (h : DataW.trod enc Try.prog w base sp held fuel 23 cs = some x) : ∃ (v : Value) (l : List Sft), cs = [v] ∧ Rep (G0 w) v (eL eSh l) :=
  opens_slice (size := 3) Try.underlying23 (by kernel_rfl) (by decide) (fun _ => rfl) (fun fuel cs x h => opens_shift h) h
set_option maxRecDepth 100000 in
theorem opens_plan {fuel : Nat} {cs : List Value} {x : DataW H × List MemPlace} (h : DataW.trod enc Try.prog w base sp held fuel 25 cs = some x) : ∃ s : Pln, Rc w cs (ePl s).cells := by
  obtain ⟨xs, n, _, _, hlen, hl, hg⟩ := DataW.trod_struct Try.underlying25 h
  have hc : Try.prog.cellsOf 25 = 2 := by kernel_rfl
  have h1 : Try.prog.cellsOf 22 = 1 := by kernel_rfl
  have h2 : Try.prog.cellsOf 3 = 1 := by kernel_rfl
  match cs, hlen.trans hc, xs, hl with
  | [c0, c1], _, [x0, x1], _ =>
    have g0 := hg 0 _ rfl
    have g1 := hg 1 _ rfl
    simp [h1, h2] at g0 g1
    obtain ⟨v0, l0, e0, r0⟩ := opens_ints g0
    obtain ⟨k1, e1, _⟩ := DataW.trod_int Try.underlying3 g1
    injection e0 with e0
    injection e1 with e1
    subst e0 e1
    exact ⟨⟨l0, k1⟩, rc_cons r0 rfl (rc_cons (.s _) rfl rc_nil)⟩
theorem eBr_four (b : Br) : (eBr b).cells.length = 4 := by
  obtain ⟨s, t, L, y⟩ := b
  rw [eBr_mk]; rfl
set_option maxRecDepth 100000 in
theorem opens_branch : ∀ (fuel : Nat) (cs : List Value) (x : DataW H × List MemPlace), DataW.trod enc Try.prog w base sp held fuel 29 cs = some x → ∃ b : Br, Rc w cs (eBr b).cells := by
  intro fuel
  induction fuel using Nat.strongRecOn with
  | _ fuel ih =>
    intro cs x h
    obtain ⟨xs, n, hfu, _, hlen, hl, hg⟩ := DataW.trod_struct Try.underlying29 h
    have hc : Try.prog.cellsOf 29 = 4 := by kernel_rfl
    have h1 : Try.prog.cellsOf 27 = 1 := by kernel_rfl
    have h2 : Try.prog.cellsOf 26 = 1 := by kernel_rfl
    have h3 : Try.prog.cellsOf 3 = 1 := by kernel_rfl
    match cs, hlen.trans hc, xs, hl with
    | [c0, c1, c2, c3], _, [x0, x1, x2, x3], _ =>
      have g0 := hg 0 _ rfl
      have g1 := hg 1 _ rfl
      have g2 := hg 2 _ rfl
      have g3 := hg 3 _ rfl
      simp [h1, h2, h3] at g0 g1 g2 g3
      obtain ⟨k0, e0, _⟩ := DataW.trod_int Try.underlying3 g0
      obtain ⟨k1, e1, _⟩ := DataW.trod_int Try.underlying3 g1
      obtain ⟨v2, l2, e2, r2⟩ := opens_sliceN (f := eBr) (size := 4) Try.underlying26 (by kernel_rfl) (by decide) eBr_four (fun n' hn' cs x h => ih n' (by omega) cs x h) g2
      obtain ⟨v3, l3, e3, r3⟩ := opens_fracs g3
      injection e0 with e0
      injection e1 with e1
      injection e2 with e2
      injection e3 with e3
      subst e0 e1 e2 e3
      refine ⟨.mk k0 k1 l2 l3, ?_⟩
      rw [eBr_mk]
      exact rc_cons (.s _) rfl (rc_cons (.s _) rfl (rc_cons r2 rfl (rc_cons r3 rfl rc_nil)))
variable {b0 : Nat} {r : Reach} {v : Value} {d : DataW H} {p : List MemPlace}
set_option maxRecDepth 100000 in
theorem open_ints (hv : Value.okWide Try.prog w r b0 22 v) (h : DataW.Trod enc Try.prog w base sp held 22 v d p) : ∃ l : List Int, Rep (G0 w) v (eL eI l) := by
  obtain ⟨a, n, c, rfl⟩ := okWide_slice Try.underlying22 hv
  obtain ⟨fuel, hf⟩ := h
  obtain ⟨v', l, ha, hr⟩ := opens_ints hf
  simp [Value.cells] at ha
  subst ha
  exact ⟨l, hr⟩
set_option maxRecDepth 100000 in
theorem open_shifts (hv : Value.okWide Try.prog w r b0 23 v) (h : DataW.Trod enc Try.prog w base sp held 23 v d p) : ∃ l : List Sft, Rep (G0 w) v (eL eSh l) := by
  obtain ⟨a, n, c, rfl⟩ := okWide_slice Try.underlying23 hv
  obtain ⟨fuel, hf⟩ := h
  obtain ⟨v', l, ha, hr⟩ := opens_shifts hf
  simp [Value.cells] at ha
  subst ha
  exact ⟨l, hr⟩
set_option maxRecDepth 100000 in
theorem open_plan (hv : Value.okWide Try.prog w r b0 25 v) (h : DataW.Trod enc Try.prog w base sp held 25 v d p) : ∃ q : Pln, Rep (G0 w) v (ePl q) := by
  obtain ⟨cs, rfl, hsz⟩ := okWide_struct Try.underlying25 hv
  obtain ⟨fuel, hf⟩ := h
  obtain ⟨q, ha⟩ := opens_plan hf
  exact ⟨q, rc_agg (vs := cs) ha⟩
set_option maxRecDepth 100000 in
theorem open_branch (hv : Value.okWide Try.prog w r b0 29 v) (h : DataW.Trod enc Try.prog w base sp held 29 v d p) : ∃ q : Br, Rep (G0 w) v (eBr q) := by
  obtain ⟨cs, rfl, hsz⟩ := okWide_struct Try.underlying29 hv
  obtain ⟨fuel, hf⟩ := h
  obtain ⟨q, ha⟩ := opens_branch fuel _ _ hf
  obtain ⟨s, t, L, y⟩ := q
  refine ⟨.mk s t L y, ?_⟩
  rw [eBr_mk] at ha ⊢
  exact rc_agg (vs := cs) ha
end
end Aw
theorem trodAll_5 {H : Type} {enc : TypeId × Value → H} {P : Program} {w : World} {base : Nat} {spare : Nat → Bool} {held : Bool} {t t' t'' t3 t4 : TypeId} {args : Array Value} {ds : List (DataW H)} {ps : List MemPlace} (h : DataW.TrodAll enc P w base spare held [t, t', t'', t3, t4] args.toList ds ps) :
    ∃ v v' v'' v3 v4 d d' d'' d3 d4 p p' p'' p3 p4, args = #[v, v', v'', v3, v4] ∧ ds = [d, d', d'', d3, d4] ∧ ps = p ++ p' ++ p'' ++ p3 ++ p4 ∧ DataW.Trod enc P w base spare held t v d p ∧ DataW.Trod enc P w base spare held t' v' d' p' ∧ DataW.Trod enc P w base spare held t'' v'' d'' p'' ∧ DataW.Trod enc P w base spare held t3 v3 d3 p3 ∧ DataW.Trod enc P w base spare held t4 v4 d4 p4 := by
  obtain ⟨v, vs, d, e1, p, q, hargs, rfl, rfl, hd, hrest⟩ := trodAll_cons h
  obtain ⟨v', vs', d', e2, p', q', rfl, rfl, rfl, hd', hrest'⟩ := trodAll_cons hrest
  obtain ⟨v'', vs'', d'', e3, p'', q'', rfl, rfl, rfl, hd'', hrest''⟩ := trodAll_cons hrest'
  obtain ⟨v3, vs3, d3, e4, p3, q3, rfl, rfl, rfl, hd3, hrest3⟩ := trodAll_cons hrest''
  obtain ⟨v4, vs4, d4, e5, p4, q4, rfl, rfl, rfl, hd4, hrest4⟩ := trodAll_cons hrest3
  obtain ⟨rfl, rfl, rfl⟩ := trodAll_nil hrest4
  exact ⟨v, v', v'', v3, v4, d, d', d'', d3, d4, p, p', p'', p3, p4, by cases args; simp_all, rfl, by simp, hd, hd', hd'', hd3, hd4⟩
end Go.Proofs.Ytmoipmnhgdmkpaa
end
section
namespace Go.Proofs.Ytmoipmnhgdmkpaa.Aw
set_option linter.unusedSimpArgs false
set_option linter.unusedVariables false
set_option linter.unusedSectionVars false
open Go.RowKit Go.Proofs
variable {P : Program} [IsP P]

def headK (d : List Int) (l : List Sft) (p : Pln) : Prop := validS d l = true ∧ cntB l p.c = true ∧ shE d l p.c < 0 ∧ p.cost = prcP l p.c l.length
instance (d : List Int) (l : List Sft) (p : Pln) : Decidable (headK d l p) := by unfold headK; infer_instance
def chkE (d : List Int) (l : List Sft) (p : Pln) (b : Br) : Bool := if headK d l p then (rgtE d l p.cost b (zeroI l.length) (mostL l) 20000).1 else false
set_option maxHeartbeats 4000000 in
theorem check_pf (d : List Int) (l : List Sft) (p : Pln) (b : Br) : Pure P 8 [eL eI d, eL eSh l, ePl p, eBr b] (eB (chkE d l p b)) := by
  have HI : chkE d l p b = if headK d l p then (rgtE d l p.cost b (zeroI l.length) (mostL l) 20000).1 else false := rfl
  generalize chkE d l p b = R at HI ⊢
  obtain ⟨s, t, L, y⟩ := b
  have hlo : ∀ x ∈ [eL eI d, eL eSh l, ePl p, eBr (.mk s t L y)], Lo 0 x := zad (by repeat' (first | exact Lo.s _ | exact zai | refine zad ?_ ?_ | refine zak ?_ | refine Lo.cells ?_ | refine Lo.agg _ ?_ | refine Lo.ref _ ?_ | refine Lo.tup _ ?_ | refine Lo.fn _ _ ?_ | refine Lo.sl _ ?_ | intro _)) (zad (zak lo_Sh) (zad (by repeat' (first | exact Lo.s _ | exact zai | refine zad ?_ ?_ | refine zak ?_ | refine Lo.cells ?_ | refine Lo.agg _ ?_ | refine Lo.ref _ ?_ | refine Lo.tup _ ?_ | refine Lo.fn _ _ ?_ | refine Lo.sl _ ?_ | intro _)) (zad (lo_Br _) zai)))
  rw [eBr_mk] at hlo ⊢
  refine aw_fn (by rw [IsP.eq (P := P)]; exact Try.func8) rfl rfl rfl rfl rfl hlo (.s _) (by simp only [argF]; rfl) ?_
  repeat (first | refine zag ?_ | refine zap ?_ | refine zae ?_ | refine zar ?_ | refine zac ?_)
  refine zaf ?_
  refine zab rfl rfl (zaa rfl) (does_box rfl rfl rfl rfl) ?_
  refine zbo (wk_froz (id := 0) rfl) (zbo (wk_ref (d := 6) rfl rfl rfl) ?_)
  refine zab rfl rfl (zaa rfl) (does_box rfl rfl rfl rfl) ?_
  refine zbo (wk_froz (id := 1) rfl) (zbo (wk_ref (d := 7) rfl rfl rfl) ?_)
  refine zab rfl rfl (zaa rfl) (mv_s (.inr rfl) rfl) ?_
  refine zam ?_
  repeat (first | refine zag ?_ | refine zap ?_ | refine zae ?_ | refine zar ?_ | refine zac ?_)
  all_goals refine aw_draw hmix ?_
  all_goals refine adraw_quiet (by kernel_rfl) ?_
  all_goals (first | refine za4 rfl rfl (zaa rfl) (za9 (.inl rfl) rfl) ?_ | refine za4 rfl rfl (zaa rfl) (zbp (.inl rfl) rfl) ?_ | refine za4 rfl rfl (zaa rfl) (mv_s (.inl rfl) rfl) ?_ | refine za4 rfl rfl (zaa rfl) (zba (.inl rfl) rfl) ?_)
  all_goals (first | refine za4 rfl rfl (zaa rfl) (za9 (.inl rfl) rfl) ?_ | refine za4 rfl rfl (zaa rfl) (zbp (.inl rfl) rfl) ?_ | refine za4 rfl rfl (zaa rfl) (mv_s (.inl rfl) rfl) ?_ | refine za4 rfl rfl (zaa rfl) (zba (.inl rfl) rfl) ?_)
  all_goals (first | refine qx_opP rfl rfl (zaa rfl) (za2 rfl rfl ((sValid_pf54 d l)) (zat rfl (zat rfl zbl))) (fun h13 => ?_) (fun h13 => ?_) | refine qx_opB rfl rfl (zaa rfl) (za2 rfl rfl ((sValid_pf54 d l)) (zat rfl (zat rfl zbl))) (fun h13 => ?_) (fun h13 => ?_))
  all_goals (first | refine za4 rfl rfl (zaa rfl) (does_notp rfl rfl) ?_ | refine za4 rfl rfl (zaa rfl) (does_not rfl rfl) ?_)
  all_goals refine za4 rfl rfl (zaa rfl) (mv_s (.inl rfl) rfl) ?_
  all_goals (first | refine za4 rfl rfl (zah rfl rfl rfl) (za9 (.inl rfl) rfl) ?_ | refine za4 rfl rfl (zah rfl rfl rfl) (zbp (.inl rfl) rfl) ?_ | refine za4 rfl rfl (zah rfl rfl rfl) (mv_s (.inl rfl) rfl) ?_ | refine za4 rfl rfl (zah rfl rfl rfl) (zba (.inl rfl) rfl) ?_ | refine zbc rfl rfl (zaw rfl rfl rfl) ?_ | refine zbc rfl rfl (zau rfl rfl rfl) ?_)
  all_goals (first | refine za4 rfl rfl (zah rfl rfl rfl) (zao rfl tf25_0 (by decide) rfl) ?_ | refine za4 rfl rfl (zah rfl rfl rfl) (zal rfl tf25_0 (by decide) rfl) ?_ | refine zbc rfl rfl (zaw rfl rfl rfl) ?_ | refine zbc rfl rfl (zau rfl rfl rfl) ?_)
  all_goals (first | refine za4 rfl rfl (zah rfl rfl rfl) (zan rfl ta22 rfl) ?_ | refine za4 rfl rfl (zah rfl rfl rfl) (zas rfl ta22 rfl rfl rfl rfl rfl) ?_ | refine zbc rfl rfl (zaw rfl rfl rfl) ?_ | refine zbc rfl rfl (zau rfl rfl rfl) ?_)
  all_goals (first | refine qx_opP rfl rfl (zah rfl rfl rfl) (za2 rfl rfl ((counts_pf l p.c)) (zat rfl (zat rfl zbl))) (fun h19 => ?_) (fun h19 => ?_) | refine qx_opB rfl rfl (zah rfl rfl rfl) (za2 rfl rfl ((counts_pf l p.c)) (zat rfl (zat rfl zbl))) (fun h19 => ?_) (fun h19 => ?_) | refine zbc rfl rfl (zaw rfl rfl rfl) ?_ | refine zbc rfl rfl (zau rfl rfl rfl) ?_)
  all_goals (first | refine za4 rfl rfl (zah rfl rfl rfl) (does_notp rfl rfl) ?_ | refine za4 rfl rfl (zah rfl rfl rfl) (does_not rfl rfl) ?_ | refine zbc rfl rfl (zaw rfl rfl rfl) ?_ | refine zbc rfl rfl (zau rfl rfl rfl) ?_)
  all_goals (first | refine za4 rfl rfl (zaa rfl) (pickT_s rfl rfl rfl) ?_ | refine za4 rfl rfl (zaa rfl) (pickF_s rfl rfl rfl) ?_ | refine za4 rfl rfl (zaa rfl) (zbi rfl rfl rfl) ?_ | refine za4 rfl rfl (zaa rfl) (zbj rfl rfl rfl) ?_)
  all_goals refine za4 rfl rfl (zaa rfl) (mv_s (.inl rfl) rfl) ?_
  all_goals (first | refine za4 rfl rfl (zah rfl rfl rfl) (za9 (.inl rfl) rfl) ?_ | refine za4 rfl rfl (zah rfl rfl rfl) (zbp (.inl rfl) rfl) ?_ | refine za4 rfl rfl (zah rfl rfl rfl) (mv_s (.inl rfl) rfl) ?_ | refine za4 rfl rfl (zah rfl rfl rfl) (zba (.inl rfl) rfl) ?_ | refine zbc rfl rfl (zaw rfl rfl rfl) ?_ | refine zbc rfl rfl (zau rfl rfl rfl) ?_)
  all_goals (first | refine za4 rfl rfl (zah rfl rfl rfl) (za9 (.inl rfl) rfl) ?_ | refine za4 rfl rfl (zah rfl rfl rfl) (zbp (.inl rfl) rfl) ?_ | refine za4 rfl rfl (zah rfl rfl rfl) (mv_s (.inl rfl) rfl) ?_ | refine za4 rfl rfl (zah rfl rfl rfl) (zba (.inl rfl) rfl) ?_ | refine zbc rfl rfl (zaw rfl rfl rfl) ?_ | refine zbc rfl rfl (zau rfl rfl rfl) ?_)
  all_goals (first | refine za4 rfl rfl (zah rfl rfl rfl) (zao rfl tf25_0 (by decide) rfl) ?_ | refine za4 rfl rfl (zah rfl rfl rfl) (zal rfl tf25_0 (by decide) rfl) ?_ | refine zbc rfl rfl (zaw rfl rfl rfl) ?_ | refine zbc rfl rfl (zau rfl rfl rfl) ?_)
  all_goals (first | refine za4 rfl rfl (zah rfl rfl rfl) (zan rfl ta22 rfl) ?_ | refine za4 rfl rfl (zah rfl rfl rfl) (zas rfl ta22 rfl rfl rfl rfl rfl) ?_ | refine zbc rfl rfl (zaw rfl rfl rfl) ?_ | refine zbc rfl rfl (zau rfl rfl rfl) ?_)
  all_goals (first | refine za4 rfl rfl (zah rfl rfl rfl) (za2 rfl rfl ((short_pf d l p.c h13 (okC_of h13 h19))) (zat rfl (zat rfl (zat rfl zbl)))) ?_ | refine zbc rfl rfl (zaw rfl rfl rfl) ?_ | refine zbc rfl rfl (zau rfl rfl rfl) ?_)
  all_goals (first | refine qx_opP rfl rfl (zah rfl rfl rfl) (does_geq rfl rfl rfl) (fun h28 => ?_) (fun h28 => ?_) | refine qx_opB rfl rfl (zah rfl rfl rfl) (does_geq rfl rfl rfl) (fun h28 => ?_) (fun h28 => ?_) | refine zbc rfl rfl (zaw rfl rfl rfl) ?_ | refine zbc rfl rfl (zau rfl rfl rfl) ?_)
  all_goals (first | refine za4 rfl rfl (zaa rfl) (pickT_s rfl rfl rfl) ?_ | refine za4 rfl rfl (zaa rfl) (pickF_s rfl rfl rfl) ?_ | refine za4 rfl rfl (zaa rfl) (zbi rfl rfl rfl) ?_ | refine za4 rfl rfl (zaa rfl) (zbj rfl rfl rfl) ?_)
  all_goals refine za4 rfl rfl (zaa rfl) (mv_s (.inl rfl) rfl) ?_
  all_goals (first | refine za4 rfl rfl (zah rfl rfl rfl) (zao rfl tf25_1 (by decide) rfl) ?_ | refine za4 rfl rfl (zah rfl rfl rfl) (zal rfl tf25_1 (by decide) rfl) ?_ | refine zbc rfl rfl (zaw rfl rfl rfl) ?_ | refine zbc rfl rfl (zau rfl rfl rfl) ?_)
  all_goals (first | refine za4 rfl rfl (zah rfl rfl rfl) (zan rfl ta3 rfl) ?_ | refine za4 rfl rfl (zah rfl rfl rfl) (zas rfl ta3 rfl rfl rfl rfl rfl) ?_ | refine zbc rfl rfl (zaw rfl rfl rfl) ?_ | refine zbc rfl rfl (zau rfl rfl rfl) ?_)
  all_goals (first | refine za4 rfl rfl (zah rfl rfl rfl) (za9 (.inl rfl) rfl) ?_ | refine za4 rfl rfl (zah rfl rfl rfl) (zbp (.inl rfl) rfl) ?_ | refine za4 rfl rfl (zah rfl rfl rfl) (mv_s (.inl rfl) rfl) ?_ | refine za4 rfl rfl (zah rfl rfl rfl) (zba (.inl rfl) rfl) ?_ | refine zbc rfl rfl (zaw rfl rfl rfl) ?_ | refine zbc rfl rfl (zau rfl rfl rfl) ?_)
  all_goals (first | refine za4 rfl rfl (zah rfl rfl rfl) (zao rfl tf25_0 (by decide) rfl) ?_ | refine za4 rfl rfl (zah rfl rfl rfl) (zal rfl tf25_0 (by decide) rfl) ?_ | refine zbc rfl rfl (zaw rfl rfl rfl) ?_ | refine zbc rfl rfl (zau rfl rfl rfl) ?_)
  all_goals (first | refine za4 rfl rfl (zah rfl rfl rfl) (zan rfl ta22 rfl) ?_ | refine za4 rfl rfl (zah rfl rfl rfl) (zas rfl ta22 rfl rfl rfl rfl rfl) ?_ | refine zbc rfl rfl (zaw rfl rfl rfl) ?_ | refine zbc rfl rfl (zau rfl rfl rfl) ?_)
  all_goals (first | refine za4 rfl rfl (zah rfl rfl rfl) (za2 rfl rfl ((price_pf d l p.c h13 (okC_of h13 h19))) (zat rfl (zat rfl zbl))) ?_ | refine zbc rfl rfl (zaw rfl rfl rfl) ?_ | refine zbc rfl rfl (zau rfl rfl rfl) ?_)
  all_goals (first | refine qx_opP rfl rfl (zah rfl rfl rfl) (does_neq rfl rfl rfl) (fun h37 => ?_) (fun h37 => ?_) | refine qx_opB rfl rfl (zah rfl rfl rfl) (does_neq rfl rfl rfl) (fun h37 => ?_) (fun h37 => ?_) | refine zbc rfl rfl (zaw rfl rfl rfl) ?_ | refine zbc rfl rfl (zau rfl rfl rfl) ?_)
  all_goals (first | refine za4 rfl rfl (zaa rfl) (pickT_s rfl rfl rfl) ?_ | refine za4 rfl rfl (zaa rfl) (pickF_s rfl rfl rfl) ?_ | refine za4 rfl rfl (zaa rfl) (zbi rfl rfl rfl) ?_ | refine za4 rfl rfl (zaa rfl) (zbj rfl rfl rfl) ?_)
  all_goals refine qx_nil ?_
  all_goals (repeat (first | refine zag ?_ | refine zap ?_ | refine zae ?_ | refine zar ?_ | refine zac ?_))
  all_goals (first | refine zbv rfl ?_ | refine zbr rfl ?_)
  all_goals (repeat (first | refine zag ?_ | refine zap ?_ | refine zae ?_ | refine zar ?_ | refine zac ?_))
  all_goals first
    | skip
      rw [if_neg (by
        unfold headK
        rintro ⟨g1, g2, g3, g4⟩
        first
        | exact Bool.noConfusion (g1.symm.trans h13)
        | exact Bool.noConfusion (g2.symm.trans h19)
        | omega)] at HI
      refine zaf ?_
      refine zab rfl rfl (zaa rfl) (mv_s (.inr rfl) rfl) ?_
      refine zam ?_
      repeat (first | refine zag ?_ | refine zap ?_ | refine zae ?_ | refine zar ?_ | refine zac ?_)
      (refine zbw ?_; repeat (first | refine ath_r ?_ | refine abl_r ?_))
      exact post1 (.inr rfl) rfl (congrArg eB HI.symm)
    | skip
  have hk : headK d l p := ⟨h13, h19, by omega, by omega⟩
  rw [if_pos hk] at HI
  have hbd := prcP_bd h13 (okC_of h13 h19) l.length (Nat.le_refl _)
  have hpc := hk.2.2.2
  have hl12 := (validS_iff h13).1.2.2
  have hr := right_pf (P := P) d l p.cost h13 (by omega) (by omega) (.mk s t L y) (zeroI l.length) (mostL l) 20000 (first_box h13) (by omega) (by omega)
  generalize rgtE d l p.cost (.mk s t L y) (zeroI l.length) (mostL l) 20000 = x at HI hr
  obtain ⟨xz, xn⟩ := x
  rw [eBr_mk] at hr
  replace hr : Pure P 25 [eL eI d, eL eSh l, eBx (zeroI l.length) (mostL l), .agg [eI s, eI t, eL eBr L, eL eF y], eI p.cost, eI 20000] (.tup [eB xz, eI xn]) := hr
  all_goals refine aw_draw hmix ?_
  all_goals refine adraw_ex ?_
  all_goals (first | refine zaq rfl rfl (zaa rfl) (fun _ => (za9 (.inl rfl) rfl)) ?_ | refine zaq rfl rfl (zaa rfl) (fun _ => (zbp (.inl rfl) rfl)) ?_ | refine zaq rfl rfl (zaa rfl) (fun _ => (mv_s (.inl rfl) rfl)) ?_ | refine zaq rfl rfl (zaa rfl) (fun _ => (zba (.inl rfl) rfl)) ?_)
  all_goals (first | refine zaq rfl rfl (zaa rfl) (fun _ => (za9 (.inl rfl) rfl)) ?_ | refine zaq rfl rfl (zaa rfl) (fun _ => (zbp (.inl rfl) rfl)) ?_ | refine zaq rfl rfl (zaa rfl) (fun _ => (mv_s (.inl rfl) rfl)) ?_ | refine zaq rfl rfl (zaa rfl) (fun _ => (zba (.inl rfl) rfl)) ?_)
  all_goals (first | refine zaq rfl rfl (zaa rfl) (fun _ => (za9 (.inl rfl) rfl)) ?_ | refine zaq rfl rfl (zaa rfl) (fun _ => (zbp (.inl rfl) rfl)) ?_ | refine zaq rfl rfl (zaa rfl) (fun _ => (mv_s (.inl rfl) rfl)) ?_ | refine zaq rfl rfl (zaa rfl) (fun _ => (zba (.inl rfl) rfl)) ?_)
  all_goals refine zaq rfl rfl (zaa rfl) (fun _ => (za2 rfl rfl ((first_pf l hl12)) (zat rfl zbl))) ?_
  all_goals (first | refine zaq rfl rfl (zaa rfl) (fun _ => (zax rfl ta29 ti29 rfl rfl)) ?_ | refine ex_look rfl rfl (zaa rfl) (look_whole rfl ta29 ti29 rfl rfl rfl rfl rfl) ?_ | refine zaq rfl rfl (zaa rfl) (fun _ => (zav rfl ta29 ti29 rfl (Nat.le_of_ble_eq_true rfl))) ?_ | refine ex_look rfl rfl (zaa rfl) (look_ptrs rfl ta29 ti29 rfl rfl rfl rfl (Nat.le_of_ble_eq_true rfl)) ?_)
  all_goals (first | refine zaq rfl rfl (zaa rfl) (fun _ => (zao rfl tf25_1 (by decide) rfl)) ?_ | refine zaq rfl rfl (zaa rfl) (fun _ => (zal rfl tf25_1 (by decide) rfl)) ?_)
  all_goals (first | refine zaq rfl rfl (zaa rfl) (fun _ => (zan rfl ta3 rfl)) ?_ | refine ex_look rfl rfl (zaa rfl) (look_ptr rfl ta3 rfl rfl rfl rfl rfl) ?_)
  all_goals refine zaq rfl rfl (zaa rfl) (fun _ => (za2 rfl rfl (hr) (zat rfl (zat rfl (zat rfl (zat rfl (zat rfl (zat rfl zbl)))))))) ?_
  all_goals (first | refine zaq rfl rfl (zaa rfl) (fun _ => (mv_tup (.inl rfl) rfl)) ?_ | refine zaq rfl rfl (zaa rfl) (fun _ => (mv_s (.inl rfl) rfl)) ?_)
  all_goals refine zaq rfl rfl (zaa rfl) (fun _ => (zbb rfl rfl rfl)) ?_
  all_goals refine zaq rfl rfl (zaa rfl) (fun _ => (zbb rfl rfl rfl)) ?_
  all_goals refine zaq rfl rfl (zaa rfl) (fun _ => (mv_s (.inr rfl) rfl)) ?_
  all_goals refine zaq rfl rfl (zaa rfl) (fun _ => (mv_s (.inr rfl) rfl)) ?_
  all_goals refine ex_nil (by kernel_rfl) ?_
  all_goals (repeat (first | refine zag ?_ | refine zap ?_ | refine zae ?_ | refine zar ?_ | refine zac ?_))
  refine zaf ?_
  refine zab rfl rfl (zaa rfl) (mv_s (.inl rfl) rfl) ?_
  refine zab rfl rfl (zaa rfl) (mv_s (.inr rfl) rfl) ?_
  refine zam ?_
  repeat (first | refine zag ?_ | refine zap ?_ | refine zae ?_ | refine zar ?_ | refine zac ?_)
  (refine zbw ?_; repeat (first | refine ath_r ?_ | refine abl_r ?_))
  exact post1 (.inr rfl) rfl (congrArg eB HI.symm)
end Go.Proofs.Ytmoipmnhgdmkpaa.Aw
end
section
namespace Go.Proofs.Ytmoipmnhgdmkpaa.Aw
set_option linter.unusedSimpArgs false
set_option linter.unusedVariables false
set_option linter.unusedSectionVars false

theorem d_pos {a : Fr} (h : a.ok) : 0 < a.d := by have := h.2.2.1; omega
theorem mkF_val {n d : Int} (hd : 0 < d) {c : Fr} (h : mkF n d = some c) : 0 < c.d ∧ c.n * d = n * c.d := by
  unfold mkF at h
  split at h
  · injection h with h
    subst h
    have hg : 0 < (Int.gcd n d : Int) := by have := Int.gcd_pos_iff.2 (Or.inr (show d ≠ 0 by omega) : n ≠ 0 ∨ d ≠ 0); omega
    obtain ⟨k, hk⟩ : (Int.gcd n d : Int) ∣ n := Int.gcd_dvd_left ..
    obtain ⟨m, hm⟩ : (Int.gcd n d : Int) ∣ d := Int.gcd_dvd_right ..
    have h1 := (nf_ok n d (by omega)).1
    refine ⟨by omega, ?_⟩
    unfold nf
    simp only [Int.sign_eq_one_of_pos hd, Int.one_mul, Int.natAbs_of_nonneg (show 0 ≤ d by omega)]
    generalize (Int.gcd n d : Int) = g at *
    rw [hk, hm, Int.mul_ediv_cancel_left _ (by omega), Int.mul_ediv_cancel_left _ (by omega)]
    grind
  · cases h
def val (a : Fr) : Rat := (a.n : Rat) / (a.d : Rat)
theorem cast_ne {d : Int} (h : 0 < d) : (d : Rat) ≠ 0 := by exact_mod_cast (show d ≠ 0 by omega)
theorem val_mkF {n d : Int} (hd : 0 < d) {c : Fr} (h : mkF n d = some c) : val c = (n : Rat) / (d : Rat) := by
  obtain ⟨h1, h2⟩ := mkF_val hd h
  unfold val
  have e1 : (c.n : Rat) * (d : Rat) = (n : Rat) * (c.d : Rat) := by exact_mod_cast h2
  have e2 := cast_ne h1
  have e3 := cast_ne hd
  grind
theorem val_add {a b c : Fr} (ha : a.ok) (hb : b.ok) (h : fadd a b = some c) : val c = val a + val b := by
  rw [val_mkF (Int.mul_pos (d_pos ha) (d_pos hb)) h]
  unfold val
  have e1 := cast_ne (d_pos ha)
  have e2 := cast_ne (d_pos hb)
  push_cast
  grind
theorem val_mul {a b c : Fr} (ha : a.ok) (hb : b.ok) (h : fmul a b = some c) : val c = val a * val b := by
  rw [val_mkF (Int.mul_pos (d_pos ha) (d_pos hb)) h]
  unfold val
  have e1 := cast_ne (d_pos ha)
  have e2 := cast_ne (d_pos hb)
  push_cast
  grind
theorem val_neg (a : Fr) : val (fneg a) = - val a := by
  unfold val fneg
  push_cast
  grind
theorem val_sub {a b c : Fr} (ha : a.ok) (hb : b.ok) (h : fsub a b = some c) : val c = val a - val b := by
  rw [val_add ha (fneg_ok hb) h, val_neg]
  grind
theorem val_nn {a : Fr} (h : a.ok ∧ 0 ≤ a.n) : 0 ≤ val a := by
  have e2 := cast_ne (d_pos h.1)
  have e3 : (0 : Rat) < (a.d : Rat) := Rat.intCast_pos.2 (d_pos h.1)
  have e4 : (0 : Rat) ≤ (a.n : Rat) := by exact_mod_cast h.2
  have e5 : val a * (a.d : Rat) = (a.n : Rat) := by unfold val; grind
  refine Rat.le_of_mul_le_mul_right (c := (a.d : Rat)) ?_ e3
  grind
/-- how two fractions compare -/
theorem val_le {a b : Fr} (ha : a.ok) (hb : b.ok) : val a ≤ val b ↔ a.n * b.d ≤ b.n * a.d := by
  have e1 : (0 : Rat) < (a.d : Rat) := Rat.intCast_pos.2 (d_pos ha)
  have e2 : (0 : Rat) < (b.d : Rat) := Rat.intCast_pos.2 (d_pos hb)
  have f1 := cast_ne (d_pos ha)
  have f2 := cast_ne (d_pos hb)
  have g1 : val a * ((a.d : Rat) * (b.d : Rat)) = (a.n : Rat) * (b.d : Rat) := by unfold val; grind
  have g2 : val b * ((a.d : Rat) * (b.d : Rat)) = (b.n : Rat) * (a.d : Rat) := by unfold val; grind
  have hp := Rat.mul_pos e1 e2
  constructor
  · intro h
    have := Rat.mul_le_mul_of_nonneg_right h (Rat.le_of_lt hp)
    rw [g1, g2] at this
    exact_mod_cast this
  · intro h
    refine Rat.le_of_mul_le_mul_right (c := (a.d : Rat) * (b.d : Rat)) ?_ hp
    rw [g1, g2]
    exact_mod_cast h
theorem cmpN_le {a b : Fr} (ha : a.ok) (hb : b.ok) : cmpN a b ≤ 0 ↔ val a ≤ val b := by
  rw [val_le ha hb]
  unfold cmpN
  split
  · constructor <;> intro _ <;> omega
  · split
    · constructor <;> intro _ <;> omega
    · constructor <;> intro _ <;> omega

def sumR (f : Nat → Rat) : Nat → Rat
  | 0 => 0
  | k + 1 => sumR f k + f k
theorem sumR_le {f g : Nat → Rat} : ∀ {k : Nat}, (∀ i, i < k → f i ≤ g i) → sumR f k ≤ sumR g k
  | 0, _ => Rat.le_refl
  | k + 1, h => by
    have h1 := sumR_le (k := k) (fun i hi => h i (by omega))
    have h2 := h k (by omega)
    show sumR f k + f k ≤ sumR g k + g k
    grind
theorem sumR_congr {f g : Nat → Rat} : ∀ {k : Nat}, (∀ i, i < k → f i = g i) → sumR f k = sumR g k
  | 0, _ => rfl
  | k + 1, h => by
    have h1 := sumR_congr (k := k) (fun i hi => h i (by omega))
    have h2 := h k (by omega)
    show sumR f k + f k = sumR g k + g k
    rw [h1, h2]
theorem sumR_add (f g : Nat → Rat) : ∀ k, sumR (fun i => f i + g i) k = sumR f k + sumR g k
  | 0 => by show (0 : Rat) = 0 + 0; grind
  | k + 1 => by
    show sumR (fun i => f i + g i) k + (f k + g k) = (sumR f k + f k) + (sumR g k + g k)
    rw [sumR_add f g k]
    grind
theorem sumR_mul (c : Rat) (f : Nat → Rat) : ∀ k, sumR (fun i => c * f i) k = c * sumR f k
  | 0 => by show (0 : Rat) = c * 0; grind
  | k + 1 => by
    show sumR (fun i => c * f i) k + c * f k = c * (sumR f k + f k)
    rw [sumR_mul c f k]
    grind
theorem sumR_shift (f : Nat → Rat) : ∀ k, sumR f (k + 1) = f 0 + sumR (fun i => f (i + 1)) k
  | 0 => by show (0 : Rat) + f 0 = f 0 + 0; grind
  | k + 1 => by
    show sumR f (k + 1) + f (k + 1) = f 0 + (sumR (fun i => f (i + 1)) k + f (k + 1))
    rw [sumR_shift f k]
    grind
/-! the binomial probabilities -/

theorem sum_neg (f : Nat → Rat) : ∀ k, sumR (fun i => - f i) k = - sumR f k
  | 0 => by show (0 : Rat) = - 0; grind
  | k + 1 => by
    show sumR (fun i => - f i) k + - f k = - (sumR f k + f k)
    rw [sum_neg f k]; grind
theorem fe_of {x : Option Fr} (h : (FE.of x).e = 0) : x = some ⟨(FE.of x).n, (FE.of x).d⟩ := by
  cases x with
  | none => simp [FE.of] at h
  | some a => rfl
theorem addE_val {a b : Fr} (h : (addE a b).e = 0) : a.ok ∧ b.ok ∧ val ⟨(addE a b).n, (addE a b).d⟩ = val a + val b := by
  unfold addE at *
  split at h
  · rename_i hc
    rw [if_pos hc] at *
    simp only [Bool.and_eq_true, Fr.okB_iff] at hc
    exact ⟨hc.1, hc.2, val_add hc.1 hc.2 (fe_of h)⟩
  · simp [FE.err] at h
theorem subE_val {a b : Fr} (h : (subE a b).e = 0) : a.ok ∧ b.ok ∧ val ⟨(subE a b).n, (subE a b).d⟩ = val a - val b := by
  unfold subE at *
  split at h
  · rename_i hc
    rw [if_pos hc] at *
    simp only [Bool.and_eq_true, Fr.okB_iff] at hc
    exact ⟨hc.1, hc.2, val_sub hc.1 hc.2 (fe_of h)⟩
  · simp [FE.err] at h
theorem mulE_val {a b : Fr} (h : (mulE a b).e = 0) : a.ok ∧ b.ok ∧ val ⟨(mulE a b).n, (mulE a b).d⟩ = val a * val b := by
  unfold mulE at *
  split at h
  · rename_i hc
    rw [if_pos hc] at *
    simp only [Bool.and_eq_true, Fr.okB_iff] at hc
    exact ⟨hc.1, hc.2, val_mul hc.1 hc.2 (fe_of h)⟩
  · simp [FE.err] at h
theorem val_of (n : Int) : val (Fr.of n) = (n : Rat) := by
  unfold val Fr.of
  show (n : Rat) / ((1 : Int) : Rat) = n
  have : ((1 : Int) : Rat) = 1 := rfl
  rw [this]; grind
/-! ## sums of products -/
def dotR : List Fr → List Fr → Rat
  | x :: a, y :: b => val x * val y + dotR a b
  | _, _ => 0
theorem dotG_val : ∀ (a b : List Fr) (acc : Fr), (dotG acc a b).e = 0 → val ⟨(dotG acc a b).n, (dotG acc a b).d⟩ = val acc + dotR a b
  | [], b, acc, h => by
    rw [dotG] <;> first | (show val acc = val acc + dotR [] b; rw [dotR] <;> first | grind | (intro x y z w e; cases e)) | (intro x y z w e; cases e)
  | x :: a, [], acc, h => by
    rw [dotG] <;> first | (show val acc = val acc + dotR (x :: a) []; rw [dotR] <;> first | grind | (intro x y z w e e2; cases e2)) | (intro x y z w e e2; cases e2)
  | x :: a, y :: b, acc, h => by
    rw [dotG] at h ⊢
    split at h
    · rename_i h1; exact absurd h h1
    · rename_i h1
      rw [if_neg h1]
      split at h
      · rename_i h2; exact absurd h h2
      · rename_i h2
        rw [if_neg h2]
        rw [dotG_val a b _ h, (addE_val (Decidable.not_not.1 h2)).2.2, (mulE_val (Decidable.not_not.1 h1)).2.2, dotR]
        grind
theorem dotR_sum : ∀ (a b : List Fr), a.length = b.length → dotR a b = sumR (fun k => val (gti a k) * val (gti b k)) a.length
  | [], [], _ => by rw [dotR] <;> first | rfl | (intro x y z w e; cases e)
  | x :: a, y :: b, h => by
    rw [dotR, List.length_cons, sumR_shift, dotR_sum a b (by simpa using h)]
    rfl
theorem dotE_val {a b : List Fr} (h : (dotE a b).e = 0) : a.length = b.length ∧ val ⟨(dotE a b).n, (dotE a b).d⟩ = sumR (fun k => val (gti a k) * val (gti b k)) a.length := by
  unfold dotE at *
  split at h
  · simp [FE.err] at h
  · rename_i h1
    rw [if_neg h1]
    split at h
    · simp [FE.err] at h
    · rename_i h2
      rw [if_neg h2]
      split at h
      · simp [FE.err] at h
      · rename_i h3
        rw [if_neg h3]
        have hl := Decidable.not_not.1 h3
        refine ⟨hl, ?_⟩
        rw [dotG_val a b _ h, val_of, ← dotR_sum a b hl]
        show ((0 : Int) : Rat) + _ = _
        have : ((0 : Int) : Rat) = 0 := rfl
        rw [this]; grind
/-! ## bounds -/
def yV (y : List Fr) (p : Nat) : Rat := val (gti y p)
theorem prG_val (y : List Fr) (pd : List Int) : ∀ (n k : Nat) (a : Fr), (prG y pd n k a).e = 0 → val ⟨(prG y pd n k a).n, (prG y pd n k a).d⟩ = val a - sumR (fun i => yV y (gti pd (k + i)).toNat) n
  | 0, k, a, h => by rw [prG]; show val a = val a - 0; grind
  | n + 1, k, a, h => by
    rw [prG] at h ⊢
    split at h
    · rename_i h1; exact absurd h h1
    · rename_i h1
      rw [if_neg h1, prG_val y pd n (k + 1) _ h, (subE_val (Decidable.not_not.1 h1)).2.2, sumR_shift]
      have : sumR (fun i => yV y (gti pd (k + 1 + i)).toNat) n = sumR (fun i => yV y (gti pd (k + (i + 1))).toNat) n := sumR_congr fun i _ => by rw [show k + 1 + i = k + (i + 1) by omega]
      rw [this]
      show val a - val (gti y (gti pd k).toNat) - _ = val a - (yV y (gti pd (k + 0)).toNat + _)
      unfold yV
      rw [Nat.add_zero]
      grind
/-- the sum of the multipliers of a shift's periods -/
def sY (y : List Fr) (pd : List Int) : Rat := sumR (fun i => yV y (gti pd i).toNat) pd.length
theorem prE_val {y : List Fr} {s : Sft} (h : (prE y s).e = 0) : val ⟨(prE y s).n, (prE y s).d⟩ = (s.cost : Rat) - sY y s.pd := by
  unfold prE at *
  rw [prG_val y s.pd _ 0 _ h, val_of]
  unfold sY
  congr 2
  funext i
  rw [Nat.zero_add]
theorem val_neg_n {a : Fr} (hd : 0 < a.d) (h : a.n < 0) : val a ≤ 0 := by
  have e3 : (0 : Rat) < (a.d : Rat) := Rat.intCast_pos.2 hd
  have e2 := cast_ne hd
  have e4 : (a.n : Rat) ≤ 0 := by exact_mod_cast (show a.n ≤ 0 by omega)
  have e5 : val a * (a.d : Rat) = (a.n : Rat) := by unfold val; grind
  refine Rat.le_of_mul_le_mul_right (c := (a.d : Rat)) ?_ e3
  grind
theorem mul_choice {v a b c : Rat} (h : (v ≤ 0 ∧ c ≤ b ∧ a = b) ∨ (0 ≤ v ∧ b ≤ c ∧ a = b)) : v * a ≤ v * c := by
  rcases h with ⟨h1, h2, rfl⟩ | ⟨h1, h2, rfl⟩
  · have := Rat.mul_le_mul_of_nonneg_left h2 (show 0 ≤ -v by grind)
    grind
  · exact Rat.mul_le_mul_of_nonneg_left h2 h1
theorem bdG_val (l : List Sft) (lo hi : List Int) (y : List Fr) (c : List Int) (hin : ∀ i, i < l.length → gti lo i ≤ gti c i ∧ gti c i ≤ gti hi i) : ∀ (n i : Nat) (s r : Fr), i + n ≤ l.length → bdG l lo hi y n i s = (r, true) → val r ≤ val s + sumR (fun j => (((gti l (i + j)).cost : Rat) - sY y (gti l (i + j)).pd) * ((gti c (i + j) : Int) : Rat)) n
  | 0, i, s, r, _, h => by
    rw [bdG] at h
    injection h with h1 _
    subst h1
    show val s ≤ val s + 0
    grind
  | n + 1, i, s, r, hn, h => by
    rw [bdG] at h
    by_cases h1 : (prE y (gti l i)).e ≠ 0
    · rw [if_pos h1] at h; injection h with _ h2; cases h2
    · rw [if_neg h1] at h
      obtain ⟨CH, hCH⟩ : ∃ CH, CH = if (prE y (gti l i)).n < 0 then gti hi i else gti lo i := ⟨_, rfl⟩
      rw [← hCH] at h
      by_cases h2 : (mulE ⟨(prE y (gti l i)).n, (prE y (gti l i)).d⟩ (Fr.of CH)).e ≠ 0
      · rw [if_pos h2] at h; injection h with _ h2; cases h2
      · rw [if_neg h2] at h
        by_cases h3 : (addE s ⟨(mulE ⟨(prE y (gti l i)).n, (prE y (gti l i)).d⟩ (Fr.of CH)).n, (mulE ⟨(prE y (gti l i)).n, (prE y (gti l i)).d⟩ (Fr.of CH)).d⟩).e ≠ 0
        · rw [if_pos h3] at h; injection h with _ h2; cases h2
        · rw [if_neg h3] at h
          have ih := bdG_val l lo hi y c hin n (i + 1) _ r (by omega) h
          have e1 := prE_val (Decidable.not_not.1 h1)
          obtain ⟨m1, m2, e2⟩ := mulE_val (Decidable.not_not.1 h2)
          obtain ⟨_, _, e3⟩ := addE_val (Decidable.not_not.1 h3)
          rw [e3, e2, e1, val_of] at ih
          rw [sumR_shift]
          have hs : sumR (fun j => (((gti l (i + 1 + j)).cost : Rat) - sY y (gti l (i + 1 + j)).pd) * ((gti c (i + 1 + j) : Int) : Rat)) n = sumR (fun j => (((gti l (i + (j + 1))).cost : Rat) - sY y (gti l (i + (j + 1))).pd) * ((gti c (i + (j + 1)) : Int) : Rat)) n := sumR_congr fun j _ => by rw [show i + 1 + j = i + (j + 1) by omega]
          rw [hs] at ih
          obtain ⟨g1, g2⟩ := hin i (by omega)
          have hch : (((gti l i).cost : Rat) - sY y (gti l i).pd) * ((CH : Int) : Rat) ≤ (((gti l i).cost : Rat) - sY y (gti l i).pd) * ((gti c i : Int) : Rat) := by
            rw [← e1]
            refine mul_choice (b := ((CH : Int) : Rat)) ?_
            rw [hCH]
            split
            · rename_i hneg
              exact .inl ⟨val_neg_n (d_pos m1) hneg, by exact_mod_cast g2, rfl⟩
            · rename_i hneg
              exact .inr ⟨val_nn ⟨m1, by show 0 ≤ (prE y (gti l i)).n; omega⟩, by exact_mod_cast g1, rfl⟩
          simp only [Nat.add_zero]
          grind
/-! ## the sums in another order -/
theorem sum_single (p0 : Nat) (x : Rat) : ∀ m, sumR (fun p => if p = p0 then x else 0) m = if p0 < m then x else 0
  | 0 => by rw [if_neg (by omega)]; rfl
  | m + 1 => by
    show sumR (fun p => if p = p0 then x else 0) m + (if m = p0 then x else 0) = _
    rw [sum_single p0 x m]
    by_cases h1 : p0 < m
    · rw [if_pos h1, if_neg (by omega), if_pos (by omega)]; grind
    · by_cases h2 : m = p0
      · rw [if_neg h1, if_pos h2, if_pos (by omega)]; grind
      · rw [if_neg h1, if_neg h2, if_neg (by omega)]; grind
theorem sum_in (y : List Fr) (pd : List Int) (m : Nat) (hr : ∀ k, k < pd.length → 0 ≤ gti pd k ∧ gti pd k < (m : Int)) (ha : ∀ k, k < pd.length → 0 < k → gti pd (k - 1) < gti pd k) : ∀ j, j ≤ pd.length → sumR (fun p => if inB (pd.take j) p = true then yV y p else 0) m = sumR (fun i => yV y (gti pd i).toNat) j
  | 0, _ => by
    have : ∀ m, sumR (fun p : Nat => if inB (pd.take 0) p = true then yV y p else 0) m = 0 := by
      intro m
      induction m with
      | zero => rfl
      | succ m ih =>
        show sumR (fun p : Nat => if inB (pd.take 0) p = true then yV y p else 0) m + (if inB (pd.take 0) m = true then yV y m else 0) = 0
        rw [ih, List.take_zero, inB_nil, if_neg (by simp)]; grind
    exact this m
  | j + 1, hj => by
    have ih := sum_in y pd m hr ha j (by omega)
    obtain ⟨p0, hp0⟩ : ∃ p0 : Nat, gti pd j = (p0 : Int) := ⟨(gti pd j).toNat, by have := hr j (by omega); omega⟩
    have hlt : p0 < m := by have := hr j (by omega); omega
    have hnew : inB (pd.take j) p0 = false := by rw [← hp0]; exact inB_new ha (by omega)
    have e1 : sumR (fun p => if inB (pd.take (j + 1)) p = true then yV y p else 0) m = sumR (fun p => (if inB (pd.take j) p = true then yV y p else 0) + (if p = p0 then yV y p0 else 0)) m := sumR_congr fun p _ => by
      by_cases h : p = p0
      · subst h
        rw [if_pos ((inB_step (by omega) p).2 (.inr hp0)), if_neg (by rw [hnew]; simp), if_pos rfl]; grind
      · by_cases h2 : inB (pd.take j) p = true
        · rw [if_pos ((inB_step (by omega) p).2 (.inl h2)), if_pos h2, if_neg h]; grind
        · rw [if_neg (fun h3 => by
            rcases (inB_step (by omega) p).1 h3 with h4 | h4
            · exact h2 h4
            · exact h (by omega)), if_neg h2, if_neg h]; grind
    rw [e1, sumR_add, ih, sum_single, if_pos hlt]
    show _ = sumR (fun i => yV y (gti pd i).toNat) j + yV y (gti pd j).toNat
    rw [hp0]; rfl
/-- what the shifts bring, weighed -/
theorem sum_swap {d : List Int} {l : List Sft} (hv : validS d l = true) (y : List Fr) (c : List Int) : ∀ n, n ≤ l.length → sumR (fun i => sY y (gti l i).pd * ((gti c i : Int) : Rat)) n = sumR (fun p => yV y p * ((cvP l c n p : Int) : Rat)) d.length
  | 0, _ => by
    have : ∀ m, sumR (fun p : Nat => yV y p * ((cvP l c 0 p : Int) : Rat)) m = 0 := by
      intro m
      induction m with
      | zero => rfl
      | succ m ih =>
        show sumR (fun p : Nat => yV y p * ((cvP l c 0 p : Int) : Rat)) m + yV y m * ((0 : Int) : Rat) = 0
        have h0 : ((0 : Int) : Rat) = 0 := rfl
        rw [ih, h0]; grind
    rw [this]; rfl
  | n + 1, hn => by
    obtain ⟨_, _, ql⟩ := validS_iff hv
    have hq := (ql n (by omega)).2
    show sumR (fun i => sY y (gti l i).pd * ((gti c i : Int) : Rat)) n + sY y (gti l n).pd * ((gti c n : Int) : Rat) = _
    rw [sum_swap hv y c n (by omega)]
    have e1 : sumR (fun p => yV y p * ((cvP l c (n + 1) p : Int) : Rat)) d.length = sumR (fun p => yV y p * ((cvP l c n p : Int) : Rat) + ((gti c n : Int) : Rat) * (if inB ((gti l n).pd.take (gti l n).pd.length) p = true then yV y p else 0)) d.length := sumR_congr fun p _ => by
      rw [List.take_length]
      show yV y p * (((cvP l c n p + if inB (gti l n).pd p = true then gti c n else 0 : Int)) : Rat) = _
      by_cases h : inB (gti l n).pd p = true
      · rw [if_pos h, if_pos h]; push_cast; grind
      · rw [if_neg h, if_neg h]; push_cast; grind
    rw [e1, sumR_add, sumR_mul, sum_in y (gti l n).pd d.length (fun k hk => ⟨(hq k hk).1, (hq k hk).2.1⟩) (fun k hk h0 => (hq k hk).2.2 h0) _ (Nat.le_refl _)]
    unfold sY
    grind
theorem prcP_val (l : List Sft) (c : List Int) : ∀ n, ((prcP l c n : Int) : Rat) = sumR (fun i => ((gti l i).cost : Rat) * ((gti c i : Int) : Rat)) n
  | 0 => rfl
  | n + 1 => by
    show ((prcP l c n + (gti l n).cost * gti c n : Int) : Rat) = sumR (fun i => ((gti l i).cost : Rat) * ((gti c i : Int) : Rat)) n + ((gti l n).cost : Rat) * ((gti c n : Int) : Rat)
    rw [← prcP_val l c n]; push_cast; rfl
/-- what multipliers prove of a box holds of all counts in it -/
theorem leaf_ok {d : List Int} {l : List Sft} (hv : validS d l = true) {lo hi : List Int} {y : List Fr} {K : Int} (hp : prvB d l lo hi y K = true) {c : List Int} (hin : ∀ i, i < l.length → gti lo i ≤ gti c i ∧ gti c i ≤ gti hi i) (hcov : ∀ p, p < d.length → gti d p ≤ cvP l c l.length p) : K ≤ prcP l c l.length := by
  unfold prvB mulB at hp
  simp only [Bool.and_eq_true, decide_eq_true_eq, Bool.not_eq_true'] at hp
  obtain ⟨⟨hyl, hyb⟩, hb2, hc0, hc1⟩ := hp
  have hyn : ∀ p, p < y.length → (gti y p).ok ∧ 0 ≤ (gti y p).n := fun p hp => by
    have h1 := List.any_eq_false.1 hyb (gti y p) (gti_mem hp)
    unfold badM at h1
    simp only [Bool.or_eq_true, Bool.not_eq_true', decide_eq_true_eq, not_or] at h1
    exact ⟨(Fr.okB_iff _).1 (by simpa using h1.1), by omega⟩
  generalize hb : bdE d l lo hi y = b at hb2 hc0 hc1
  obtain ⟨s, z⟩ := b
  dsimp only at hb2 hc0 hc1
  subst hb2
  unfold bdE at hb
  by_cases h0 : (dotE (d.map Fr.of) y).e ≠ 0
  · rw [if_pos h0] at hb; injection hb with _ h2; cases h2
  · rw [if_neg h0] at hb
    obtain ⟨hdl, hdv⟩ := dotE_val (Decidable.not_not.1 h0)
    have h1 := bdG_val l lo hi y c hin l.length 0 _ s (by omega) hb
    rw [hdv] at h1
    have hcm : s.ok ∧ (Fr.of (K - 1)).ok ∧ 0 < cmpN s (Fr.of (K - 1)) := by
      unfold cmpE at hc0 hc1
      split at hc0
      · rename_i hk
        rw [if_pos hk] at hc1
        simp only [Bool.and_eq_true, Fr.okB_iff] at hk
        exact ⟨hk.1, hk.2, hc1⟩
      · cases hc0
    have h2 : ¬ val s ≤ val (Fr.of (K - 1)) := fun h => by
      have := (cmpN_le hcm.1 hcm.2.1).2 h
      omega
    rw [val_of] at h2
    have e1 : sumR (fun k => val (gti (d.map Fr.of) k) * val (gti y k)) (d.map Fr.of).length = sumR (fun p => yV y p * ((gti d p : Int) : Rat)) d.length := by
      rw [List.length_map]
      exact sumR_congr fun p hp => by rw [ofL_gti hp, val_of]; unfold yV; grind
    rw [e1] at h1
    have e2 : sumR (fun j => (((gti l (0 + j)).cost : Rat) - sY y (gti l (0 + j)).pd) * ((gti c (0 + j) : Int) : Rat)) l.length = sumR (fun i => ((gti l i).cost : Rat) * ((gti c i : Int) : Rat)) l.length + - sumR (fun i => sY y (gti l i).pd * ((gti c i : Int) : Rat)) l.length := by
      rw [← sum_neg, ← sumR_add]
      exact sumR_congr fun i _ => by rw [Nat.zero_add]; grind
    rw [e2, ← prcP_val, sum_swap hv y c l.length (Nat.le_refl _)] at h1
    have e3 : sumR (fun p => yV y p * ((gti d p : Int) : Rat)) d.length ≤ sumR (fun p => yV y p * ((cvP l c l.length p : Int) : Rat)) d.length := sumR_le fun p hp =>
      Rat.mul_le_mul_of_nonneg_left (by exact_mod_cast hcov p hp) (by unfold yV; exact val_nn (hyn p (by omega)))
    have e4 : ((K - 1 : Int) : Rat) < ((prcP l c l.length : Int) : Rat) := by grind
    have : K - 1 < prcP l c l.length := by exact_mod_cast e4
    omega
theorem tree_ok {d : List Int} {l : List Sft} (hv : validS d l = true) {K : Int} {c : List Int} (hcov : ∀ p, p < d.length → gti d p ≤ cvP l c l.length p) : ∀ (m : Nat) (b : Br) (lo hi : List Int) (n : Int), SizeOf.sizeOf b < m → lo.length = l.length → hi.length = l.length → (∀ i, i < l.length → gti lo i ≤ gti c i ∧ gti c i ≤ gti hi i) → (rgtE d l K b lo hi n).1 = true → K ≤ prcP l c l.length := by
  intro m
  induction m with
  | zero => intro b lo hi n h; omega
  | succ m ih =>
    intro b lo hi n hsz h1 h2 hin hr
    obtain ⟨s, t, L, y⟩ := b
    match L, hsz, hr with
    | [], _, hr =>
      rw [rgtE] at hr
      split at hr
      · cases hr
      · simp only [Bool.and_eq_true] at hr
        exact leaf_ok hv hr.2.2 hin hcov
    | [a, b], hsz, hr =>
      rw [rgtE] at hr
      split at hr
      · cases hr
      · split at hr
        · cases hr
        · rename_i hg
          have hg := Decidable.not_not.1 hg
          split at hr
          · cases hr
          · rename_i hf
            have hk : s.toNat < l.length := by omega
            simp at hsz
            by_cases hle : gti c s.toNat ≤ t
            · refine ih a lo (setI hi s.toNat t) _ (by omega) h1 (by rw [setI_len]; exact h2) (fun i hi' => ?_) (by simpa using hf)
              rw [setI_gti (by omega)]
              have := hin i hi'
              split
              · rename_i e; subst e; omega
              · exact this
            · refine ih b (setI lo s.toNat (t + 1)) hi _ (by omega) (by rw [setI_len]; exact h1) h2 (fun i hi' => ?_) hr
              rw [setI_gti (by omega)]
              have := hin i hi'
              split
              · rename_i e; subst e; omega
              · exact this
    | [_], _, hr =>
      rw [rgtE] at hr
      split at hr <;> cases hr
    | _ :: _ :: _ :: _, _, hr =>
      rw [rgtE] at hr
      split at hr <;> cases hr
theorem shF_ge (d : List Int) (l : List Sft) (c : List Int) : ∀ n k, -1 ≤ shF d l c n k
  | 0, k => by rw [shF]; decide
  | n + 1, k => by
    rw [shF]; split
    · omega
    · exact shF_ge d l c n (k + 1)
theorem shF_cov (d : List Int) (l : List Sft) (c : List Int) : ∀ n k, shF d l c n k < 0 → ∀ p, k ≤ p → p < k + n → gti d p ≤ cvP l c l.length p
  | 0, k, _, p, h1, h2 => by omega
  | n + 1, k, h, p, h1, h2 => by
    rw [shF] at h
    split at h
    · omega
    · by_cases e : p = k
      · subst e; omega
      · exact shF_cov d l c n (k + 1) h p (by omega) (by omega)
/-- NO RIGHT PLAN IS CHEAPER THAN ONE THAT IS ACCEPTED -/
theorem cheapest {d : List Int} {l : List Sft} {p : Pln} {b : Br} (h : chkE d l p b = true) {c : List Int} (hc : cntB l c = true) (hs : shE d l c < 0) : p.cost ≤ prcP l c l.length := by
  unfold chkE at h
  split at h
  · rename_i hk
    obtain ⟨hv, _, _, _⟩ := hk
    obtain ⟨hl, hb⟩ := cntB_iff hc
    refine tree_ok hv (fun p hp => shF_cov d l c d.length 0 hs p (Nat.zero_le _) (by omega)) (SizeOf.sizeOf b + 1) b (zeroI l.length) (mostL l) 20000 (Nat.lt_succ_self _) (by simp [zeroI]) (mostL_len l) (fun i hi => ?_) h
    have h0 : gti (zeroI l.length) i = 0 := by
      unfold zeroI gti
      rw [List.getElem?_replicate, if_pos hi]; rfl
    rw [h0, mostL_gti hi]
    exact hb i hi
  · cases h
end Go.Proofs.Ytmoipmnhgdmkpaa.Aw
end
section
namespace Go.Proofs.Ytmoipmnhgdmkpaa.Aw
set_option linter.unusedSimpArgs false
set_option linter.unusedVariables false
set_option linter.unusedSectionVars false
open Go.RowKit

structure KE (G G' : Cx) : Prop where
  step : G.Step G'
  mu0 : ∀ y, G.mu 0 = some y → G'.mu 0 = some y
  rows : RowsKept G.w G'.w
theorem KE.refl (G : Cx) : KE G G := ⟨.refl G, fun _ h => h, RowsKept.refl _⟩
theorem KE.trans {G H K : Cx} (h : KE G H) (k : KE H K) : KE G K := ⟨h.step.trans k.step, fun y x => k.mu0 y (h.mu0 y x), h.rows.trans k.rows⟩
theorem KE.of {G G' : Cx} (e : G.Ext G') : KE G G' := ⟨e.step, e.mu 0, e.rows⟩
def liftK (N : Nat) (G : Cx) (Q : Exit → Frm → List Ob → Prop) : Exit → Act → World → Prop :=
  fun e a' w' => ∃ G' F' σ', G'.w = w' ∧ KE G G' ∧ S8 N G' a' F' σ' ∧ Q e F' σ'
theorem liftK_mono {N : Nat} {G G1 : Cx} (h : KE G G1) {Q Q' : Exit → Frm → List Ob → Prop} (hq : ∀ e F σ, Q e F σ → Q' e F σ) {e : Exit} {a : Act} {w : World} (x : liftK N G1 Q e a w) : liftK N G Q' e a w := by
  obtain ⟨G', F', σ', h1, h2, h3, h4⟩ := x
  exact ⟨G', F', σ', h1, h.trans h2, h3, hq _ _ _ h4⟩

def KWp (P : Program) (N : Nat) (c : Code) (F : Frm) (σ : List Ob) (Q : Exit → Frm → List Ob → Prop) : Prop :=
  ∀ G a, S8 N G a F σ → c.wp P (liftK N G Q) a G.w
def KOps (P : Program) (N : Nat) (ops : Array Oper) (l : List Oper) (F : Frm) (σ : List Ob) (Q : Exit → Frm → List Ob → Prop) : Prop :=
  ∀ G a, S8 N G a F σ → wpList P ops (liftK N G Q) l a G.w

section
variable {P : Program} {N : Nat} {F : Frm} {σ : List Ob} {Q : Exit → Frm → List Ob → Prop}

theorem kw_seq {x y : Code} (h : KWp P N x F σ (AThen (fun F σ => KWp P N y F σ Q) Q)) : KWp P N (.seq x y) F σ Q := fun G a hs => by
  refine wp_seq (Code.wp_mono (fun e a1 w1 q => ?_) (h G a hs))
  obtain ⟨G', F', σ', rfl, h2, h3, h4⟩ := q
  cases e with
  | normal => exact Code.wp_mono (fun e a w q => liftK_mono h2 (fun _ _ _ x => x) q) (h4 G' a1 h3)
  | _ => exact ⟨G', F', σ', rfl, h2, h3, h4⟩
theorem kw_skip (h : Q .normal F σ) : KWp P N .skip F σ Q := fun G a hs => wp_skip ⟨G, F, σ, rfl, .refl G, hs, h⟩
theorem kw_exit {id : Nat} (h : Q (.exit id) F σ) : KWp P N (.exit id) F σ Q := fun G a hs => wp_exit ⟨G, F, σ, rfl, .refl G, hs, h⟩
theorem kw_ret (h : Q .ret F σ) : KWp P N .ret F σ Q := fun G a hs => wp_ret ⟨G, F, σ, rfl, .refl G, hs, h⟩
theorem kw_block {id : Nat} {c : Code} (h : KWp P N c F σ (ABlk id Q)) : KWp P N (.block id c) F σ Q := fun G a hs => by
  refine wp_block (Code.wp_mono (fun e a1 w1 q => ?_) (h G a hs))
  obtain ⟨G', F', σ', rfl, h2, h3, h4⟩ := q
  cases e with
  | exit id' =>
    simp only [ABlk] at h4
    simp only [Exit.inBlock]
    split
    · rename_i e; rw [if_pos e] at h4; exact ⟨G', F', σ', rfl, h2, h3, h4⟩
    · rename_i e; rw [if_neg e] at h4; exact ⟨G', F', σ', rfl, h2, h3, h4⟩
  | _ => exact ⟨G', F', σ', rfl, h2, h3, h4⟩
theorem kw_cond {c : Operand} {x y : Code} {b : Bool} (hc : F.eval c = .s (.bool b)) (ht : b = true → KWp P N x F σ Q) (hf : b = false → KWp P N y F σ Q) : KWp P N (.cond c x y) F σ Q := fun G a hs =>
  wp_cond_split (rep_bool hs.fr hc) (fun e => ht e G a hs) (fun e => hf e G a hs)
theorem kw_true {c : Operand} {x y : Code} (hc : F.eval c = .s (.bool true)) (ht : KWp P N x F σ Q) : KWp P N (.cond c x y) F σ Q := kw_cond hc (fun _ => ht) (fun e => by cases e)
theorem kw_false {c : Operand} {x y : Code} (hc : F.eval c = .s (.bool false)) (ht : KWp P N y F σ Q) : KWp P N (.cond c x y) F σ Q := kw_cond hc (fun e => by cases e) (fun _ => ht)
theorem kw_loop {c : Code} (I : Nat → Frm → List Ob → Prop) (m : Nat) (h0 : I m F σ)
    (round : ∀ m F σ, I m F σ → KWp P N c F σ (AThen (fun F' σ' => ∃ m', m' < m ∧ I m' F' σ') Q)) : KWp P N (.loop c) F σ Q := fun G a hs => by
  refine wp_loop_ghost (fun n a w => ∃ G' F' σ', G'.w = w ∧ KE G G' ∧ S8 N G' a F' σ' ∧ I n F' σ') m ⟨G, F, σ, rfl, .refl G, hs, h0⟩ ?_
  rintro n a w ⟨G', F', σ', rfl, h2, h3, h4⟩
  refine Code.wp_mono (fun e a1 w1 q => ?_) (round n F' σ' h4 G' a h3)
  obtain ⟨G2, F2, σ2, rfl, h5, h6, h7⟩ := q
  cases e with
  | normal => obtain ⟨m', hm, hi⟩ := h7; exact ⟨m', hm, ⟨G2, F2, σ2, rfl, h2.trans h5, h6, hi⟩⟩
  | _ => exact ⟨G2, F2, σ2, rfl, h2.trans h5, h6, h7⟩

theorem kw_region {id : Nat} {l : List Oper} (h : KOps P N l.toArray l F σ Q) : KWp P N (.region id l.toArray false) F σ Q := fun G a hs => wp_region_lit (h G a hs)
theorem kw_mono {c : Code} {Q' : Exit → Frm → List Ob → Prop} (h : KWp P N c F σ Q) (hq : ∀ e F σ, Q e F σ → Q' e F σ) : KWp P N c F σ Q' := fun G a hs =>
  Code.wp_mono (fun e a w q => liftK_mono (.refl G) hq q) (h G a hs)

end

section
variable {P : Program} {N : Nat} {F : Frm} {σ σ' : List Ob} {Q : Exit → Frm → List Ob → Prop} {ops : Array Oper} {o : Oper} {l : List Oper} {x : AV}

theorem kops_nil (h : Q .normal F σ) : KOps P N ops [] F σ Q := fun G a hs => ⟨G, F, σ, rfl, .refl G, hs, h⟩
theorem zbk {d : Nat} (hd : o.dst = some d) (hN : Nat.blt d N = true) (hr : Runs ops F o true) (hD : Does P o F σ x σ') (k : KOps P N ops l ((d, x) :: F) σ' Q) : KOps P N ops (o :: l) F σ Q := fun G a hs => by
  unfold wpList
  rw [if_pos (hr.wanted hs.fr)]
  left
  refine hD G a _ _ hs.rel (fun y _ => rep_eval hs.fr y) (fun v G' e r hv => ?_)
  rw [hd]
  exact wpList_mono (fun e' a w q => liftK_mono (KE.of e) (fun _ _ _ x => x) q) _ _ _ (k G' _ ((hs.step e r).put (by simpa [Nat.blt_eq] using hN) hv))
theorem kops_eff (hd : o.dst = none) (hr : Runs ops F o true) (hD : Does P o F σ x σ') (k : KOps P N ops l F σ' Q) : KOps P N ops (o :: l) F σ Q := fun G a hs => by
  unfold wpList
  rw [if_pos (hr.wanted hs.fr)]
  left
  refine hD G a _ _ hs.rel (fun y _ => rep_eval hs.fr y) (fun v G' e r hv => ?_)
  rw [hd]
  exact wpList_mono (fun e' a w q => liftK_mono (KE.of e) (fun _ _ _ x => x) q) _ _ _ (k G' _ (hs.step e r))
theorem kops_skip {d : Nat} (hd : o.dst = some d) (hN : Nat.blt d N = true) (hr : Runs ops F o false) (k : KOps P N ops l ((d, .s undef) :: F) σ Q) : KOps P N ops (o :: l) F σ Q := fun G a hs => by
  unfold wpList
  rw [if_neg (by rw [hr.wanted hs.fr]; simp)]
  rw [hd]
  exact k G _ (hs.put (by simpa [Nat.blt_eq] using hN) (.s _))
end


def WeakK (N : Nat) (F : Frm) (σ : List Ob) (F' : Frm) (σ' : List Ob) : Prop := ∀ G a, S8 N G a F σ → ∃ G', G'.w = G.w ∧ KE G G' ∧ S8 N G' a F' σ'
theorem WeakK.refl {N : Nat} {F : Frm} {σ : List Ob} : WeakK N F σ F σ := fun G a h => ⟨G, rfl, .refl G, h⟩
section
variable {P : Program} {N : Nat} {F F' : Frm} {σ σ' : List Ob} {Q : Exit → Frm → List Ob → Prop}
theorem kw_weak {c : Code} (w : WeakK N F σ F' σ') (h : KWp P N c F' σ' Q) : KWp P N c F σ Q := fun G a hs => by
  obtain ⟨G1, e1, s1, h1⟩ := w G a hs
  rw [← e1]
  exact Code.wp_mono (fun e a w q => liftK_mono s1 (fun _ _ _ x => x) q) (h G1 a h1)
theorem kops_weak {ops : Array Oper} {l : List Oper} (w : WeakK N F σ F' σ') (h : KOps P N ops l F' σ' Q) : KOps P N ops l F σ Q := fun G a hs => by
  obtain ⟨G1, e1, s1, h1⟩ := w G a hs
  rw [← e1]
  exact wpList_mono (fun e a w q => liftK_mono s1 (fun _ _ _ x => x) q) _ _ _ (h G1 a h1)
/-- new names; the name 0 stays -/
theorem kwk_st (ρ : List Nat) (h0 : ρ[0]? = some 0) (hn : ρ.Nodup) (hs : StL ρ σ ρ σ') (hf : FrRn F ρ F') : WeakK N F σ F' σ' := fun G a h =>
  ⟨G.ren ρ, rfl, ⟨⟨rfl, rfl, fun _ _ h => h, fun _ _ _ => rfl, fun _ _ h => .inl h⟩, fun y hy => by simp [Cx.ren, h0, hy], RowsKept.refl _⟩, ⟨ren_rel h.rel hn (stRn_of ρ σ' hs), frRn_ok h.fr F' hf, h.df, h.nt⟩⟩
theorem kw_loops {c : Code} {S : Type} (fr : S → Frm) (st : S → List Ob) (inv : S → Prop) (ms : S → Nat) (s0 : S) (hw : WeakK N F σ (fr s0) (st s0)) (h0 : inv s0)
    (round : ∀ s, inv s → KWp P N c (fr s) (st s) (AThen (fun F' σ' => ∃ s', inv s' ∧ ms s' < ms s ∧ WeakK N F' σ' (fr s') (st s')) Q)) : KWp P N (.loop c) F σ Q := by
  refine kw_weak hw (kw_loop (fun m F σ => ∃ s, inv s ∧ ms s = m ∧ WeakK N F σ (fr s) (st s)) (ms s0) ⟨s0, h0, rfl, WeakK.refl⟩ (fun m F σ h => ?_))
  obtain ⟨s, h1, rfl, h3⟩ := h
  refine kw_weak h3 (kw_mono (round s h1) (fun e F σ q => ?_))
  cases e with
  | normal => obtain ⟨s', g1, g2, g3⟩ := q; exact ⟨ms s', g2, s', g1, rfl, g3⟩
  | _ => exact q
variable {ops : Array Oper} {o : Oper} {l : List Oper} {d : Nat}
theorem kops_opP {p : Prop} [Decidable p] (hd : o.dst = some d) (hN : Nat.blt d N = true) (hr : Runs ops F o true) (hD : Does P o F σ (.s (.bool (decide p))) σ) (k1 : p → KOps P N ops l ((d, .s (.bool true)) :: F) σ Q) (k2 : ¬ p → KOps P N ops l ((d, .s (.bool false)) :: F) σ Q) : KOps P N ops (o :: l) F σ Q := by
  by_cases h : p
  · exact zbk hd hN hr (dec_t h hD) (k1 h)
  · exact zbk hd hN hr (dec_f h hD) (k2 h)
theorem kops_opB {b : Bool} (hd : o.dst = some d) (hN : Nat.blt d N = true) (hr : Runs ops F o true) (hD : Does P o F σ (.s (.bool b)) σ) (k1 : b = true → KOps P N ops l ((d, .s (.bool true)) :: F) σ Q) (k2 : b = false → KOps P N ops l ((d, .s (.bool false)) :: F) σ Q) : KOps P N ops (o :: l) F σ Q := by
  cases b with
  | true => exact zbk hd hN hr hD (k1 rfl)
  | false => exact zbk hd hN hr hD (k2 rfl)
/-- a call that counts down a number of its caller's: it returns whether there were enough -/
structure CallC (P : Program) (f : FuncId) (x : AV) (e n : Int) : Prop where
  ent : Enters P f
  call : ∀ (G : Cx) (vargs : Array Value), Rel G [.row 1 [eI n]] → vargs.size = 3 → (∀ (j : Nat) v y, vargs[j]? = some v → [x, .ptr 0 1 0 0, eI e][j]? = some y → Rep G v y) →
    Calls P f vargs G.w fun ex w' => ∃ (z : Bool) (n' : Int) (G' : Cx), ex = .returned (.bool z) ∧ G'.w = w' ∧ KE G G' ∧ Rel G' [.row 1 [eI n']] ∧ n' ≤ n ∧ -1 ≤ n' ∧ (z = true → 0 ≤ n')
theorem fr_keep {G G' : Cx} {a : Act} (hF : ∀ p ∈ F, Lo 1 p.2) (h : FOk G a F) (k : KE G G') : FOk G' a F := fun t => by
  have key : ∀ F : Frm, (∀ p ∈ F, Lo 1 p.2) → Lo 1 (F.get t) := by
    intro F
    induction F with
    | nil => intro _; exact .any
    | cons p F ih =>
      intro hF
      obtain ⟨d, x⟩ := p
      simp only [Frm.get]
      cases Nat.beq d t with
      | true => exact hF (d, x) List.mem_cons_self
      | false => exact ih (fun p hp => hF p (List.mem_cons_of_mem _ hp))
  refine (h t).low (key F hF) k.step.st k.step.cell (fun id y hid hy => ?_) (fun _ => k.rows)
  obtain rfl : id = 0 := by omega
  exact k.mu0 y hy
section
variable {fo : Operand} {ar : Array Operand} {ts : Array TypeId} {f : FuncId} {x : AV} {e n : Int}
theorem kops_cnt (hd : o.dst = some d) (hN : Nat.blt d N = true) (hr : Runs ops F o true) (ho : o.op = .call { callee := .value fo, args := ar, argTypes := ts }) (hf : F.eval fo = .fn f []) (hp : CallC P f x e n) (ha : ar.toList.map F.eval ++ [] = [x, .ptr 0 1 0 0, eI e]) (hF : ∀ p ∈ F, Lo 1 p.2)
    (k : ∀ (z : Bool) (n' : Int), n' ≤ n → -1 ≤ n' → (z = true → 0 ≤ n') → KOps P N ops l ((d, eB z) :: F) [.row 1 [eI n']] Q) : KOps P N ops (o :: l) F [.row 1 [eI n]] Q := fun G a hs => by
  unfold wpList
  rw [if_pos (hr.wanted hs.fr)]
  left
  obtain ⟨cap, h1, h2, h3⟩ := call_args ho (fun y _ => rep_eval hs.fr y) hf
  rw [ha] at h2 h3
  unfold Oper.wp
  rw [call_enter ho a.eval h1 hp.ent G.w, Oper.upon_enter]
  refine (hp.call G _ hs.rel h2 h3).mono ?_
  rintro ex w' ⟨z, n', G', rfl, rfl, hk, hr', c1, c2, c3⟩
  rw [hd]
  have hfr : FOk G' a F := fr_keep hF hs.fr hk
  exact wpList_mono (fun e' a w q => liftK_mono hk (fun _ _ _ x => x) q) _ _ _ (k z n' c1 c2 c3 G' _ (S8.put ⟨hr', hfr, hs.df, hs.nt⟩ (by simpa [Nat.blt_eq] using hN) (.s _)))
theorem ops_cnt (hd : o.dst = some d) (hN : Nat.blt d N = true) (hr : Runs ops F o true) (ho : o.op = .call { callee := .value fo, args := ar, argTypes := ts }) (hf : F.eval fo = .fn f []) (hp : CallC P f x e n) (ha : ar.toList.map F.eval ++ [] = [x, .ptr 0 1 0 0, eI e]) (hF : ∀ p ∈ F, Lo 1 p.2)
    (k : ∀ (z : Bool) (n' : Int), n' ≤ n → -1 ≤ n' → (z = true → 0 ≤ n') → AOps P N ops l ((d, eB z) :: F) [.row 1 [eI n']] Q) : AOps P N ops (o :: l) F [.row 1 [eI n]] Q := fun G a hs => by
  unfold wpList
  rw [if_pos (hr.wanted hs.fr)]
  left
  obtain ⟨cap, h1, h2, h3⟩ := call_args ho (fun y _ => rep_eval hs.fr y) hf
  rw [ha] at h2 h3
  unfold Oper.wp
  rw [call_enter ho a.eval h1 hp.ent G.w, Oper.upon_enter]
  refine (hp.call G _ hs.rel h2 h3).mono ?_
  rintro ex w' ⟨z, n', G', rfl, rfl, hk, hr', c1, c2, c3⟩
  rw [hd]
  have hfr : FOk G' a F := fr_keep hF hs.fr hk
  exact wpList_mono (fun e' a w q => lift_mono hk.step (fun _ _ _ x => x) q) _ _ _ (k z n' c1 c2 c3 G' _ (S8.put ⟨hr', hfr, hs.df, hs.nt⟩ (by simpa [Nat.blt_eq] using hN) (.s _)))
end
end
theorem lo_01 {x : AV} (h : Lo 0 x) : Lo 1 x := by
  induction h with
  | any => exact .any
  | s v => exact .s v
  | agg cs _ ih => exact .agg cs ih
  | emp => exact .emp
  | sl l _ ih => exact .sl l ih
  | ref cs _ ih => exact .ref cs ih
  | own id sz n h => omega
  | ptr id sz i j h => omega
  | fn f cs _ ih => exact .fn f cs ih
  | tup l _ ih => exact .tup l ih
  | mp id h => omega
  | sub id sz o n h => omega
theorem hF_nil : ∀ p ∈ ([] : Frm), Lo 1 p.2 := by simp
theorem hF_cons {d : Nat} {x : AV} {F : Frm} (h : Lo 1 x) (t : ∀ p ∈ F, Lo 1 p.2) : ∀ p ∈ (d, x) :: F, Lo 1 p.2 := fun p hp => by
  rcases List.mem_cons.1 hp with rfl | hp
  · exact h
  · exact t p hp
/-- how such a call ends -/
def PostC (t : Nat) (n : Int) : Exit → Frm → List Ob → Prop := fun e F σ => (e = .normal ∨ e = .ret) ∧ ∃ (z : Bool) (n' : Int) (X : List Ob), F.get t = eB z ∧ σ = .row 1 [eI n'] :: X ∧ n' ≤ n ∧ -1 ≤ n' ∧ (z = true → 0 ≤ n')
theorem callC_fn {P : Program} {f : FuncId} {x : AV} {e0 n : Int} {fn : Func} {c : Code} {t : Nat} (hf : P.funcs[f]? = some fn) (hname : (fn.name == "runtime.NumGoroutine") = false) (hb : fn.body = some c) (hn : 3 ≤ fn.ntmps) (hres : fn.results.toList = [.tmp t])
    (h : KWp P fn.ntmps c (argF 0 [x, .ptr 0 1 0 0, eI e0]) [.row 1 [eI n]] (PostC t n)) : CallC P f x e0 n := by
  refine ⟨enters_of hf hname hb, fun G vargs hrel hsz hrep => ?_⟩
  refine calls_of_wp hf hb ?_
  have hfo : FOk G { tmps := vargs ++ Array.replicate (fn.ntmps - vargs.size) undef, defers := [] } (argF 0 [x, .ptr 0 1 0 0, eI e0]) := by
    intro d
    rw [argF_get]
    simp only [Nat.zero_le, if_true, Nat.sub_zero]
    by_cases hd : d < [x, AV.ptr 0 1 0 0, eI e0].length
    · have hd3 : d < 3 := hd
      have h1 : (vargs ++ Array.replicate (fn.ntmps - vargs.size) undef).getD d undef = vargs[d]'(by omega) := by
        rw [Array.getD_eq_getD_getElem?, Array.getElem?_append_left (by omega)]
        simp [show d < vargs.size by omega]
      rw [h1]
      have h2 : [x, AV.ptr 0 1 0 0, eI e0].getD d .any = [x, AV.ptr 0 1 0 0, eI e0][d] := by rw [List.getD_eq_getElem?_getD, List.getElem?_eq_getElem hd]; rfl
      rw [h2]
      exact hrep d _ _ (by simp [show d < vargs.size by omega]) (by simp [hd])
    · have h2 : [x, AV.ptr 0 1 0 0, eI e0].getD d .any = .any := by
        rw [List.getD_eq_getElem?_getD, List.getElem?_eq_none (by omega)]; rfl
      rw [h2]; exact .any _
  have hs8 : S8 fn.ntmps G { tmps := vargs ++ Array.replicate (fn.ntmps - vargs.size) undef, defers := [] } (argF 0 [x, .ptr 0 1 0 0, eI e0]) [.row 1 [eI n]] := ⟨hrel, hfo, rfl, by simp; omega⟩
  refine Code.wp_mono (fun e a w q => ?_) (h G _ hs8)
  obtain ⟨G', F', σ1, rfl, h2, h3, he, z, n', X, hz, rfl, c1, c2, c3⟩ := q
  have hrl : ResL P F' (.row 1 [eI n'] :: X) fn.results.toList [eB z] := by rw [hres]; exact .cons _ _ _ _ (.tmp _ _ hz) .nil
  obtain ⟨v, h6, h7⟩ := results_run (fn := fn) h3.rel h3.fr hrl
  have hv : v = .bool z := rep_s h7
  subst hv
  have hr2 : Rel (G'.ren [0]) [.row 1 [eI n']] := ren_rel h3.rel (by simp) (stRn_of [0] _ (⟨⟨_, rfl, .rowE (by intro e he c hc; simp at he; subst he; simp [eI, AV.cells] at hc; subst hc; exact .s _) rfl⟩, trivial⟩ : StL [0] (.row 1 [eI n'] :: X) [0] [.row 1 [eI n']]))
  have hk2 : KE G' (G'.ren [0]) := ⟨⟨rfl, rfl, fun _ _ h => h, fun _ _ _ => rfl, fun _ _ h => .inl h⟩, fun y hy => by simp [Cx.ren, hy], RowsKept.refl _⟩
  have post : ∃ (z' : Bool) (n'' : Int) (G'' : Cx), Ending.returned (.bool z) = .returned (.bool z') ∧ G''.w = G'.w ∧ KE G G'' ∧ Rel G'' [.row 1 [eI n'']] ∧ n'' ≤ n ∧ -1 ≤ n'' ∧ (z' = true → 0 ≤ n'') := ⟨z, n', G'.ren [0], rfl, rfl, h2.trans hk2, hr2, c1, c2, c3⟩
  rcases he with rfl | rfl
  · exact ⟨h3.df, _, h6, post⟩
  · exact ⟨h3.df, _, h6, post⟩
theorem kw_bdm {α : Type} {P : Program} {N : Nat} {F : Frm} {σ : List Ob} {Q : Exit → Frm → List Ob → Prop} {c : Code} {d : Nat} {g : α → AV} {l : List α} (hd : F.get d = eL g l) (h : l.length ≤ maxLen → KWp P N c F σ Q) : KWp P N c F σ Q := fun G a hs => by
  have h1 : Rep G (a.tmps.getD d undef) (.sl (l.map g)) := by
    have := hs.fr d
    rw [hd] at this
    exact this
  have h2 := rep_len h1
  rw [List.length_map] at h2
  exact h h2 G a hs
end Go.Proofs.Ytmoipmnhgdmkpaa.Aw
end
