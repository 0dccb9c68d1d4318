/-
  Texts joined: ShK. Conditions: none.
-/
import Derived.Test.YtmoipmnhgdmkpaaJP11
section
namespace Go.Proofs.Ytmoipmnhgdmkpaa.Aw
set_option linter.unusedSimpArgs false
set_option linter.unusedVariables false
set_option linter.unusedSectionVars false
open Go.RowKit Go.Proofs
variable {P : Program} [IsP P]

def zLP : LP := ⟨[], [], [], []⟩
def prgR (d : List Int) (l : List Sft) : LP × Int := if validS d l = true then (if l.length = 0 then (zLP, 10) else if 12 < (prgE d l (zeroI l.length) (mostL l)).a.length then (zLP, 5) else (prgE d l (zeroI l.length) (mostL l), 0)) else (zLP, 1)
def ePI (r : LP × Int) : AV := .tup [eP r.1, eI r.2]
theorem lo_FF (A : List (List Fr)) : Lo 0 (eL (eL eF) A) := zai fun r => lo_Fs r
theorem lo_P (p : LP) : Lo 0 (eP p) := .agg _ (zae (lo_Fs _) (zae (lo_FF _) (zae (zai fun _ => .s _) (zae (lo_Fs _) zah))))
theorem post_zp {N : Nat} {F : Frm} {σ : List Ob} {ad u : Nat} {ty : TypeId} {id sz n bt : Nat} {z : Option Value} {ob : Ob} {cs : List AV} {r : LP × Int} {m : Int} {e : Exit} (he : e = .normal ∨ e = .ret) (ha : tyAgg P ty = some true) (hi : zbx P ty = some (z, n, bt)) (hp : F.get ad = .ptr id sz 0 0) (hs : σ[id]? = some ob) (ho : rowOf ob = some (sz, cs)) (hk : cs[0]? = some zP) (hn : zP.cells.length = n) (hu : F.get u = eI m) (hr : r = (zLP, m)) : APost P [.cell ad ty, .tmp u] (ePI r) e F σ := by
  subst hr
  exact post_cs (N := 0) he ha hi hp hs ho hk hn hu (.agg _ _ rfl (FiniL.cons .nil (FiniL.cons .nil (FiniL.cons .nil (FiniL.cons .nil FiniL.nil)))).2) (.refl _)
set_option maxHeartbeats 4000000 in
theorem sProgram_pf (d : List Int) (l : List Sft) : Pure P 13 [eL eI d, eL eSh l] (ePI (prgR d l)) := by
  have HI : prgR d l = if validS d l = true then (if l.length = 0 then (zLP, 10) else if 12 < (prgE d l (zeroI l.length) (mostL l)).a.length then (zLP, 5) else (prgE d l (zeroI l.length) (mostL l), 0)) else (zLP, 1) := rfl
  generalize prgR d l = R at HI ⊢
  refine aw_fn (by rw [IsP.eq (P := P)]; exact Try.func13) rfl rfl rfl rfl rfl (by repeat' (first | exact Lo.s _ | exact zah | refine zae ?_ ?_ | refine zai ?_ | refine Lo.cells ?_ | refine Lo.agg _ ?_ | refine Lo.ref _ ?_ | refine Lo.tup _ ?_ | refine Lo.fn _ _ ?_ | refine Lo.sl _ ?_ | intro _)) (.tup _ (zae (lo_P _) (zae (.s _) zah))) (by simp only [argF]; rfl) ?_
  repeat (first | refine zag ?_ | refine zap ?_ | refine zad ?_ | refine zaq ?_ | refine zac ?_)
  refine aw_bdm (d := 1) rfl (fun hm1 => ?_)
  unfold maxLen at hm1
  refine zaf ?_
  refine zab rfl rfl (zaa rfl) (zbu rfl ti49 rfl rfl) ?_
  refine zab rfl rfl (zaa rfl) (mv_s (.inr rfl) rfl) ?_
  refine zan ?_
  repeat (first | refine zag ?_ | refine zap ?_ | refine zad ?_ | refine zaq ?_ | refine zac ?_)
  all_goals refine zaf ?_
  all_goals (first | refine zab rfl rfl (zaa rfl) (za3 (.inl rfl) rfl) ?_ | refine zab rfl rfl (zaa rfl) (zbi (.inl rfl) rfl) ?_ | refine zab rfl rfl (zaa rfl) (mv_s (.inl rfl) rfl) ?_ | refine zab rfl rfl (zaa rfl) (za4 (.inl rfl) rfl) ?_)
  all_goals (first | refine zab rfl rfl (zaa rfl) (za3 (.inl rfl) rfl) ?_ | refine zab rfl rfl (zaa rfl) (zbi (.inl rfl) rfl) ?_ | refine zab rfl rfl (zaa rfl) (mv_s (.inl rfl) rfl) ?_ | refine zab rfl rfl (zaa rfl) (za4 (.inl rfl) rfl) ?_)
  all_goals (first | refine zbj rfl rfl (zaa rfl) (za5 rfl rfl ((sValid_pf54 d l)) (zat rfl (zat rfl zbl))) (fun h10 => ?_) (fun h10 => ?_) | refine zbk rfl rfl (zaa rfl) (za5 rfl rfl ((sValid_pf54 d l)) (zat rfl (zat rfl zbl))) (fun h10 => ?_) (fun h10 => ?_))
  all_goals (first | refine zab rfl rfl (zaa rfl) (does_notp rfl rfl) ?_ | refine zab rfl rfl (zaa rfl) (does_not rfl rfl) ?_)
  all_goals refine zan ?_
  all_goals (repeat (first | refine zag ?_ | refine zap ?_ | refine zad ?_ | refine zaq ?_ | refine zac ?_))
  all_goals (first | refine zbq rfl ?_ | refine zbm rfl ?_)
  all_goals (repeat (first | refine zag ?_ | refine zap ?_ | refine zad ?_ | refine zaq ?_ | refine zac ?_))
  rotate_left
  · rw [if_neg (by rw [h10]; simp)] at HI
    refine zaf ?_
    refine zab rfl rfl (zaa rfl) (does_build rfl ti49 tp49 rfl rfl) ?_
    refine zb2 rfl (zaa rfl) (zbe rfl ti49 rfl rfl rfl rfl rfl rfl (by decide) (by decide)) ?_
    refine zab rfl rfl (zaa rfl) (mv_s (.inr rfl) rfl) ?_
    refine zan ?_
    repeat (first | refine zag ?_ | refine zap ?_ | refine zad ?_ | refine zaq ?_ | refine zac ?_)
    (refine zbt ?_; repeat (first | refine ath_r ?_ | refine abl_r ?_))
    exact post_zp (N := 0) (.inr rfl) ta49 ti49 rfl rfl rfl rfl rfl rfl HI
  rw [if_pos h10] at HI
  have hl12 := (validS_iff h10).1.2.2
  all_goals refine zaf ?_
  all_goals (first | refine zab rfl rfl (zaa rfl) (za3 (.inl rfl) rfl) ?_ | refine zab rfl rfl (zaa rfl) (zbi (.inl rfl) rfl) ?_ | refine zab rfl rfl (zaa rfl) (mv_s (.inl rfl) rfl) ?_ | refine zab rfl rfl (zaa rfl) (za4 (.inl rfl) rfl) ?_)
  all_goals (first | refine zab rfl rfl (zaa rfl) (za0 rfl ts23 rfl) ?_ | refine zab rfl rfl (zaa rfl) (za7 rfl ts23 rfl) ?_ | refine zab rfl rfl (zaa rfl) (zaw rfl ts23 rfl) ?_ | refine zab rfl rfl (zaa rfl) (zbc rfl ts23 rfl) ?_ | refine zab rfl rfl (zaa rfl) (zax rfl ts23 rfl) ?_)
  all_goals (first | refine zbj rfl rfl (zaa rfl) (does_eql rfl rfl rfl) (fun h15 => ?_) (fun h15 => ?_) | refine zbk rfl rfl (zaa rfl) (does_eql rfl rfl rfl) (fun h15 => ?_) (fun h15 => ?_))
  all_goals refine zan ?_
  all_goals (repeat (first | refine zag ?_ | refine zap ?_ | refine zad ?_ | refine zaq ?_ | refine zac ?_))
  all_goals (first | refine zbq rfl ?_ | refine zbm rfl ?_)
  all_goals (repeat (first | refine zag ?_ | refine zap ?_ | refine zad ?_ | refine zaq ?_ | refine zac ?_))
  · rw [if_pos (by omega)] at HI
    refine zaf ?_
    refine zab rfl rfl (zaa rfl) (does_build rfl ti49 tp49 rfl rfl) ?_
    refine zb2 rfl (zaa rfl) (zbe rfl ti49 rfl rfl rfl rfl rfl rfl (by decide) (by decide)) ?_
    refine zab rfl rfl (zaa rfl) (mv_s (.inr rfl) rfl) ?_
    refine zan ?_
    repeat (first | refine zag ?_ | refine zap ?_ | refine zad ?_ | refine zaq ?_ | refine zac ?_)
    (refine zbt ?_; repeat (first | refine ath_r ?_ | refine abl_r ?_))
    exact post_zp (N := 0) (.inr rfl) ta49 ti49 rfl rfl rfl rfl rfl rfl HI
  rw [if_neg (by omega)] at HI
  have hpg := program_pf (P := P) d l (zeroI l.length) (mostL l) h10 (by simp [zeroI]) (mostL_len l)
  generalize prgE d l (zeroI l.length) (mostL l) = p at HI hpg
  obtain ⟨pc, pa, pr, pb⟩ := p
  have hla := lo_FF pa
  replace hpg : Pure P 31 [eL eI d, eL eSh l, eBx (zeroI l.length) (mostL l)] (.tup [.agg [eL eF pc, eL (eL eF) pa, eL eI pr, eL eF pb], eL eI (pe1 d d.length)]) := hpg
  refine zaf ?_
  first | refine zab rfl rfl (zaa rfl) (za3 (.inl rfl) rfl) ?_ | refine zab rfl rfl (zaa rfl) (zbi (.inl rfl) rfl) ?_ | refine zab rfl rfl (zaa rfl) (mv_s (.inl rfl) rfl) ?_ | refine zab rfl rfl (zaa rfl) (za4 (.inl rfl) rfl) ?_
  first | refine zab rfl rfl (zaa rfl) (za3 (.inl rfl) rfl) ?_ | refine zab rfl rfl (zaa rfl) (zbi (.inl rfl) rfl) ?_ | refine zab rfl rfl (zaa rfl) (mv_s (.inl rfl) rfl) ?_ | refine zab rfl rfl (zaa rfl) (za4 (.inl rfl) rfl) ?_
  first | refine zab rfl rfl (zaa rfl) (za3 (.inl rfl) rfl) ?_ | refine zab rfl rfl (zaa rfl) (zbi (.inl rfl) rfl) ?_ | refine zab rfl rfl (zaa rfl) (mv_s (.inl rfl) rfl) ?_ | refine zab rfl rfl (zaa rfl) (za4 (.inl rfl) rfl) ?_
  refine zab rfl rfl (zaa rfl) (za5 rfl rfl ((first_pf l hl12)) (zat rfl zbl)) ?_
  refine zab rfl rfl (zaa rfl) (za5 rfl rfl (hpg) (zat rfl (zat rfl (zat rfl zbl)))) ?_
  first | refine zab rfl rfl (zaa rfl) (mv_tup (.inl rfl) rfl) ?_ | refine zab rfl rfl (zaa rfl) (mv_s (.inl rfl) rfl) ?_
  refine zab rfl rfl (zaa rfl) (zbh rfl rfl rfl) ?_
  refine zab rfl rfl (zaa rfl) (zbh rfl rfl rfl) ?_
  refine zab rfl rfl (zaa rfl) (zbu rfl ti49 rfl rfl) ?_
  refine zb2 rfl (zaa rfl) (zbe rfl ti49 rfl rfl rfl rfl rfl rfl (by decide) (by decide)) ?_
  first | refine zab rfl rfl (zaa rfl) (za3 (.inr rfl) rfl) ?_ | refine zab rfl rfl (zaa rfl) (zbi (.inr rfl) rfl) ?_ | refine zab rfl rfl (zaa rfl) (mv_s (.inr rfl) rfl) ?_ | refine zab rfl rfl (zaa rfl) (za4 (.inr rfl) rfl) ?_
  refine zan ?_
  repeat (first | refine zag ?_ | refine zap ?_ | refine zad ?_ | refine zaq ?_ | refine zac ?_)
  refine zaf ?_
  first | refine zab rfl rfl (zaa rfl) (zal rfl tf49_1 (by decide) rfl) ?_ | refine zab rfl rfl (zaa rfl) (zaj rfl tf49_1 (by decide) rfl) ?_
  first | refine zab rfl rfl (zaa rfl) (zao rfl ta47 rfl) ?_ | refine zab rfl rfl (zaa rfl) (zar rfl ta47 rfl rfl rfl rfl rfl) ?_
  first | refine zab rfl rfl (zaa rfl) (za0 rfl ts47 rfl) ?_ | refine zab rfl rfl (zaa rfl) (za7 rfl ts47 rfl) ?_ | refine zab rfl rfl (zaa rfl) (zaw rfl ts47 rfl) ?_ | refine zab rfl rfl (zaa rfl) (zbc rfl ts47 rfl) ?_ | refine zab rfl rfl (zaa rfl) (zax rfl ts47 rfl) ?_
  refine zab rfl rfl (zaa rfl) (zbz rfl rfl rfl) ?_
  refine zan ?_
  repeat (first | refine zag ?_ | refine zap ?_ | refine zad ?_ | refine zaq ?_ | refine zac ?_)
  refine aw_bdm (d := 26) rfl (fun hm2 => ?_)
  unfold maxLen at hm2
  refine aw_if rfl (fun h => ?_) (fun h => ?_)
  · rw [if_pos (by show 12 < pa.length; omega)] at HI
    repeat (first | refine zag ?_ | refine zap ?_ | refine zad ?_ | refine zaq ?_ | refine zac ?_)
    refine zaf ?_
    refine zab rfl rfl (zaa rfl) (does_build rfl ti49 tp49 rfl rfl) ?_
    refine zb2 rfl (zaa rfl) (zbe rfl ti49 rfl rfl rfl rfl rfl rfl (by decide) (by decide)) ?_
    refine zab rfl rfl (zaa rfl) (mv_s (.inr rfl) rfl) ?_
    refine zan ?_
    repeat (first | refine zag ?_ | refine zap ?_ | refine zad ?_ | refine zaq ?_ | refine zac ?_)
    (refine zbt ?_; repeat (first | refine ath_r ?_ | refine abl_r ?_))
    exact post_zp (N := 0) (.inr rfl) ta49 ti49 rfl rfl rfl rfl rfl rfl HI
  · rw [if_neg (by show ¬ 12 < pa.length; omega)] at HI
    repeat (first | refine zag ?_ | refine zap ?_ | refine zad ?_ | refine zaq ?_ | refine zac ?_)
    refine zaf ?_
    first | refine zab rfl rfl (zaa rfl) (za9 rfl ta49 ti49 rfl rfl) ?_ | refine zab rfl rfl (zaa rfl) (zbf rfl ta49 ti49 rfl rfl rfl rfl rfl) ?_ | refine zab rfl rfl (zaa rfl) (za8 rfl ta49 ti49 rfl (Nat.le_of_ble_eq_true rfl)) ?_ | refine zab rfl rfl (zaa rfl) (zbg rfl ta49 ti49 rfl rfl rfl rfl (Nat.le_of_ble_eq_true rfl)) ?_
    refine zb2 rfl (zaa rfl) (zbe rfl ti49 rfl rfl rfl rfl rfl rfl (by decide) (by decide)) ?_
    refine zab rfl rfl (zaa rfl) (mv_s (.inr rfl) rfl) ?_
    refine zan ?_
    repeat (first | refine zag ?_ | refine zap ?_ | refine zad ?_ | refine zaq ?_ | refine zac ?_)
    (refine zbt ?_; repeat (first | refine ath_r ?_ | refine abl_r ?_))
    rw [HI]
    exact post_cs (N := 0) (.inr rfl) ta49 ti49 rfl rfl rfl rfl rfl rfl (.refl _) (.refl _)
/-! ## the reference -/
def t2r (d : List Int) (l : List Sft) : Nat → List Tr
  | 0 => t1 d l d.length
  | n + 1 => t2r d l n ++ [(uK l n, 1, (gti l n).most)]
theorem t2_r (d : List Int) (l : List Sft) : ∀ n, n ≤ l.length → t2 d l (zeroI l.length) (mostL l) n = t2r d l n
  | 0, _ => rfl
  | n + 1, h => by
    have h0 : gti (zeroI l.length) n = 0 := by
      unfold zeroI gti
      rw [List.getElem?_replicate, if_pos (by omega)]; rfl
    unfold t2 t2r
    rw [t2_r d l n (by omega), h0, if_neg (by omega), List.append_nil, mostL_gti (by omega)]
theorem t2r_len (d : List Int) (l : List Sft) : ∀ n, (t2r d l n).length ≤ d.length + n
  | 0 => by have := t1_len d l d.length; simpa [t2r] using this
  | n + 1 => by
    have := t2r_len d l n
    unfold t2r
    simp; omega
def stR (C : List Fr) (T : List Tr) : List Ob := [.row 4 [zP], .row 4 [pgS 2 3 4 5 C (tA T) (tR T) (tB T)], .row 2 (C.map eF), .row 1 ((tA T).map (eL eF)), .row 1 ((tR T).map eI), .row 2 ((tB T).map eF)]
def stR1 (C : List Fr) (T : List Tr) (r : List AV) : List Ob := [.row 4 [zP], .row 4 [pgS 2 3 4 5 C (tA T) (tR T) (tB T)], .row 2 (C.map eF), .row 1 ((tA T).map (eL eF)), .row 1 ((tR T).map eI), .row 2 ((tB T).map eF), .row 2 r]
set_option maxHeartbeats 8000000 in
theorem rProgram_pf (d : List Int) (l : List Sft) : Pure P 14 [eL eI d, eL eSh l] (ePI (prgR d l)) := by
  have HI : prgR d l = if validS d l = true then (if l.length = 0 then (zLP, 10) else if 12 < (prgE d l (zeroI l.length) (mostL l)).a.length then (zLP, 5) else (prgE d l (zeroI l.length) (mostL l), 0)) else (zLP, 1) := rfl
  generalize prgR d l = R at HI ⊢
  refine aw_fn (by rw [IsP.eq (P := P)]; exact Try.func14) rfl rfl rfl rfl rfl (by repeat' (first | exact Lo.s _ | exact zah | refine zae ?_ ?_ | refine zai ?_ | refine Lo.cells ?_ | refine Lo.agg _ ?_ | refine Lo.ref _ ?_ | refine Lo.tup _ ?_ | refine Lo.fn _ _ ?_ | refine Lo.sl _ ?_ | intro _)) (.tup _ (zae (lo_P _) (zae (.s _) zah))) (by simp only [argF]; rfl) ?_
  repeat (first | refine zag ?_ | refine zap ?_ | refine zad ?_ | refine zaq ?_ | refine zac ?_)
  refine aw_bdm (d := 1) rfl (fun hm1 => ?_)
  unfold maxLen at hm1
  refine zaf ?_
  refine zab rfl rfl (zaa rfl) (zbu rfl ti49 rfl rfl) ?_
  refine zab rfl rfl (zaa rfl) (mv_s (.inr rfl) rfl) ?_
  refine zan ?_
  repeat (first | refine zag ?_ | refine zap ?_ | refine zad ?_ | refine zaq ?_ | refine zac ?_)
  all_goals refine zaf ?_
  all_goals (first | refine zab rfl rfl (zaa rfl) (za3 (.inl rfl) rfl) ?_ | refine zab rfl rfl (zaa rfl) (zbi (.inl rfl) rfl) ?_ | refine zab rfl rfl (zaa rfl) (mv_s (.inl rfl) rfl) ?_ | refine zab rfl rfl (zaa rfl) (za4 (.inl rfl) rfl) ?_)
  all_goals (first | refine zab rfl rfl (zaa rfl) (za3 (.inl rfl) rfl) ?_ | refine zab rfl rfl (zaa rfl) (zbi (.inl rfl) rfl) ?_ | refine zab rfl rfl (zaa rfl) (mv_s (.inl rfl) rfl) ?_ | refine zab rfl rfl (zaa rfl) (za4 (.inl rfl) rfl) ?_)
  all_goals (first | refine zbj rfl rfl (zaa rfl) (za5 rfl rfl ((qValid_pf54 d l)) (zat rfl (zat rfl zbl))) (fun h18 => ?_) (fun h18 => ?_) | refine zbk rfl rfl (zaa rfl) (za5 rfl rfl ((qValid_pf54 d l)) (zat rfl (zat rfl zbl))) (fun h18 => ?_) (fun h18 => ?_))
  all_goals (first | refine zab rfl rfl (zaa rfl) (does_notp rfl rfl) ?_ | refine zab rfl rfl (zaa rfl) (does_not rfl rfl) ?_)
  all_goals refine zan ?_
  all_goals (repeat (first | refine zag ?_ | refine zap ?_ | refine zad ?_ | refine zaq ?_ | refine zac ?_))
  all_goals (first | refine zbq rfl ?_ | refine zbm rfl ?_)
  all_goals (repeat (first | refine zag ?_ | refine zap ?_ | refine zad ?_ | refine zaq ?_ | refine zac ?_))
  rotate_left
  · rw [if_neg (by rw [h18]; simp)] at HI
    refine zaf ?_
    refine zab rfl rfl (zaa rfl) (does_build rfl ti49 tp49 rfl rfl) ?_
    refine zb2 rfl (zaa rfl) (zbe rfl ti49 rfl rfl rfl rfl rfl rfl (by decide) (by decide)) ?_
    refine zab rfl rfl (zaa rfl) (mv_s (.inr rfl) rfl) ?_
    refine zan ?_
    repeat (first | refine zag ?_ | refine zap ?_ | refine zad ?_ | refine zaq ?_ | refine zac ?_)
    (refine zbt ?_; repeat (first | refine ath_r ?_ | refine abl_r ?_))
    exact post_zp (N := 0) (.inr rfl) ta49 ti49 rfl rfl rfl rfl rfl rfl HI
  rw [if_pos h18] at HI
  obtain ⟨⟨q1, q2, q3⟩, qd, ql⟩ := validS_iff h18
  all_goals refine zaf ?_
  all_goals (first | refine zab rfl rfl (zaa rfl) (za3 (.inl rfl) rfl) ?_ | refine zab rfl rfl (zaa rfl) (zbi (.inl rfl) rfl) ?_ | refine zab rfl rfl (zaa rfl) (mv_s (.inl rfl) rfl) ?_ | refine zab rfl rfl (zaa rfl) (za4 (.inl rfl) rfl) ?_)
  all_goals (first | refine zab rfl rfl (zaa rfl) (za0 rfl ts23 rfl) ?_ | refine zab rfl rfl (zaa rfl) (za7 rfl ts23 rfl) ?_ | refine zab rfl rfl (zaa rfl) (zaw rfl ts23 rfl) ?_ | refine zab rfl rfl (zaa rfl) (zbc rfl ts23 rfl) ?_ | refine zab rfl rfl (zaa rfl) (zax rfl ts23 rfl) ?_)
  all_goals (first | refine zbj rfl rfl (zaa rfl) (does_eql rfl rfl rfl) (fun h23 => ?_) (fun h23 => ?_) | refine zbk rfl rfl (zaa rfl) (does_eql rfl rfl rfl) (fun h23 => ?_) (fun h23 => ?_))
  all_goals refine zan ?_
  all_goals (repeat (first | refine zag ?_ | refine zap ?_ | refine zad ?_ | refine zaq ?_ | refine zac ?_))
  all_goals (first | refine zbq rfl ?_ | refine zbm rfl ?_)
  all_goals (repeat (first | refine zag ?_ | refine zap ?_ | refine zad ?_ | refine zaq ?_ | refine zac ?_))
  · rw [if_pos (by omega)] at HI
    refine zaf ?_
    refine zab rfl rfl (zaa rfl) (does_build rfl ti49 tp49 rfl rfl) ?_
    refine zb2 rfl (zaa rfl) (zbe rfl ti49 rfl rfl rfl rfl rfl rfl (by decide) (by decide)) ?_
    refine zab rfl rfl (zaa rfl) (mv_s (.inr rfl) rfl) ?_
    refine zan ?_
    repeat (first | refine zag ?_ | refine zap ?_ | refine zad ?_ | refine zaq ?_ | refine zac ?_)
    (refine zbt ?_; repeat (first | refine ath_r ?_ | refine abl_r ?_))
    exact post_zp (N := 0) (.inr rfl) ta49 ti49 rfl rfl rfl rfl rfl rfl HI
  rw [if_neg (by omega)] at HI
  refine zaf ?_
  refine zab rfl rfl (zaa rfl) (zbu rfl ti49 rfl rfl) ?_
  refine zan ?_
  repeat (first | refine zag ?_ | refine zap ?_ | refine zad ?_ | refine zaq ?_ | refine zac ?_)
  refine zaf ?_
  refine zab rfl rfl (zaa rfl) (mv_s (.inr rfl) rfl) ?_
  refine zan ?_
  repeat (first | refine zag ?_ | refine zap ?_ | refine zad ?_ | refine zaq ?_ | refine zac ?_)
  refine zb3 (wk_ownC (id := 1) (sz2 := 2) (e' := .agg [.own 2 2 0, .s (.slice none 0 0), .s (.slice none 0 0), .s (.slice none 0 0)]) (pre := []) (post := [.s (.slice none 0 0), .s (.slice none 0 0), .s (.slice none 0 0)]) rfl rfl rfl) ?_
  refine zb3 (wk_ownC (id := 1) (sz2 := 1) (e' := .agg [.own 2 2 0, .own 3 1 0, .s (.slice none 0 0), .s (.slice none 0 0)]) (pre := [.own 2 2 0]) (post := [.s (.slice none 0 0), .s (.slice none 0 0)]) rfl rfl rfl) ?_
  refine zb3 (wk_ownC (id := 1) (sz2 := 1) (e' := .agg [.own 2 2 0, .own 3 1 0, .own 4 1 0, .s (.slice none 0 0)]) (pre := [.own 2 2 0, .own 3 1 0]) (post := [.s (.slice none 0 0)]) rfl rfl rfl) ?_
  refine zb3 (wk_ownC (id := 1) (sz2 := 2) (e' := .agg [.own 2 2 0, .own 3 1 0, .own 4 1 0, .own 5 2 0]) (pre := [.own 2 2 0, .own 3 1 0, .own 4 1 0]) (post := []) rfl rfl rfl) ?_
  refine aw_loops (S := Nat) (fun k => [(0, eL eI d), (1, eL eSh l), (4, .ptr 0 4 0 0), (6, .ptr 1 4 0 0), (7, eI k)]) (fun k => stR ((costL l).take k) []) (fun k => k ≤ l.length) (fun k => l.length - k) 0
    (wk_st [0, 1, 2, 3, 4, 5] (by decide) ⟨⟨_, rfl, .rowE zP_lo rfl⟩, ⟨_, rfl, obRn_agg (.cons (.own _ _ _ _ _ rfl rfl) (.cons (.own _ _ _ _ _ rfl rfl) (.cons (.own _ _ _ _ _ rfl rfl) (.cons (.own _ _ _ _ _ rfl rfl) .nil))))⟩, ⟨_, rfl, .rowE (by repeat' (first | exact Lo.s _ | exact zah | exact zba | refine zae ?_ ?_ | refine zaz ?_ ?_ | refine zai ?_ | refine zbb ?_ | refine Lo.cells ?_ | refine Lo.agg _ ?_ | refine Lo.sl _ ?_ | intro _)) rfl⟩, ⟨_, rfl, .rowE (by repeat' (first | exact Lo.s _ | exact zah | exact zba | refine zae ?_ ?_ | refine zaz ?_ ?_ | refine zai ?_ | refine zbb ?_ | refine Lo.cells ?_ | refine Lo.agg _ ?_ | refine Lo.sl _ ?_ | intro _)) rfl⟩, ⟨_, rfl, .rowE (by repeat' (first | exact Lo.s _ | exact zah | exact zba | refine zae ?_ ?_ | refine zaz ?_ ?_ | refine zai ?_ | refine zbb ?_ | refine Lo.cells ?_ | refine Lo.agg _ ?_ | refine Lo.sl _ ?_ | intro _)) rfl⟩, ⟨_, rfl, .rowE (by repeat' (first | exact Lo.s _ | exact zah | exact zba | refine zae ?_ ?_ | refine zaz ?_ ?_ | refine zai ?_ | refine zbb ?_ | refine Lo.cells ?_ | refine Lo.agg _ ?_ | refine Lo.sl _ ?_ | intro _)) rfl⟩, trivial⟩ ⟨.lo _ (by repeat' (first | exact Lo.s _ | exact zah | refine zae ?_ ?_ | refine zai ?_ | refine Lo.cells ?_ | refine Lo.agg _ ?_ | refine Lo.ref _ ?_ | refine Lo.tup _ ?_ | refine Lo.fn _ _ ?_ | refine Lo.sl _ ?_ | intro _)), .lo _ (by repeat' (first | exact Lo.s _ | exact zah | refine zae ?_ ?_ | refine zai ?_ | refine Lo.cells ?_ | refine Lo.agg _ ?_ | refine Lo.ref _ ?_ | refine Lo.tup _ ?_ | refine Lo.fn _ _ ?_ | refine Lo.sl _ ?_ | intro _)), .ptr 0 0 4 0 0 rfl, .ptr 1 1 4 0 0 rfl, .lo _ (by repeat' (first | exact Lo.s _ | exact zah | refine zae ?_ ?_ | refine zai ?_ | refine Lo.cells ?_ | refine Lo.agg _ ?_ | refine Lo.ref _ ?_ | refine Lo.tup _ ?_ | refine Lo.fn _ _ ?_ | refine Lo.sl _ ?_ | intro _)), trivial⟩) (Nat.zero_le _) (fun k hk => ?_)
  have hcl := costL_len l
  repeat (first | refine zag ?_ | refine zap ?_ | refine zad ?_ | refine zaq ?_ | refine zac ?_)
  all_goals refine zaf ?_
  all_goals refine zab rfl rfl (zaa rfl) (mv_s (.inl rfl) rfl) ?_
  all_goals (first | refine zab rfl rfl (zaa rfl) (za3 (.inl rfl) rfl) ?_ | refine zab rfl rfl (zaa rfl) (zbi (.inl rfl) rfl) ?_ | refine zab rfl rfl (zaa rfl) (mv_s (.inl rfl) rfl) ?_ | refine zab rfl rfl (zaa rfl) (za4 (.inl rfl) rfl) ?_)
  all_goals (first | refine zab rfl rfl (zaa rfl) (za0 rfl ts23 rfl) ?_ | refine zab rfl rfl (zaa rfl) (za7 rfl ts23 rfl) ?_ | refine zab rfl rfl (zaa rfl) (zaw rfl ts23 rfl) ?_ | refine zab rfl rfl (zaa rfl) (zbc rfl ts23 rfl) ?_ | refine zab rfl rfl (zaa rfl) (zax rfl ts23 rfl) ?_)
  all_goals (first | refine zbj rfl rfl (zaa rfl) (zbd rfl rfl rfl) (fun h28 => ?_) (fun h28 => ?_) | refine zbk rfl rfl (zaa rfl) (zbd rfl rfl rfl) (fun h28 => ?_) (fun h28 => ?_))
  all_goals refine zan ?_
  all_goals (repeat (first | refine zag ?_ | refine zap ?_ | refine zad ?_ | refine zaq ?_ | refine zac ?_))
  all_goals (first | refine zbq rfl ?_ | refine zbm rfl ?_)
  all_goals (repeat (first | refine zag ?_ | refine zap ?_ | refine zad ?_ | refine zaq ?_ | refine zac ?_))
  · have hlt : k < l.length := by omega
    have htk : (((costL l).take k).map eF).length = k := by simp; omega
    have hrow : ((costL l).take (k + 1)).map eF = ((costL l).take k).map eF ++ [eF (Fr.of (gti l k).cost)] := by
      rw [take_snoc (by omega), List.map_append, costL_gti hlt]; rfl
    have hrl : (((costL l).take (k + 1)).map eF).length = (((costL l).take k).map eF).length + 1 := by rw [hrow]; simp
    all_goals refine aw_draw hmix ?_
    all_goals refine adraw_ex ?_
    all_goals (first | refine zas rfl rfl (zaa rfl) (fun _ => (zal rfl tf49_0 (by decide) rfl)) ?_ | refine zas rfl rfl (zaa rfl) (fun _ => (zaj rfl tf49_0 (by decide) rfl)) ?_)
    all_goals (first | refine zas rfl rfl (zaa rfl) (fun _ => (zao rfl ta27 rfl)) ?_ | refine zb4 rfl rfl (zaa rfl) (look_ptr rfl ta27 rfl rfl rfl rfl rfl) ?_)
    all_goals (first | refine zas rfl rfl (zaa rfl) (fun _ => (za3 (.inl rfl) rfl)) ?_ | refine zas rfl rfl (zaa rfl) (fun _ => (zbi (.inl rfl) rfl)) ?_ | refine zas rfl rfl (zaa rfl) (fun _ => (mv_s (.inl rfl) rfl)) ?_ | refine zas rfl rfl (zaa rfl) (fun _ => (za4 (.inl rfl) rfl)) ?_)
    all_goals refine zas rfl rfl (zaa rfl) (fun _ => (mv_s (.inl rfl) rfl)) ?_
    all_goals (first | refine zas rfl rfl (zaa rfl) (fun _ => (za1 rfl ts23 ti39 rfl rfl rfl (zb5 (by omega)) rfl)) ?_ | refine zas rfl rfl (zaa rfl) (fun _ => (zav rfl ts23 ti39 rfl rfl rfl (by omega))) ?_)
    all_goals (first | refine zas rfl rfl (zaa rfl) (fun _ => (zal rfl tf39_1 (by decide) rfl)) ?_ | refine zas rfl rfl (zaa rfl) (fun _ => (zaj rfl tf39_1 (by decide) rfl)) ?_)
    all_goals (first | refine zas rfl rfl (zaa rfl) (fun _ => (zao rfl ta3 rfl)) ?_ | refine zb4 rfl rfl (zaa rfl) (look_ptr rfl ta3 rfl rfl rfl rfl rfl) ?_)
    all_goals refine zas rfl rfl (zaa rfl) (fun _ => (za5 rfl rfl ((rOf_pf _)) (zat rfl zbl))) ?_
    all_goals (first | refine zas rfl rfl (zaa rfl) (fun _ => (lit1_sF rfl ts27 ti59 rfl rfl rfl rfl)) ?_ | refine zas rfl rfl (zaa rfl) (fun _ => (lit1_slF rfl ts27 ti59 rfl rfl rfl rfl (by repeat' (first | exact Lo.s _ | exact zah | refine zae ?_ ?_ | refine zai ?_ | refine Lo.cells ?_ | refine Lo.agg _ ?_ | refine Lo.ref _ ?_ | refine Lo.tup _ ?_ | refine Lo.fn _ _ ?_ | refine Lo.sl _ ?_ | intro _)))) ?_ | refine zas rfl rfl (zaa rfl) (fun _ => (does_litAF rfl ts27 ti59 rfl rfl (by decide) (by decide) rfl rfl rfl (by repeat' (first | exact Lo.s _ | exact zah | refine zae ?_ ?_ | refine zai ?_ | refine Lo.cells ?_ | refine Lo.agg _ ?_ | refine Lo.ref _ ?_ | refine Lo.tup _ ?_ | refine Lo.fn _ _ ?_ | refine Lo.sl _ ?_ | intro _)))) ?_)
    all_goals (first | refine ex_eff rfl rfl (zaa rfl) (does_append rfl ts27 ti59 rfl (by decide) rfl rfl (by first | rfl | (simp; done) | (simp; omega)) rfl (by first | exact .own _ _ _ rfl rfl _ (by first | rfl | simp) | exact .emp | exact .nil | exact .sl _ (by first | simp; done | intro e he; simp at he; obtain ⟨_, _, rfl⟩ := he; rfl)) (by first | omega | (simp; omega) | (unfold maxLen; simp; omega)) (by first | omega | (simp; omega) | (unfold maxLen; simp; omega))) (fun _ h => app2_other h) ?_ | refine ex_eff rfl rfl (zaa rfl) (zbn rfl ts27 ti59 rfl (by decide) rfl (.inl rfl) rfl (by first | exact .own _ _ _ rfl rfl _ (by first | rfl | simp) | exact .emp | exact .nil | exact .sl _ (by first | simp; done | intro e he; simp at he; obtain ⟨_, _, rfl⟩ := he; rfl)) (by first | omega | (simp; omega) | (unfold maxLen; simp; omega)) (by first | omega | (simp; omega) | (unfold maxLen; simp; omega))) (fun _ h => app_other h) ?_ | refine ex_eff rfl rfl (zaa rfl) (zbn rfl ts27 ti59 rfl (by decide) rfl (.inr rfl) rfl (by first | exact .own _ _ _ rfl rfl _ (by first | rfl | simp) | exact .emp | exact .nil | exact .sl _ (by first | simp; done | intro e he; simp at he; obtain ⟨_, _, rfl⟩ := he; rfl)) (by first | omega | (simp; omega) | (unfold maxLen; simp; omega)) (by first | omega | (simp; omega) | (unfold maxLen; simp; omega))) (fun _ h => app_other h) ?_)
    all_goals (first | refine zas rfl rfl (zaa rfl) (fun _ => (zal rfl tf49_0 (by decide) rfl)) ?_ | refine zas rfl rfl (zaa rfl) (fun _ => (zaj rfl tf49_0 (by decide) rfl)) ?_)
    all_goals refine ex_eff0 rfl (zaa rfl) (zbe rfl ti27 rfl rfl rfl rfl rfl rfl (by decide) (by decide)) (fun _ h => set_other h) ?_
    all_goals refine ex_nil (by kernel_rfl) ?_
    all_goals (repeat (first | refine zag ?_ | refine zap ?_ | refine zad ?_ | refine zaq ?_ | refine zac ?_))
    refine zaf ?_
    refine zab rfl rfl (zaa rfl) (mv_s (.inl rfl) rfl) ?_
    refine zab rfl rfl (zaa rfl) (zbw rfl rfl rfl (IntWalk.i64_in _ (by omega))) ?_
    refine zab rfl rfl (zaa rfl) (mv_s (.inr rfl) rfl) ?_
    refine zan ?_
    repeat (first | refine zag ?_ | refine zap ?_ | refine zad ?_ | refine zaq ?_ | refine zac ?_)
    exact ⟨k + 1, by omega, by omega, wk_st [0, 1, 6, 3, 4, 5] (by decide) ⟨⟨_, rfl, .rowE zP_lo rfl⟩, ⟨_, rfl, obRn_agg (.cons (.own _ _ _ _ _ rfl hrl.symm) (.cons (.own _ _ _ _ _ rfl rfl) (.cons (.own _ _ _ _ _ rfl rfl) (.cons (.own _ _ _ _ _ rfl rfl) .nil))))⟩, ⟨_, rfl, .rowE (by repeat' (first | exact Lo.s _ | exact zah | exact zba | refine zae ?_ ?_ | refine zaz ?_ ?_ | refine zai ?_ | refine zbb ?_ | refine Lo.cells ?_ | refine Lo.agg _ ?_ | refine Lo.sl _ ?_ | intro _)) (Eq.trans (b := ((costL l).take k).map eF ++ [eF (Fr.of (gti l k).cost)]) rfl hrow.symm)⟩, ⟨_, rfl, .rowE (by repeat' (first | exact Lo.s _ | exact zah | exact zba | refine zae ?_ ?_ | refine zaz ?_ ?_ | refine zai ?_ | refine zbb ?_ | refine Lo.cells ?_ | refine Lo.agg _ ?_ | refine Lo.sl _ ?_ | intro _)) rfl⟩, ⟨_, rfl, .rowE (by repeat' (first | exact Lo.s _ | exact zah | exact zba | refine zae ?_ ?_ | refine zaz ?_ ?_ | refine zai ?_ | refine zbb ?_ | refine Lo.cells ?_ | refine Lo.agg _ ?_ | refine Lo.sl _ ?_ | intro _)) rfl⟩, ⟨_, rfl, .rowE (by repeat' (first | exact Lo.s _ | exact zah | exact zba | refine zae ?_ ?_ | refine zaz ?_ ?_ | refine zai ?_ | refine zbb ?_ | refine Lo.cells ?_ | refine Lo.agg _ ?_ | refine Lo.sl _ ?_ | intro _)) rfl⟩, trivial⟩ ⟨.lo _ (by repeat' (first | exact Lo.s _ | exact zah | refine zae ?_ ?_ | refine zai ?_ | refine Lo.cells ?_ | refine Lo.agg _ ?_ | refine Lo.ref _ ?_ | refine Lo.tup _ ?_ | refine Lo.fn _ _ ?_ | refine Lo.sl _ ?_ | intro _)), .lo _ (by repeat' (first | exact Lo.s _ | exact zah | refine zae ?_ ?_ | refine zai ?_ | refine Lo.cells ?_ | refine Lo.agg _ ?_ | refine Lo.ref _ ?_ | refine Lo.tup _ ?_ | refine Lo.fn _ _ ?_ | refine Lo.sl _ ?_ | intro _)), .ptr 0 0 4 0 0 rfl, .ptr 1 1 4 0 0 rfl, .lo _ (by repeat' (first | exact Lo.s _ | exact zah | refine zae ?_ ?_ | refine zai ?_ | refine Lo.cells ?_ | refine Lo.agg _ ?_ | refine Lo.ref _ ?_ | refine Lo.tup _ ?_ | refine Lo.fn _ _ ?_ | refine Lo.sl _ ?_ | intro _)), trivial⟩⟩
  (refine aw_exit ?_; repeat (first | refine ath_x ?_ | refine abl_hit ?_ | refine abl_miss rfl ?_ | refine zaq ?_ | refine zap ?_ | refine zag ?_ | refine zad ?_ | refine zac ?_))
  have e : (costL l).take k = costL l := List.take_of_length_le (by omega)
  rw [e]
  refine zaf ?_
  refine zab rfl rfl (zaa rfl) (mv_s (.inr rfl) rfl) ?_
  refine zan ?_
  repeat (first | refine zag ?_ | refine zap ?_ | refine zad ?_ | refine zaq ?_ | refine zac ?_)
  refine aw_loops (S := Nat) (fun n => [(0, eL eI d), (1, eL eSh l), (4, .ptr 0 4 0 0), (6, .ptr 1 4 0 0), (8, eI n)]) (fun n => stR (costL l) (t1 d l n)) (fun n => n ≤ d.length) (fun n => d.length - n) 0
    (wk_st [0, 1, 2, 3, 4, 5] (by decide) ⟨⟨_, rfl, .rowE zP_lo rfl⟩, ⟨_, rfl, obRn_agg (.cons (.own _ _ _ _ _ rfl rfl) (.cons (.own _ _ _ _ _ rfl rfl) (.cons (.own _ _ _ _ _ rfl rfl) (.cons (.own _ _ _ _ _ rfl rfl) .nil))))⟩, ⟨_, rfl, .rowE (by repeat' (first | exact Lo.s _ | exact zah | exact zba | refine zae ?_ ?_ | refine zaz ?_ ?_ | refine zai ?_ | refine zbb ?_ | refine Lo.cells ?_ | refine Lo.agg _ ?_ | refine Lo.sl _ ?_ | intro _)) rfl⟩, ⟨_, rfl, .rowE (by repeat' (first | exact Lo.s _ | exact zah | exact zba | refine zae ?_ ?_ | refine zaz ?_ ?_ | refine zai ?_ | refine zbb ?_ | refine Lo.cells ?_ | refine Lo.agg _ ?_ | refine Lo.sl _ ?_ | intro _)) rfl⟩, ⟨_, rfl, .rowE (by repeat' (first | exact Lo.s _ | exact zah | exact zba | refine zae ?_ ?_ | refine zaz ?_ ?_ | refine zai ?_ | refine zbb ?_ | refine Lo.cells ?_ | refine Lo.agg _ ?_ | refine Lo.sl _ ?_ | intro _)) rfl⟩, ⟨_, rfl, .rowE (by repeat' (first | exact Lo.s _ | exact zah | exact zba | refine zae ?_ ?_ | refine zaz ?_ ?_ | refine zai ?_ | refine zbb ?_ | refine Lo.cells ?_ | refine Lo.agg _ ?_ | refine Lo.sl _ ?_ | intro _)) rfl⟩, trivial⟩ ⟨.lo _ (by repeat' (first | exact Lo.s _ | exact zah | refine zae ?_ ?_ | refine zai ?_ | refine Lo.cells ?_ | refine Lo.agg _ ?_ | refine Lo.ref _ ?_ | refine Lo.tup _ ?_ | refine Lo.fn _ _ ?_ | refine Lo.sl _ ?_ | intro _)), .lo _ (by repeat' (first | exact Lo.s _ | exact zah | refine zae ?_ ?_ | refine zai ?_ | refine Lo.cells ?_ | refine Lo.agg _ ?_ | refine Lo.ref _ ?_ | refine Lo.tup _ ?_ | refine Lo.fn _ _ ?_ | refine Lo.sl _ ?_ | intro _)), .ptr 0 0 4 0 0 rfl, .ptr 1 1 4 0 0 rfl, .lo _ (by repeat' (first | exact Lo.s _ | exact zah | refine zae ?_ ?_ | refine zai ?_ | refine Lo.cells ?_ | refine Lo.agg _ ?_ | refine Lo.ref _ ?_ | refine Lo.tup _ ?_ | refine Lo.fn _ _ ?_ | refine Lo.sl _ ?_ | intro _)), trivial⟩) (Nat.zero_le _) (fun n hn => ?_)
  have htl := t1_len d l n
  repeat (first | refine zag ?_ | refine zap ?_ | refine zad ?_ | refine zaq ?_ | refine zac ?_)
  all_goals refine zaf ?_
  all_goals refine zab rfl rfl (zaa rfl) (mv_s (.inl rfl) rfl) ?_
  all_goals (first | refine zab rfl rfl (zaa rfl) (za3 (.inl rfl) rfl) ?_ | refine zab rfl rfl (zaa rfl) (zbi (.inl rfl) rfl) ?_ | refine zab rfl rfl (zaa rfl) (mv_s (.inl rfl) rfl) ?_ | refine zab rfl rfl (zaa rfl) (za4 (.inl rfl) rfl) ?_)
  all_goals (first | refine zab rfl rfl (zaa rfl) (za0 rfl ts22 rfl) ?_ | refine zab rfl rfl (zaa rfl) (za7 rfl ts22 rfl) ?_ | refine zab rfl rfl (zaa rfl) (zaw rfl ts22 rfl) ?_ | refine zab rfl rfl (zaa rfl) (zbc rfl ts22 rfl) ?_ | refine zab rfl rfl (zaa rfl) (zax rfl ts22 rfl) ?_)
  all_goals (first | refine zbj rfl rfl (zaa rfl) (zbd rfl rfl rfl) (fun h45 => ?_) (fun h45 => ?_) | refine zbk rfl rfl (zaa rfl) (zbd rfl rfl rfl) (fun h45 => ?_) (fun h45 => ?_))
  all_goals refine zan ?_
  all_goals (repeat (first | refine zag ?_ | refine zap ?_ | refine zad ?_ | refine zaq ?_ | refine zac ?_))
  all_goals (first | refine zbq rfl ?_ | refine zbm rfl ?_)
  all_goals (repeat (first | refine zag ?_ | refine zap ?_ | refine zad ?_ | refine zaq ?_ | refine zac ?_))
  · have hlt : n < d.length := by omega
    have hdn := qd n hlt
    have hT : t1 d l (n + 1) = t1 d l n ++ if 0 < gti d n then [(uD l n, 2, gti d n)] else [] := rfl
    all_goals refine zaf ?_
    all_goals (first | refine zab rfl rfl (zaa rfl) (za3 (.inl rfl) rfl) ?_ | refine zab rfl rfl (zaa rfl) (zbi (.inl rfl) rfl) ?_ | refine zab rfl rfl (zaa rfl) (mv_s (.inl rfl) rfl) ?_ | refine zab rfl rfl (zaa rfl) (za4 (.inl rfl) rfl) ?_)
    all_goals refine zab rfl rfl (zaa rfl) (mv_s (.inl rfl) rfl) ?_
    all_goals (first | refine zab rfl rfl (zaa rfl) (za1 rfl ts22 ti3 rfl rfl rfl (zb5 (by omega)) rfl) ?_ | refine zab rfl rfl (zaa rfl) (zav rfl ts22 ti3 rfl rfl rfl (by omega)) ?_)
    all_goals (first | refine zab rfl rfl (zaa rfl) (zao rfl ta3 rfl) ?_ | refine zab rfl rfl (zaa rfl) (zar rfl ta3 rfl rfl rfl rfl rfl) ?_)
    all_goals (first | refine zbj rfl rfl (zaa rfl) (does_eql rfl rfl rfl) (fun h52 => ?_) (fun h52 => ?_) | refine zbk rfl rfl (zaa rfl) (does_eql rfl rfl rfl) (fun h52 => ?_) (fun h52 => ?_))
    all_goals refine zan ?_
    all_goals (repeat (first | refine zag ?_ | refine zap ?_ | refine zad ?_ | refine zaq ?_ | refine zac ?_))
    all_goals (first | refine zbq rfl ?_ | refine zbm rfl ?_)
    all_goals (repeat (first | refine zag ?_ | refine zap ?_ | refine zad ?_ | refine zaq ?_ | refine zac ?_))
    · rw [if_neg (by omega), List.append_nil] at hT
      (refine aw_exit ?_; repeat (first | refine ath_x ?_ | refine abl_hit ?_ | refine abl_miss rfl ?_ | refine zaq ?_ | refine zap ?_ | refine zag ?_ | refine zad ?_ | refine zac ?_))
      refine zaf ?_
      refine zab rfl rfl (zaa rfl) (mv_s (.inl rfl) rfl) ?_
      refine zab rfl rfl (zaa rfl) (zbw rfl rfl rfl (IntWalk.i64_in _ (by omega))) ?_
      refine zab rfl rfl (zaa rfl) (mv_s (.inr rfl) rfl) ?_
      refine zan ?_
      repeat (first | refine zag ?_ | refine zap ?_ | refine zad ?_ | refine zaq ?_ | refine zac ?_)
      rw [← hT]
      exact ⟨n + 1, by omega, by omega, wk_st [0, 1, 2, 3, 4, 5] (by decide) ⟨⟨_, rfl, .rowE zP_lo rfl⟩, ⟨_, rfl, obRn_agg (.cons (.own _ _ _ _ _ rfl rfl) (.cons (.own _ _ _ _ _ rfl rfl) (.cons (.own _ _ _ _ _ rfl rfl) (.cons (.own _ _ _ _ _ rfl rfl) .nil))))⟩, ⟨_, rfl, .rowE (by repeat' (first | exact Lo.s _ | exact zah | exact zba | refine zae ?_ ?_ | refine zaz ?_ ?_ | refine zai ?_ | refine zbb ?_ | refine Lo.cells ?_ | refine Lo.agg _ ?_ | refine Lo.sl _ ?_ | intro _)) rfl⟩, ⟨_, rfl, .rowE (by repeat' (first | exact Lo.s _ | exact zah | exact zba | refine zae ?_ ?_ | refine zaz ?_ ?_ | refine zai ?_ | refine zbb ?_ | refine Lo.cells ?_ | refine Lo.agg _ ?_ | refine Lo.sl _ ?_ | intro _)) rfl⟩, ⟨_, rfl, .rowE (by repeat' (first | exact Lo.s _ | exact zah | exact zba | refine zae ?_ ?_ | refine zaz ?_ ?_ | refine zai ?_ | refine zbb ?_ | refine Lo.cells ?_ | refine Lo.agg _ ?_ | refine Lo.sl _ ?_ | intro _)) rfl⟩, ⟨_, rfl, .rowE (by repeat' (first | exact Lo.s _ | exact zah | exact zba | refine zae ?_ ?_ | refine zaz ?_ ?_ | refine zai ?_ | refine zbb ?_ | refine Lo.cells ?_ | refine Lo.agg _ ?_ | refine Lo.sl _ ?_ | intro _)) rfl⟩, trivial⟩ ⟨.lo _ (by repeat' (first | exact Lo.s _ | exact zah | refine zae ?_ ?_ | refine zai ?_ | refine Lo.cells ?_ | refine Lo.agg _ ?_ | refine Lo.ref _ ?_ | refine Lo.tup _ ?_ | refine Lo.fn _ _ ?_ | refine Lo.sl _ ?_ | intro _)), .lo _ (by repeat' (first | exact Lo.s _ | exact zah | refine zae ?_ ?_ | refine zai ?_ | refine Lo.cells ?_ | refine Lo.agg _ ?_ | refine Lo.ref _ ?_ | refine Lo.tup _ ?_ | refine Lo.fn _ _ ?_ | refine Lo.sl _ ?_ | intro _)), .ptr 0 0 4 0 0 rfl, .ptr 1 1 4 0 0 rfl, .lo _ (by repeat' (first | exact Lo.s _ | exact zah | refine zae ?_ ?_ | refine zai ?_ | refine Lo.cells ?_ | refine Lo.agg _ ?_ | refine Lo.ref _ ?_ | refine Lo.tup _ ?_ | refine Lo.fn _ _ ?_ | refine Lo.sl _ ?_ | intro _)), trivial⟩⟩
    · rw [if_pos (by omega)] at hT
      refine zaf ?_
      first | refine zab rfl rfl (zaa rfl) (za3 (.inr rfl) rfl) ?_ | refine zab rfl rfl (zaa rfl) (zbi (.inr rfl) rfl) ?_ | refine zab rfl rfl (zaa rfl) (mv_s (.inr rfl) rfl) ?_ | refine zab rfl rfl (zaa rfl) (za4 (.inr rfl) rfl) ?_
      refine zan ?_
      repeat (first | refine zag ?_ | refine zap ?_ | refine zad ?_ | refine zaq ?_ | refine zac ?_)
      refine zaf ?_
      refine zab rfl rfl (zaa rfl) (mv_s (.inr rfl) rfl) ?_
      refine zan ?_
      repeat (first | refine zag ?_ | refine zap ?_ | refine zad ?_ | refine zaq ?_ | refine zac ?_)
      refine zb3 (wk_own (d := 9) 2 rfl (.inr rfl)) ?_
      refine aw_loops (S := Nat) (fun i => [(0, eL eI d), (1, eL eSh l), (4, .ptr 0 4 0 0), (6, .ptr 1 4 0 0), (8, eI n), (10, eI i), (9, .own 6 2 i)]) (fun i => stR1 (costL l) (t1 d l n) (((uD l n).take i).map eF)) (fun i => i ≤ l.length) (fun i => l.length - i) 0
        (wk_st [0, 1, 2, 3, 4, 5, 6] (by decide) ⟨⟨_, rfl, .rowE zP_lo rfl⟩, ⟨_, rfl, obRn_agg (.cons (.own _ _ _ _ _ rfl rfl) (.cons (.own _ _ _ _ _ rfl rfl) (.cons (.own _ _ _ _ _ rfl rfl) (.cons (.own _ _ _ _ _ rfl rfl) .nil))))⟩, ⟨_, rfl, .rowE (by repeat' (first | exact Lo.s _ | exact zah | exact zba | refine zae ?_ ?_ | refine zaz ?_ ?_ | refine zai ?_ | refine zbb ?_ | refine Lo.cells ?_ | refine Lo.agg _ ?_ | refine Lo.sl _ ?_ | intro _)) rfl⟩, ⟨_, rfl, .rowE (by repeat' (first | exact Lo.s _ | exact zah | exact zba | refine zae ?_ ?_ | refine zaz ?_ ?_ | refine zai ?_ | refine zbb ?_ | refine Lo.cells ?_ | refine Lo.agg _ ?_ | refine Lo.sl _ ?_ | intro _)) rfl⟩, ⟨_, rfl, .rowE (by repeat' (first | exact Lo.s _ | exact zah | exact zba | refine zae ?_ ?_ | refine zaz ?_ ?_ | refine zai ?_ | refine zbb ?_ | refine Lo.cells ?_ | refine Lo.agg _ ?_ | refine Lo.sl _ ?_ | intro _)) rfl⟩, ⟨_, rfl, .rowE (by repeat' (first | exact Lo.s _ | exact zah | exact zba | refine zae ?_ ?_ | refine zaz ?_ ?_ | refine zai ?_ | refine zbb ?_ | refine Lo.cells ?_ | refine Lo.agg _ ?_ | refine Lo.sl _ ?_ | intro _)) rfl⟩, ⟨_, rfl, .rowE (by repeat' (first | exact Lo.s _ | exact zah | exact zba | refine zae ?_ ?_ | refine zaz ?_ ?_ | refine zai ?_ | refine zbb ?_ | refine Lo.cells ?_ | refine Lo.agg _ ?_ | refine Lo.sl _ ?_ | intro _)) rfl⟩, trivial⟩ ⟨.lo _ (by repeat' (first | exact Lo.s _ | exact zah | refine zae ?_ ?_ | refine zai ?_ | refine Lo.cells ?_ | refine Lo.agg _ ?_ | refine Lo.ref _ ?_ | refine Lo.tup _ ?_ | refine Lo.fn _ _ ?_ | refine Lo.sl _ ?_ | intro _)), .lo _ (by repeat' (first | exact Lo.s _ | exact zah | refine zae ?_ ?_ | refine zai ?_ | refine Lo.cells ?_ | refine Lo.agg _ ?_ | refine Lo.ref _ ?_ | refine Lo.tup _ ?_ | refine Lo.fn _ _ ?_ | refine Lo.sl _ ?_ | intro _)), .ptr 0 0 4 0 0 rfl, .ptr 1 1 4 0 0 rfl, .lo _ (by repeat' (first | exact Lo.s _ | exact zah | refine zae ?_ ?_ | refine zai ?_ | refine Lo.cells ?_ | refine Lo.agg _ ?_ | refine Lo.ref _ ?_ | refine Lo.tup _ ?_ | refine Lo.fn _ _ ?_ | refine Lo.sl _ ?_ | intro _)), .lo _ (by repeat' (first | exact Lo.s _ | exact zah | refine zae ?_ ?_ | refine zai ?_ | refine Lo.cells ?_ | refine Lo.agg _ ?_ | refine Lo.ref _ ?_ | refine Lo.tup _ ?_ | refine Lo.fn _ _ ?_ | refine Lo.sl _ ?_ | intro _)), .own 6 6 2 _ _ rfl rfl, trivial⟩) (Nat.zero_le _) (fun i hi => ?_)
      have hul : (uD l n).length = l.length := unitL_len _ _
      repeat (first | refine zag ?_ | refine zap ?_ | refine zad ?_ | refine zaq ?_ | refine zac ?_)
      all_goals refine zaf ?_
      all_goals refine zab rfl rfl (zaa rfl) (mv_s (.inl rfl) rfl) ?_
      all_goals (first | refine zab rfl rfl (zaa rfl) (za3 (.inl rfl) rfl) ?_ | refine zab rfl rfl (zaa rfl) (zbi (.inl rfl) rfl) ?_ | refine zab rfl rfl (zaa rfl) (mv_s (.inl rfl) rfl) ?_ | refine zab rfl rfl (zaa rfl) (za4 (.inl rfl) rfl) ?_)
      all_goals (first | refine zab rfl rfl (zaa rfl) (za0 rfl ts23 rfl) ?_ | refine zab rfl rfl (zaa rfl) (za7 rfl ts23 rfl) ?_ | refine zab rfl rfl (zaa rfl) (zaw rfl ts23 rfl) ?_ | refine zab rfl rfl (zaa rfl) (zbc rfl ts23 rfl) ?_ | refine zab rfl rfl (zaa rfl) (zax rfl ts23 rfl) ?_)
      all_goals (first | refine zbj rfl rfl (zaa rfl) (zbd rfl rfl rfl) (fun h56 => ?_) (fun h56 => ?_) | refine zbk rfl rfl (zaa rfl) (zbd rfl rfl rfl) (fun h56 => ?_) (fun h56 => ?_))
      all_goals refine zan ?_
      all_goals (repeat (first | refine zag ?_ | refine zap ?_ | refine zad ?_ | refine zaq ?_ | refine zac ?_))
      all_goals (first | refine zbq rfl ?_ | refine zbm rfl ?_)
      all_goals (repeat (first | refine zag ?_ | refine zap ?_ | refine zad ?_ | refine zaq ?_ | refine zac ?_))
      · have hlt2 : i < l.length := by omega
        have htk : (((uD l n).take i).map eF).length = i := by simp; omega
        have hin := in_pf (P := P) (gti l i) n
        have hrow : ((uD l n).take (i + 1)).map eF = ((uD l n).take i).map eF ++ [eF (Fr.of (if inB (gti l i).pd n = true then 1 else 0))] := by
          rw [take_snoc (by omega), List.map_append, show gti (uD l n) i = _ from unitL_gti hlt2]; rfl
        generalize inB (gti l i).pd n = z at hin hrow
        refine zaf ?_
        refine zab rfl rfl (zaa rfl) (mv_s (.inr rfl) rfl) ?_
        refine zan ?_
        repeat (first | refine zag ?_ | refine zap ?_ | refine zad ?_ | refine zaq ?_ | refine zac ?_)
        cases z with
        | true =>
          rw [if_pos rfl] at hrow
          refine zaf ?_
          first | refine zab rfl rfl (zaa rfl) (za3 (.inl rfl) rfl) ?_ | refine zab rfl rfl (zaa rfl) (zbi (.inl rfl) rfl) ?_ | refine zab rfl rfl (zaa rfl) (mv_s (.inl rfl) rfl) ?_ | refine zab rfl rfl (zaa rfl) (za4 (.inl rfl) rfl) ?_
          refine zab rfl rfl (zaa rfl) (mv_s (.inl rfl) rfl) ?_
          first | refine zab rfl rfl (zaa rfl) (za1 rfl ts23 ti39 rfl rfl rfl (zb5 (by omega)) rfl) ?_ | refine zab rfl rfl (zaa rfl) (zav rfl ts23 ti39 rfl rfl rfl (by omega)) ?_
          first | refine zab rfl rfl (zaa rfl) (za9 rfl ta39 ti39 rfl rfl) ?_ | refine zab rfl rfl (zaa rfl) (zbf rfl ta39 ti39 rfl rfl rfl rfl rfl) ?_ | refine zab rfl rfl (zaa rfl) (za8 rfl ta39 ti39 rfl (Nat.le_of_ble_eq_true rfl)) ?_ | refine zab rfl rfl (zaa rfl) (zbg rfl ta39 ti39 rfl rfl rfl rfl (Nat.le_of_ble_eq_true rfl)) ?_
          refine zab rfl rfl (zaa rfl) (mv_s (.inl rfl) rfl) ?_
          refine zab rfl rfl (zaa rfl) (za5 rfl rfl (hin) (zat rfl (zat rfl zbl))) ?_
          refine zan ?_
          repeat (first | refine zag ?_ | refine zap ?_ | refine zad ?_ | refine zaq ?_ | refine zac ?_)
          refine zbq rfl ?_
          repeat (first | refine zag ?_ | refine zap ?_ | refine zad ?_ | refine zaq ?_ | refine zac ?_)
          refine zaf ?_
          refine zab rfl rfl (zaa rfl) (mv_s (.inr rfl) rfl) ?_
          refine zan ?_
          repeat (first | refine zag ?_ | refine zap ?_ | refine zad ?_ | refine zaq ?_ | refine zac ?_)
          refine zaf ?_
          first | refine zab rfl rfl (zaa rfl) (za3 (.inl rfl) rfl) ?_ | refine zab rfl rfl (zaa rfl) (zbi (.inl rfl) rfl) ?_ | refine zab rfl rfl (zaa rfl) (mv_s (.inl rfl) rfl) ?_ | refine zab rfl rfl (zaa rfl) (za4 (.inl rfl) rfl) ?_
          refine zab rfl rfl (zaa rfl) (mv_s (.inl rfl) rfl) ?_
          refine zab rfl rfl (zaa rfl) (za5 rfl rfl ((rOf_pf _)) (zat rfl zbl)) ?_
          first | refine zab rfl rfl (zaa rfl) (lit1_sF rfl ts27 ti59 rfl rfl rfl rfl) ?_ | refine zab rfl rfl (zaa rfl) (lit1_slF rfl ts27 ti59 rfl rfl rfl rfl (by repeat' (first | exact Lo.s _ | exact zah | refine zae ?_ ?_ | refine zai ?_ | refine Lo.cells ?_ | refine Lo.agg _ ?_ | refine Lo.ref _ ?_ | refine Lo.tup _ ?_ | refine Lo.fn _ _ ?_ | refine Lo.sl _ ?_ | intro _))) ?_ | refine zab rfl rfl (zaa rfl) (does_litAF rfl ts27 ti59 rfl rfl (by decide) (by decide) rfl rfl rfl (by repeat' (first | exact Lo.s _ | exact zah | refine zae ?_ ?_ | refine zai ?_ | refine Lo.cells ?_ | refine Lo.agg _ ?_ | refine Lo.ref _ ?_ | refine Lo.tup _ ?_ | refine Lo.fn _ _ ?_ | refine Lo.sl _ ?_ | intro _))) ?_
          first | refine zab rfl rfl (zaa rfl) (does_append rfl ts27 ti59 rfl (by decide) rfl rfl (by first | rfl | (simp; done) | (simp; omega)) rfl (by first | exact .own _ _ _ rfl rfl _ (by first | rfl | simp) | exact .emp | exact .nil | exact .sl _ (by first | simp; done | intro e he; simp at he; obtain ⟨_, _, rfl⟩ := he; rfl)) (by first | omega | (simp; omega) | (unfold maxLen; simp; omega)) (by first | omega | (simp; omega) | (unfold maxLen; simp; omega))) ?_ | refine zab rfl rfl (zaa rfl) (zbn rfl ts27 ti59 rfl (by decide) rfl (.inl rfl) rfl (by first | exact .own _ _ _ rfl rfl _ (by first | rfl | simp) | exact .emp | exact .nil | exact .sl _ (by first | simp; done | intro e he; simp at he; obtain ⟨_, _, rfl⟩ := he; rfl)) (by first | omega | (simp; omega) | (unfold maxLen; simp; omega)) (by first | omega | (simp; omega) | (unfold maxLen; simp; omega))) ?_ | refine zab rfl rfl (zaa rfl) (zbn rfl ts27 ti59 rfl (by decide) rfl (.inr rfl) rfl (by first | exact .own _ _ _ rfl rfl _ (by first | rfl | simp) | exact .emp | exact .nil | exact .sl _ (by first | simp; done | intro e he; simp at he; obtain ⟨_, _, rfl⟩ := he; rfl)) (by first | omega | (simp; omega) | (unfold maxLen; simp; omega)) (by first | omega | (simp; omega) | (unfold maxLen; simp; omega))) ?_
          first | refine zab rfl rfl (zaa rfl) (za3 (.inr rfl) rfl) ?_ | refine zab rfl rfl (zaa rfl) (zbi (.inr rfl) rfl) ?_ | refine zab rfl rfl (zaa rfl) (mv_s (.inr rfl) rfl) ?_ | refine zab rfl rfl (zaa rfl) (za4 (.inr rfl) rfl) ?_
          refine zan ?_
          repeat (first | refine zag ?_ | refine zap ?_ | refine zad ?_ | refine zaq ?_ | refine zac ?_)
          refine zaf ?_
          refine zab rfl rfl (zaa rfl) (mv_s (.inl rfl) rfl) ?_
          refine zab rfl rfl (zaa rfl) (zbw rfl rfl rfl (IntWalk.i64_in _ (by omega))) ?_
          refine zab rfl rfl (zaa rfl) (mv_s (.inr rfl) rfl) ?_
          refine zan ?_
          repeat (first | refine zag ?_ | refine zap ?_ | refine zad ?_ | refine zaq ?_ | refine zac ?_)
          exact ⟨i + 1, by omega, by omega, wk_st [0, 1, 2, 3, 4, 5, 7] (by decide) ⟨⟨_, rfl, .rowE zP_lo rfl⟩, ⟨_, rfl, obRn_agg (.cons (.own _ _ _ _ _ rfl rfl) (.cons (.own _ _ _ _ _ rfl rfl) (.cons (.own _ _ _ _ _ rfl rfl) (.cons (.own _ _ _ _ _ rfl rfl) .nil))))⟩, ⟨_, rfl, .rowE (by repeat' (first | exact Lo.s _ | exact zah | exact zba | refine zae ?_ ?_ | refine zaz ?_ ?_ | refine zai ?_ | refine zbb ?_ | refine Lo.cells ?_ | refine Lo.agg _ ?_ | refine Lo.sl _ ?_ | intro _)) rfl⟩, ⟨_, rfl, .rowE (by repeat' (first | exact Lo.s _ | exact zah | exact zba | refine zae ?_ ?_ | refine zaz ?_ ?_ | refine zai ?_ | refine zbb ?_ | refine Lo.cells ?_ | refine Lo.agg _ ?_ | refine Lo.sl _ ?_ | intro _)) rfl⟩, ⟨_, rfl, .rowE (by repeat' (first | exact Lo.s _ | exact zah | exact zba | refine zae ?_ ?_ | refine zaz ?_ ?_ | refine zai ?_ | refine zbb ?_ | refine Lo.cells ?_ | refine Lo.agg _ ?_ | refine Lo.sl _ ?_ | intro _)) rfl⟩, ⟨_, rfl, .rowE (by repeat' (first | exact Lo.s _ | exact zah | exact zba | refine zae ?_ ?_ | refine zaz ?_ ?_ | refine zai ?_ | refine zbb ?_ | refine Lo.cells ?_ | refine Lo.agg _ ?_ | refine Lo.sl _ ?_ | intro _)) rfl⟩, ⟨_, rfl, .rowE (by repeat' (first | exact Lo.s _ | exact zah | exact zba | refine zae ?_ ?_ | refine zaz ?_ ?_ | refine zai ?_ | refine zbb ?_ | refine Lo.cells ?_ | refine Lo.agg _ ?_ | refine Lo.sl _ ?_ | intro _)) (Eq.trans (b := ((uD l n).take i).map eF ++ [eF (Fr.of 1)]) rfl hrow.symm)⟩, trivial⟩ ⟨.lo _ (by repeat' (first | exact Lo.s _ | exact zah | refine zae ?_ ?_ | refine zai ?_ | refine Lo.cells ?_ | refine Lo.agg _ ?_ | refine Lo.ref _ ?_ | refine Lo.tup _ ?_ | refine Lo.fn _ _ ?_ | refine Lo.sl _ ?_ | intro _)), .lo _ (by repeat' (first | exact Lo.s _ | exact zah | refine zae ?_ ?_ | refine zai ?_ | refine Lo.cells ?_ | refine Lo.agg _ ?_ | refine Lo.ref _ ?_ | refine Lo.tup _ ?_ | refine Lo.fn _ _ ?_ | refine Lo.sl _ ?_ | intro _)), .ptr 0 0 4 0 0 rfl, .ptr 1 1 4 0 0 rfl, .lo _ (by repeat' (first | exact Lo.s _ | exact zah | refine zae ?_ ?_ | refine zai ?_ | refine Lo.cells ?_ | refine Lo.agg _ ?_ | refine Lo.ref _ ?_ | refine Lo.tup _ ?_ | refine Lo.fn _ _ ?_ | refine Lo.sl _ ?_ | intro _)), .lo _ (by repeat' (first | exact Lo.s _ | exact zah | refine zae ?_ ?_ | refine zai ?_ | refine Lo.cells ?_ | refine Lo.agg _ ?_ | refine Lo.ref _ ?_ | refine Lo.tup _ ?_ | refine Lo.fn _ _ ?_ | refine Lo.sl _ ?_ | intro _)), .own 7 6 2 _ _ rfl (by simp; omega), trivial⟩⟩
        | false =>
          rw [if_neg (by simp)] at hrow
          refine zaf ?_
          first | refine zab rfl rfl (zaa rfl) (za3 (.inl rfl) rfl) ?_ | refine zab rfl rfl (zaa rfl) (zbi (.inl rfl) rfl) ?_ | refine zab rfl rfl (zaa rfl) (mv_s (.inl rfl) rfl) ?_ | refine zab rfl rfl (zaa rfl) (za4 (.inl rfl) rfl) ?_
          refine zab rfl rfl (zaa rfl) (mv_s (.inl rfl) rfl) ?_
          first | refine zab rfl rfl (zaa rfl) (za1 rfl ts23 ti39 rfl rfl rfl (zb5 (by omega)) rfl) ?_ | refine zab rfl rfl (zaa rfl) (zav rfl ts23 ti39 rfl rfl rfl (by omega)) ?_
          first | refine zab rfl rfl (zaa rfl) (za9 rfl ta39 ti39 rfl rfl) ?_ | refine zab rfl rfl (zaa rfl) (zbf rfl ta39 ti39 rfl rfl rfl rfl rfl) ?_ | refine zab rfl rfl (zaa rfl) (za8 rfl ta39 ti39 rfl (Nat.le_of_ble_eq_true rfl)) ?_ | refine zab rfl rfl (zaa rfl) (zbg rfl ta39 ti39 rfl rfl rfl rfl (Nat.le_of_ble_eq_true rfl)) ?_
          refine zab rfl rfl (zaa rfl) (mv_s (.inl rfl) rfl) ?_
          refine zab rfl rfl (zaa rfl) (za5 rfl rfl (hin) (zat rfl (zat rfl zbl))) ?_
          refine zan ?_
          repeat (first | refine zag ?_ | refine zap ?_ | refine zad ?_ | refine zaq ?_ | refine zac ?_)
          refine zbm rfl ?_
          repeat (first | refine zag ?_ | refine zap ?_ | refine zad ?_ | refine zaq ?_ | refine zac ?_)
          refine zaf ?_
          first | refine zab rfl rfl (zaa rfl) (za3 (.inl rfl) rfl) ?_ | refine zab rfl rfl (zaa rfl) (zbi (.inl rfl) rfl) ?_ | refine zab rfl rfl (zaa rfl) (mv_s (.inl rfl) rfl) ?_ | refine zab rfl rfl (zaa rfl) (za4 (.inl rfl) rfl) ?_
          refine zab rfl rfl (zaa rfl) (mv_s (.inl rfl) rfl) ?_
          refine zab rfl rfl (zaa rfl) (za5 rfl rfl ((rOf_pf _)) (zat rfl zbl)) ?_
          first | refine zab rfl rfl (zaa rfl) (lit1_sF rfl ts27 ti59 rfl rfl rfl rfl) ?_ | refine zab rfl rfl (zaa rfl) (lit1_slF rfl ts27 ti59 rfl rfl rfl rfl (by repeat' (first | exact Lo.s _ | exact zah | refine zae ?_ ?_ | refine zai ?_ | refine Lo.cells ?_ | refine Lo.agg _ ?_ | refine Lo.ref _ ?_ | refine Lo.tup _ ?_ | refine Lo.fn _ _ ?_ | refine Lo.sl _ ?_ | intro _))) ?_ | refine zab rfl rfl (zaa rfl) (does_litAF rfl ts27 ti59 rfl rfl (by decide) (by decide) rfl rfl rfl (by repeat' (first | exact Lo.s _ | exact zah | refine zae ?_ ?_ | refine zai ?_ | refine Lo.cells ?_ | refine Lo.agg _ ?_ | refine Lo.ref _ ?_ | refine Lo.tup _ ?_ | refine Lo.fn _ _ ?_ | refine Lo.sl _ ?_ | intro _))) ?_
          first | refine zab rfl rfl (zaa rfl) (does_append rfl ts27 ti59 rfl (by decide) rfl rfl (by first | rfl | (simp; done) | (simp; omega)) rfl (by first | exact .own _ _ _ rfl rfl _ (by first | rfl | simp) | exact .emp | exact .nil | exact .sl _ (by first | simp; done | intro e he; simp at he; obtain ⟨_, _, rfl⟩ := he; rfl)) (by first | omega | (simp; omega) | (unfold maxLen; simp; omega)) (by first | omega | (simp; omega) | (unfold maxLen; simp; omega))) ?_ | refine zab rfl rfl (zaa rfl) (zbn rfl ts27 ti59 rfl (by decide) rfl (.inl rfl) rfl (by first | exact .own _ _ _ rfl rfl _ (by first | rfl | simp) | exact .emp | exact .nil | exact .sl _ (by first | simp; done | intro e he; simp at he; obtain ⟨_, _, rfl⟩ := he; rfl)) (by first | omega | (simp; omega) | (unfold maxLen; simp; omega)) (by first | omega | (simp; omega) | (unfold maxLen; simp; omega))) ?_ | refine zab rfl rfl (zaa rfl) (zbn rfl ts27 ti59 rfl (by decide) rfl (.inr rfl) rfl (by first | exact .own _ _ _ rfl rfl _ (by first | rfl | simp) | exact .emp | exact .nil | exact .sl _ (by first | simp; done | intro e he; simp at he; obtain ⟨_, _, rfl⟩ := he; rfl)) (by first | omega | (simp; omega) | (unfold maxLen; simp; omega)) (by first | omega | (simp; omega) | (unfold maxLen; simp; omega))) ?_
          first | refine zab rfl rfl (zaa rfl) (za3 (.inr rfl) rfl) ?_ | refine zab rfl rfl (zaa rfl) (zbi (.inr rfl) rfl) ?_ | refine zab rfl rfl (zaa rfl) (mv_s (.inr rfl) rfl) ?_ | refine zab rfl rfl (zaa rfl) (za4 (.inr rfl) rfl) ?_
          refine zan ?_
          repeat (first | refine zag ?_ | refine zap ?_ | refine zad ?_ | refine zaq ?_ | refine zac ?_)
          refine zaf ?_
          refine zab rfl rfl (zaa rfl) (mv_s (.inl rfl) rfl) ?_
          refine zab rfl rfl (zaa rfl) (zbw rfl rfl rfl (IntWalk.i64_in _ (by omega))) ?_
          refine zab rfl rfl (zaa rfl) (mv_s (.inr rfl) rfl) ?_
          refine zan ?_
          repeat (first | refine zag ?_ | refine zap ?_ | refine zad ?_ | refine zaq ?_ | refine zac ?_)
          exact ⟨i + 1, by omega, by omega, wk_st [0, 1, 2, 3, 4, 5, 7] (by decide) ⟨⟨_, rfl, .rowE zP_lo rfl⟩, ⟨_, rfl, obRn_agg (.cons (.own _ _ _ _ _ rfl rfl) (.cons (.own _ _ _ _ _ rfl rfl) (.cons (.own _ _ _ _ _ rfl rfl) (.cons (.own _ _ _ _ _ rfl rfl) .nil))))⟩, ⟨_, rfl, .rowE (by repeat' (first | exact Lo.s _ | exact zah | exact zba | refine zae ?_ ?_ | refine zaz ?_ ?_ | refine zai ?_ | refine zbb ?_ | refine Lo.cells ?_ | refine Lo.agg _ ?_ | refine Lo.sl _ ?_ | intro _)) rfl⟩, ⟨_, rfl, .rowE (by repeat' (first | exact Lo.s _ | exact zah | exact zba | refine zae ?_ ?_ | refine zaz ?_ ?_ | refine zai ?_ | refine zbb ?_ | refine Lo.cells ?_ | refine Lo.agg _ ?_ | refine Lo.sl _ ?_ | intro _)) rfl⟩, ⟨_, rfl, .rowE (by repeat' (first | exact Lo.s _ | exact zah | exact zba | refine zae ?_ ?_ | refine zaz ?_ ?_ | refine zai ?_ | refine zbb ?_ | refine Lo.cells ?_ | refine Lo.agg _ ?_ | refine Lo.sl _ ?_ | intro _)) rfl⟩, ⟨_, rfl, .rowE (by repeat' (first | exact Lo.s _ | exact zah | exact zba | refine zae ?_ ?_ | refine zaz ?_ ?_ | refine zai ?_ | refine zbb ?_ | refine Lo.cells ?_ | refine Lo.agg _ ?_ | refine Lo.sl _ ?_ | intro _)) rfl⟩, ⟨_, rfl, .rowE (by repeat' (first | exact Lo.s _ | exact zah | exact zba | refine zae ?_ ?_ | refine zaz ?_ ?_ | refine zai ?_ | refine zbb ?_ | refine Lo.cells ?_ | refine Lo.agg _ ?_ | refine Lo.sl _ ?_ | intro _)) (Eq.trans (b := ((uD l n).take i).map eF ++ [eF (Fr.of 0)]) rfl hrow.symm)⟩, trivial⟩ ⟨.lo _ (by repeat' (first | exact Lo.s _ | exact zah | refine zae ?_ ?_ | refine zai ?_ | refine Lo.cells ?_ | refine Lo.agg _ ?_ | refine Lo.ref _ ?_ | refine Lo.tup _ ?_ | refine Lo.fn _ _ ?_ | refine Lo.sl _ ?_ | intro _)), .lo _ (by repeat' (first | exact Lo.s _ | exact zah | refine zae ?_ ?_ | refine zai ?_ | refine Lo.cells ?_ | refine Lo.agg _ ?_ | refine Lo.ref _ ?_ | refine Lo.tup _ ?_ | refine Lo.fn _ _ ?_ | refine Lo.sl _ ?_ | intro _)), .ptr 0 0 4 0 0 rfl, .ptr 1 1 4 0 0 rfl, .lo _ (by repeat' (first | exact Lo.s _ | exact zah | refine zae ?_ ?_ | refine zai ?_ | refine Lo.cells ?_ | refine Lo.agg _ ?_ | refine Lo.ref _ ?_ | refine Lo.tup _ ?_ | refine Lo.fn _ _ ?_ | refine Lo.sl _ ?_ | intro _)), .lo _ (by repeat' (first | exact Lo.s _ | exact zah | refine zae ?_ ?_ | refine zai ?_ | refine Lo.cells ?_ | refine Lo.agg _ ?_ | refine Lo.ref _ ?_ | refine Lo.tup _ ?_ | refine Lo.fn _ _ ?_ | refine Lo.sl _ ?_ | intro _)), .own 7 6 2 _ _ rfl (by simp; omega), trivial⟩⟩
      · have e2 : (uD l n).take i = uD l n := List.take_of_length_le (by omega)
        rw [e2]
        have hil : i = (uD l n).length := by omega
        have hA : (tA (t1 d l (n + 1))).map (eL eF) = (tA (t1 d l n)).map (eL eF) ++ [eL eF (uD l n)] := by rw [hT, tA_snoc]; simp
        have hR : (tR (t1 d l (n + 1))).map eI = (tR (t1 d l n)).map eI ++ [eI 2] := by rw [hT, tR_snoc]; simp
        have hB : (tB (t1 d l (n + 1))).map eF = (tB (t1 d l n)).map eF ++ [eF (Fr.of (gti d n))] := by rw [hT, tB_snoc]; simp
        have hAl : (tA (t1 d l n)).length ≤ 60 := by simp [tA]; omega
        have hRl : (tR (t1 d l n)).length ≤ 60 := by simp [tR]; omega
        have hBl : (tB (t1 d l n)).length ≤ 60 := by simp [tB]; omega
        (refine aw_exit ?_; repeat (first | refine ath_x ?_ | refine abl_hit ?_ | refine abl_miss rfl ?_ | refine zaq ?_ | refine zap ?_ | refine zag ?_ | refine zad ?_ | refine zac ?_))
        refine zaf ?_
        first | refine zab rfl rfl (zaa rfl) (zal rfl tf49_1 (by decide) rfl) ?_ | refine zab rfl rfl (zaa rfl) (zaj rfl tf49_1 (by decide) rfl) ?_
        first | refine zab rfl rfl (zaa rfl) (zao rfl ta47 rfl) ?_ | refine zab rfl rfl (zaa rfl) (zar rfl ta47 rfl rfl rfl rfl rfl) ?_
        first | refine zab rfl rfl (zaa rfl) (za3 (.inl rfl) rfl) ?_ | refine zab rfl rfl (zaa rfl) (zbi (.inl rfl) rfl) ?_ | refine zab rfl rfl (zaa rfl) (mv_s (.inl rfl) rfl) ?_ | refine zab rfl rfl (zaa rfl) (za4 (.inl rfl) rfl) ?_
        refine zbr (wk_froz (id := 6) rfl) (zbr (wk_sl (d := 72) rfl rfl (by first | rfl | (simp; done) | (simp; omega))) ?_)
        first | refine zab rfl rfl (zaa rfl) (lit1_sF rfl ts47 ti27 rfl rfl rfl rfl) ?_ | refine zab rfl rfl (zaa rfl) (lit1_slF rfl ts47 ti27 rfl rfl rfl rfl (by repeat' (first | exact Lo.s _ | exact zah | refine zae ?_ ?_ | refine zai ?_ | refine Lo.cells ?_ | refine Lo.agg _ ?_ | refine Lo.ref _ ?_ | refine Lo.tup _ ?_ | refine Lo.fn _ _ ?_ | refine Lo.sl _ ?_ | intro _))) ?_ | refine zab rfl rfl (zaa rfl) (does_litAF rfl ts47 ti27 rfl rfl (by decide) (by decide) rfl rfl rfl (by repeat' (first | exact Lo.s _ | exact zah | refine zae ?_ ?_ | refine zai ?_ | refine Lo.cells ?_ | refine Lo.agg _ ?_ | refine Lo.ref _ ?_ | refine Lo.tup _ ?_ | refine Lo.fn _ _ ?_ | refine Lo.sl _ ?_ | intro _))) ?_
        first | refine zab rfl rfl (zaa rfl) (does_append rfl ts47 ti27 rfl (by decide) rfl rfl (by first | rfl | (simp; done) | (simp; omega)) rfl (by first | exact .own _ _ _ rfl rfl _ (by first | rfl | simp) | exact .emp | exact .nil | exact .sl _ (by first | simp; done | intro e he; simp at he; obtain ⟨_, _, rfl⟩ := he; rfl)) (by first | omega | (simp; omega) | (unfold maxLen; simp; omega)) (by first | omega | (simp; omega) | (unfold maxLen; simp; omega))) ?_ | refine zab rfl rfl (zaa rfl) (zbn rfl ts47 ti27 rfl (by decide) rfl (.inl rfl) rfl (by first | exact .own _ _ _ rfl rfl _ (by first | rfl | simp) | exact .emp | exact .nil | exact .sl _ (by first | simp; done | intro e he; simp at he; obtain ⟨_, _, rfl⟩ := he; rfl)) (by first | omega | (simp; omega) | (unfold maxLen; simp; omega)) (by first | omega | (simp; omega) | (unfold maxLen; simp; omega))) ?_ | refine zab rfl rfl (zaa rfl) (zbn rfl ts47 ti27 rfl (by decide) rfl (.inr rfl) rfl (by first | exact .own _ _ _ rfl rfl _ (by first | rfl | simp) | exact .emp | exact .nil | exact .sl _ (by first | simp; done | intro e he; simp at he; obtain ⟨_, _, rfl⟩ := he; rfl)) (by first | omega | (simp; omega) | (unfold maxLen; simp; omega)) (by first | omega | (simp; omega) | (unfold maxLen; simp; omega))) ?_
        first | refine zab rfl rfl (zaa rfl) (zal rfl tf49_1 (by decide) rfl) ?_ | refine zab rfl rfl (zaa rfl) (zaj rfl tf49_1 (by decide) rfl) ?_
        refine zb2 rfl (zaa rfl) (zbe rfl ti47 rfl rfl rfl rfl rfl rfl (by decide) (by decide)) ?_
        refine zan ?_
        repeat (first | refine zag ?_ | refine zap ?_ | refine zad ?_ | refine zaq ?_ | refine zac ?_)
        refine zaf ?_
        first | refine zab rfl rfl (zaa rfl) (zal rfl tf49_2 (by decide) rfl) ?_ | refine zab rfl rfl (zaa rfl) (zaj rfl tf49_2 (by decide) rfl) ?_
        first | refine zab rfl rfl (zaa rfl) (zao rfl ta22 rfl) ?_ | refine zab rfl rfl (zaa rfl) (zar rfl ta22 rfl rfl rfl rfl rfl) ?_
        first | refine zab rfl rfl (zaa rfl) (lit1_sF rfl ts22 ti3 rfl rfl rfl rfl) ?_ | refine zab rfl rfl (zaa rfl) (lit1_slF rfl ts22 ti3 rfl rfl rfl rfl (by repeat' (first | exact Lo.s _ | exact zah | refine zae ?_ ?_ | refine zai ?_ | refine Lo.cells ?_ | refine Lo.agg _ ?_ | refine Lo.ref _ ?_ | refine Lo.tup _ ?_ | refine Lo.fn _ _ ?_ | refine Lo.sl _ ?_ | intro _))) ?_ | refine zab rfl rfl (zaa rfl) (does_litAF rfl ts22 ti3 rfl rfl (by decide) (by decide) rfl rfl rfl (by repeat' (first | exact Lo.s _ | exact zah | refine zae ?_ ?_ | refine zai ?_ | refine Lo.cells ?_ | refine Lo.agg _ ?_ | refine Lo.ref _ ?_ | refine Lo.tup _ ?_ | refine Lo.fn _ _ ?_ | refine Lo.sl _ ?_ | intro _))) ?_
        first | refine zab rfl rfl (zaa rfl) (does_append rfl ts22 ti3 rfl (by decide) rfl rfl (by first | rfl | (simp; done) | (simp; omega)) rfl (by first | exact .own _ _ _ rfl rfl _ (by first | rfl | simp) | exact .emp | exact .nil | exact .sl _ (by first | simp; done | intro e he; simp at he; obtain ⟨_, _, rfl⟩ := he; rfl)) (by first | omega | (simp; omega) | (unfold maxLen; simp; omega)) (by first | omega | (simp; omega) | (unfold maxLen; simp; omega))) ?_ | refine zab rfl rfl (zaa rfl) (zbn rfl ts22 ti3 rfl (by decide) rfl (.inl rfl) rfl (by first | exact .own _ _ _ rfl rfl _ (by first | rfl | simp) | exact .emp | exact .nil | exact .sl _ (by first | simp; done | intro e he; simp at he; obtain ⟨_, _, rfl⟩ := he; rfl)) (by first | omega | (simp; omega) | (unfold maxLen; simp; omega)) (by first | omega | (simp; omega) | (unfold maxLen; simp; omega))) ?_ | refine zab rfl rfl (zaa rfl) (zbn rfl ts22 ti3 rfl (by decide) rfl (.inr rfl) rfl (by first | exact .own _ _ _ rfl rfl _ (by first | rfl | simp) | exact .emp | exact .nil | exact .sl _ (by first | simp; done | intro e he; simp at he; obtain ⟨_, _, rfl⟩ := he; rfl)) (by first | omega | (simp; omega) | (unfold maxLen; simp; omega)) (by first | omega | (simp; omega) | (unfold maxLen; simp; omega))) ?_
        first | refine zab rfl rfl (zaa rfl) (zal rfl tf49_2 (by decide) rfl) ?_ | refine zab rfl rfl (zaa rfl) (zaj rfl tf49_2 (by decide) rfl) ?_
        refine zb2 rfl (zaa rfl) (zbe rfl ti22 rfl rfl rfl rfl rfl rfl (by decide) (by decide)) ?_
        refine zan ?_
        repeat (first | refine zag ?_ | refine zap ?_ | refine zad ?_ | refine zaq ?_ | refine zac ?_)
        all_goals refine aw_draw hmix ?_
        all_goals refine adraw_ex ?_
        all_goals (first | refine zas rfl rfl (zaa rfl) (fun _ => (zal rfl tf49_3 (by decide) rfl)) ?_ | refine zas rfl rfl (zaa rfl) (fun _ => (zaj rfl tf49_3 (by decide) rfl)) ?_)
        all_goals (first | refine zas rfl rfl (zaa rfl) (fun _ => (zao rfl ta27 rfl)) ?_ | refine zb4 rfl rfl (zaa rfl) (look_ptr rfl ta27 rfl rfl rfl rfl rfl) ?_)
        all_goals (first | refine zas rfl rfl (zaa rfl) (fun _ => (za3 (.inl rfl) rfl)) ?_ | refine zas rfl rfl (zaa rfl) (fun _ => (zbi (.inl rfl) rfl)) ?_ | refine zas rfl rfl (zaa rfl) (fun _ => (mv_s (.inl rfl) rfl)) ?_ | refine zas rfl rfl (zaa rfl) (fun _ => (za4 (.inl rfl) rfl)) ?_)
        all_goals refine zas rfl rfl (zaa rfl) (fun _ => (mv_s (.inl rfl) rfl)) ?_
        all_goals (first | refine zas rfl rfl (zaa rfl) (fun _ => (za1 rfl ts22 ti3 rfl rfl rfl (zb5 (by omega)) rfl)) ?_ | refine zas rfl rfl (zaa rfl) (fun _ => (zav rfl ts22 ti3 rfl rfl rfl (by omega))) ?_)
        all_goals (first | refine zas rfl rfl (zaa rfl) (fun _ => (zao rfl ta3 rfl)) ?_ | refine zb4 rfl rfl (zaa rfl) (look_ptr rfl ta3 rfl rfl rfl rfl rfl) ?_)
        all_goals refine zas rfl rfl (zaa rfl) (fun _ => (za5 rfl rfl ((rOf_pf _)) (zat rfl zbl))) ?_
        all_goals (first | refine zas rfl rfl (zaa rfl) (fun _ => (lit1_sF rfl ts27 ti59 rfl rfl rfl rfl)) ?_ | refine zas rfl rfl (zaa rfl) (fun _ => (lit1_slF rfl ts27 ti59 rfl rfl rfl rfl (by repeat' (first | exact Lo.s _ | exact zah | refine zae ?_ ?_ | refine zai ?_ | refine Lo.cells ?_ | refine Lo.agg _ ?_ | refine Lo.ref _ ?_ | refine Lo.tup _ ?_ | refine Lo.fn _ _ ?_ | refine Lo.sl _ ?_ | intro _)))) ?_ | refine zas rfl rfl (zaa rfl) (fun _ => (does_litAF rfl ts27 ti59 rfl rfl (by decide) (by decide) rfl rfl rfl (by repeat' (first | exact Lo.s _ | exact zah | refine zae ?_ ?_ | refine zai ?_ | refine Lo.cells ?_ | refine Lo.agg _ ?_ | refine Lo.ref _ ?_ | refine Lo.tup _ ?_ | refine Lo.fn _ _ ?_ | refine Lo.sl _ ?_ | intro _)))) ?_)
        all_goals (first | refine ex_eff rfl rfl (zaa rfl) (does_append rfl ts27 ti59 rfl (by decide) rfl rfl (by first | rfl | (simp; done) | (simp; omega)) rfl (by first | exact .own _ _ _ rfl rfl _ (by first | rfl | simp) | exact .emp | exact .nil | exact .sl _ (by first | simp; done | intro e he; simp at he; obtain ⟨_, _, rfl⟩ := he; rfl)) (by first | omega | (simp; omega) | (unfold maxLen; simp; omega)) (by first | omega | (simp; omega) | (unfold maxLen; simp; omega))) (fun _ h => app2_other h) ?_ | refine ex_eff rfl rfl (zaa rfl) (zbn rfl ts27 ti59 rfl (by decide) rfl (.inl rfl) rfl (by first | exact .own _ _ _ rfl rfl _ (by first | rfl | simp) | exact .emp | exact .nil | exact .sl _ (by first | simp; done | intro e he; simp at he; obtain ⟨_, _, rfl⟩ := he; rfl)) (by first | omega | (simp; omega) | (unfold maxLen; simp; omega)) (by first | omega | (simp; omega) | (unfold maxLen; simp; omega))) (fun _ h => app_other h) ?_ | refine ex_eff rfl rfl (zaa rfl) (zbn rfl ts27 ti59 rfl (by decide) rfl (.inr rfl) rfl (by first | exact .own _ _ _ rfl rfl _ (by first | rfl | simp) | exact .emp | exact .nil | exact .sl _ (by first | simp; done | intro e he; simp at he; obtain ⟨_, _, rfl⟩ := he; rfl)) (by first | omega | (simp; omega) | (unfold maxLen; simp; omega)) (by first | omega | (simp; omega) | (unfold maxLen; simp; omega))) (fun _ h => app_other h) ?_)
        all_goals (first | refine zas rfl rfl (zaa rfl) (fun _ => (zal rfl tf49_3 (by decide) rfl)) ?_ | refine zas rfl rfl (zaa rfl) (fun _ => (zaj rfl tf49_3 (by decide) rfl)) ?_)
        all_goals refine ex_eff0 rfl (zaa rfl) (zbe rfl ti27 rfl rfl rfl rfl rfl rfl (by decide) (by decide)) (fun _ h => set_other h) ?_
        all_goals refine ex_nil (by kernel_rfl) ?_
        all_goals (repeat (first | refine zag ?_ | refine zap ?_ | refine zad ?_ | refine zaq ?_ | refine zac ?_))
        refine zaf ?_
        refine zab rfl rfl (zaa rfl) (mv_s (.inl rfl) rfl) ?_
        refine zab rfl rfl (zaa rfl) (zbw rfl rfl rfl (IntWalk.i64_in _ (by omega))) ?_
        refine zab rfl rfl (zaa rfl) (mv_s (.inr rfl) rfl) ?_
        refine zan ?_
        repeat (first | refine zag ?_ | refine zap ?_ | refine zad ?_ | refine zaq ?_ | refine zac ?_)
        exact ⟨n + 1, by omega, by omega, wk_st [0, 1, 2, 7, 8, 9] (by decide) ⟨⟨_, rfl, .rowE zP_lo rfl⟩, ⟨_, rfl, obRn_agg (.cons (.own _ _ _ _ _ rfl rfl) (.cons (.own _ _ _ _ _ rfl (by rw [hA]; simp)) (.cons (.own _ _ _ _ _ rfl (by rw [hR]; simp)) (.cons (.own _ _ _ _ _ rfl (by rw [hB]; simp)) .nil))))⟩, ⟨_, rfl, .rowE (by repeat' (first | exact Lo.s _ | exact zah | exact zba | refine zae ?_ ?_ | refine zaz ?_ ?_ | refine zai ?_ | refine zbb ?_ | refine Lo.cells ?_ | refine Lo.agg _ ?_ | refine Lo.sl _ ?_ | intro _)) rfl⟩, ⟨_, rfl, .rowE (by repeat' (first | exact Lo.s _ | exact zah | exact zba | refine zae ?_ ?_ | refine zaz ?_ ?_ | refine zai ?_ | refine zbb ?_ | refine Lo.cells ?_ | refine Lo.agg _ ?_ | refine Lo.sl _ ?_ | intro _)) (Eq.trans (b := (tA (t1 d l n)).map (eL eF) ++ [eL eF (uD l n)]) rfl hA.symm)⟩, ⟨_, rfl, .rowE (by repeat' (first | exact Lo.s _ | exact zah | exact zba | refine zae ?_ ?_ | refine zaz ?_ ?_ | refine zai ?_ | refine zbb ?_ | refine Lo.cells ?_ | refine Lo.agg _ ?_ | refine Lo.sl _ ?_ | intro _)) (Eq.trans (b := (tR (t1 d l n)).map eI ++ [eI 2]) rfl hR.symm)⟩, ⟨_, rfl, .rowE (by repeat' (first | exact Lo.s _ | exact zah | exact zba | refine zae ?_ ?_ | refine zaz ?_ ?_ | refine zai ?_ | refine zbb ?_ | refine Lo.cells ?_ | refine Lo.agg _ ?_ | refine Lo.sl _ ?_ | intro _)) (Eq.trans (b := (tB (t1 d l n)).map eF ++ [eF (Fr.of (gti d n))]) rfl hB.symm)⟩, trivial⟩ ⟨.lo _ (by repeat' (first | exact Lo.s _ | exact zah | refine zae ?_ ?_ | refine zai ?_ | refine Lo.cells ?_ | refine Lo.agg _ ?_ | refine Lo.ref _ ?_ | refine Lo.tup _ ?_ | refine Lo.fn _ _ ?_ | refine Lo.sl _ ?_ | intro _)), .lo _ (by repeat' (first | exact Lo.s _ | exact zah | refine zae ?_ ?_ | refine zai ?_ | refine Lo.cells ?_ | refine Lo.agg _ ?_ | refine Lo.ref _ ?_ | refine Lo.tup _ ?_ | refine Lo.fn _ _ ?_ | refine Lo.sl _ ?_ | intro _)), .ptr 0 0 4 0 0 rfl, .ptr 1 1 4 0 0 rfl, .lo _ (by repeat' (first | exact Lo.s _ | exact zah | refine zae ?_ ?_ | refine zai ?_ | refine Lo.cells ?_ | refine Lo.agg _ ?_ | refine Lo.ref _ ?_ | refine Lo.tup _ ?_ | refine Lo.fn _ _ ?_ | refine Lo.sl _ ?_ | intro _)), trivial⟩⟩
  have e3 : n = d.length := by omega
  subst e3
  (refine aw_exit ?_; repeat (first | refine ath_x ?_ | refine abl_hit ?_ | refine abl_miss rfl ?_ | refine zaq ?_ | refine zap ?_ | refine zag ?_ | refine zad ?_ | refine zac ?_))
  refine zaf ?_
  refine zab rfl rfl (zaa rfl) (mv_s (.inr rfl) rfl) ?_
  refine zan ?_
  repeat (first | refine zag ?_ | refine zap ?_ | refine zad ?_ | refine zaq ?_ | refine zac ?_)
  refine aw_loops (S := Nat) (fun k => [(0, eL eI d), (1, eL eSh l), (4, .ptr 0 4 0 0), (6, .ptr 1 4 0 0), (12, eI k)]) (fun k => stR (costL l) (t2r d l k)) (fun k => k ≤ l.length) (fun k => l.length - k) 0
    (wk_st [0, 1, 2, 3, 4, 5] (by decide) ⟨⟨_, rfl, .rowE zP_lo rfl⟩, ⟨_, rfl, obRn_agg (.cons (.own _ _ _ _ _ rfl rfl) (.cons (.own _ _ _ _ _ rfl rfl) (.cons (.own _ _ _ _ _ rfl rfl) (.cons (.own _ _ _ _ _ rfl rfl) .nil))))⟩, ⟨_, rfl, .rowE (by repeat' (first | exact Lo.s _ | exact zah | exact zba | refine zae ?_ ?_ | refine zaz ?_ ?_ | refine zai ?_ | refine zbb ?_ | refine Lo.cells ?_ | refine Lo.agg _ ?_ | refine Lo.sl _ ?_ | intro _)) rfl⟩, ⟨_, rfl, .rowE (by repeat' (first | exact Lo.s _ | exact zah | exact zba | refine zae ?_ ?_ | refine zaz ?_ ?_ | refine zai ?_ | refine zbb ?_ | refine Lo.cells ?_ | refine Lo.agg _ ?_ | refine Lo.sl _ ?_ | intro _)) rfl⟩, ⟨_, rfl, .rowE (by repeat' (first | exact Lo.s _ | exact zah | exact zba | refine zae ?_ ?_ | refine zaz ?_ ?_ | refine zai ?_ | refine zbb ?_ | refine Lo.cells ?_ | refine Lo.agg _ ?_ | refine Lo.sl _ ?_ | intro _)) rfl⟩, ⟨_, rfl, .rowE (by repeat' (first | exact Lo.s _ | exact zah | exact zba | refine zae ?_ ?_ | refine zaz ?_ ?_ | refine zai ?_ | refine zbb ?_ | refine Lo.cells ?_ | refine Lo.agg _ ?_ | refine Lo.sl _ ?_ | intro _)) rfl⟩, trivial⟩ ⟨.lo _ (by repeat' (first | exact Lo.s _ | exact zah | refine zae ?_ ?_ | refine zai ?_ | refine Lo.cells ?_ | refine Lo.agg _ ?_ | refine Lo.ref _ ?_ | refine Lo.tup _ ?_ | refine Lo.fn _ _ ?_ | refine Lo.sl _ ?_ | intro _)), .lo _ (by repeat' (first | exact Lo.s _ | exact zah | refine zae ?_ ?_ | refine zai ?_ | refine Lo.cells ?_ | refine Lo.agg _ ?_ | refine Lo.ref _ ?_ | refine Lo.tup _ ?_ | refine Lo.fn _ _ ?_ | refine Lo.sl _ ?_ | intro _)), .ptr 0 0 4 0 0 rfl, .ptr 1 1 4 0 0 rfl, .lo _ (by repeat' (first | exact Lo.s _ | exact zah | refine zae ?_ ?_ | refine zai ?_ | refine Lo.cells ?_ | refine Lo.agg _ ?_ | refine Lo.ref _ ?_ | refine Lo.tup _ ?_ | refine Lo.fn _ _ ?_ | refine Lo.sl _ ?_ | intro _)), trivial⟩) (Nat.zero_le _) (fun k hk => ?_)
  have htl := t2r_len d l k
  repeat (first | refine zag ?_ | refine zap ?_ | refine zad ?_ | refine zaq ?_ | refine zac ?_)
  all_goals refine zaf ?_
  all_goals refine zab rfl rfl (zaa rfl) (mv_s (.inl rfl) rfl) ?_
  all_goals (first | refine zab rfl rfl (zaa rfl) (za3 (.inl rfl) rfl) ?_ | refine zab rfl rfl (zaa rfl) (zbi (.inl rfl) rfl) ?_ | refine zab rfl rfl (zaa rfl) (mv_s (.inl rfl) rfl) ?_ | refine zab rfl rfl (zaa rfl) (za4 (.inl rfl) rfl) ?_)
  all_goals (first | refine zab rfl rfl (zaa rfl) (za0 rfl ts23 rfl) ?_ | refine zab rfl rfl (zaa rfl) (za7 rfl ts23 rfl) ?_ | refine zab rfl rfl (zaa rfl) (zaw rfl ts23 rfl) ?_ | refine zab rfl rfl (zaa rfl) (zbc rfl ts23 rfl) ?_ | refine zab rfl rfl (zaa rfl) (zax rfl ts23 rfl) ?_)
  all_goals (first | refine zbj rfl rfl (zaa rfl) (zbd rfl rfl rfl) (fun h94 => ?_) (fun h94 => ?_) | refine zbk rfl rfl (zaa rfl) (zbd rfl rfl rfl) (fun h94 => ?_) (fun h94 => ?_))
  all_goals refine zan ?_
  all_goals (repeat (first | refine zag ?_ | refine zap ?_ | refine zad ?_ | refine zaq ?_ | refine zac ?_))
  all_goals (first | refine zbq rfl ?_ | refine zbm rfl ?_)
  all_goals (repeat (first | refine zag ?_ | refine zap ?_ | refine zad ?_ | refine zaq ?_ | refine zac ?_))
  · have hlt : k < l.length := by omega
    have hT : t2r d l (k + 1) = t2r d l k ++ [(uK l k, 1, (gti l k).most)] := rfl
    refine zaf ?_
    first | refine zab rfl rfl (zaa rfl) (za3 (.inr rfl) rfl) ?_ | refine zab rfl rfl (zaa rfl) (zbi (.inr rfl) rfl) ?_ | refine zab rfl rfl (zaa rfl) (mv_s (.inr rfl) rfl) ?_ | refine zab rfl rfl (zaa rfl) (za4 (.inr rfl) rfl) ?_
    refine zan ?_
    repeat (first | refine zag ?_ | refine zap ?_ | refine zad ?_ | refine zaq ?_ | refine zac ?_)
    refine zaf ?_
    refine zab rfl rfl (zaa rfl) (mv_s (.inr rfl) rfl) ?_
    refine zan ?_
    repeat (first | refine zag ?_ | refine zap ?_ | refine zad ?_ | refine zaq ?_ | refine zac ?_)
    refine zb3 (wk_own (d := 13) 2 rfl (.inr rfl)) ?_
    refine aw_loops (S := Nat) (fun i => [(0, eL eI d), (1, eL eSh l), (4, .ptr 0 4 0 0), (6, .ptr 1 4 0 0), (12, eI k), (14, eI i), (13, .own 6 2 i)]) (fun i => stR1 (costL l) (t2r d l k) (((uK l k).take i).map eF)) (fun i => i ≤ l.length) (fun i => l.length - i) 0
      (wk_st [0, 1, 2, 3, 4, 5, 6] (by decide) ⟨⟨_, rfl, .rowE zP_lo rfl⟩, ⟨_, rfl, obRn_agg (.cons (.own _ _ _ _ _ rfl rfl) (.cons (.own _ _ _ _ _ rfl rfl) (.cons (.own _ _ _ _ _ rfl rfl) (.cons (.own _ _ _ _ _ rfl rfl) .nil))))⟩, ⟨_, rfl, .rowE (by repeat' (first | exact Lo.s _ | exact zah | exact zba | refine zae ?_ ?_ | refine zaz ?_ ?_ | refine zai ?_ | refine zbb ?_ | refine Lo.cells ?_ | refine Lo.agg _ ?_ | refine Lo.sl _ ?_ | intro _)) rfl⟩, ⟨_, rfl, .rowE (by repeat' (first | exact Lo.s _ | exact zah | exact zba | refine zae ?_ ?_ | refine zaz ?_ ?_ | refine zai ?_ | refine zbb ?_ | refine Lo.cells ?_ | refine Lo.agg _ ?_ | refine Lo.sl _ ?_ | intro _)) rfl⟩, ⟨_, rfl, .rowE (by repeat' (first | exact Lo.s _ | exact zah | exact zba | refine zae ?_ ?_ | refine zaz ?_ ?_ | refine zai ?_ | refine zbb ?_ | refine Lo.cells ?_ | refine Lo.agg _ ?_ | refine Lo.sl _ ?_ | intro _)) rfl⟩, ⟨_, rfl, .rowE (by repeat' (first | exact Lo.s _ | exact zah | exact zba | refine zae ?_ ?_ | refine zaz ?_ ?_ | refine zai ?_ | refine zbb ?_ | refine Lo.cells ?_ | refine Lo.agg _ ?_ | refine Lo.sl _ ?_ | intro _)) rfl⟩, ⟨_, rfl, .rowE (by repeat' (first | exact Lo.s _ | exact zah | exact zba | refine zae ?_ ?_ | refine zaz ?_ ?_ | refine zai ?_ | refine zbb ?_ | refine Lo.cells ?_ | refine Lo.agg _ ?_ | refine Lo.sl _ ?_ | intro _)) rfl⟩, trivial⟩ ⟨.lo _ (by repeat' (first | exact Lo.s _ | exact zah | refine zae ?_ ?_ | refine zai ?_ | refine Lo.cells ?_ | refine Lo.agg _ ?_ | refine Lo.ref _ ?_ | refine Lo.tup _ ?_ | refine Lo.fn _ _ ?_ | refine Lo.sl _ ?_ | intro _)), .lo _ (by repeat' (first | exact Lo.s _ | exact zah | refine zae ?_ ?_ | refine zai ?_ | refine Lo.cells ?_ | refine Lo.agg _ ?_ | refine Lo.ref _ ?_ | refine Lo.tup _ ?_ | refine Lo.fn _ _ ?_ | refine Lo.sl _ ?_ | intro _)), .ptr 0 0 4 0 0 rfl, .ptr 1 1 4 0 0 rfl, .lo _ (by repeat' (first | exact Lo.s _ | exact zah | refine zae ?_ ?_ | refine zai ?_ | refine Lo.cells ?_ | refine Lo.agg _ ?_ | refine Lo.ref _ ?_ | refine Lo.tup _ ?_ | refine Lo.fn _ _ ?_ | refine Lo.sl _ ?_ | intro _)), .lo _ (by repeat' (first | exact Lo.s _ | exact zah | refine zae ?_ ?_ | refine zai ?_ | refine Lo.cells ?_ | refine Lo.agg _ ?_ | refine Lo.ref _ ?_ | refine Lo.tup _ ?_ | refine Lo.fn _ _ ?_ | refine Lo.sl _ ?_ | intro _)), .own 6 6 2 _ _ rfl rfl, trivial⟩) (Nat.zero_le _) (fun i hi => ?_)
    have hul : (uK l k).length = l.length := unitL_len _ _
    repeat (first | refine zag ?_ | refine zap ?_ | refine zad ?_ | refine zaq ?_ | refine zac ?_)
    all_goals refine zaf ?_
    all_goals refine zab rfl rfl (zaa rfl) (mv_s (.inl rfl) rfl) ?_
    all_goals (first | refine zab rfl rfl (zaa rfl) (za3 (.inl rfl) rfl) ?_ | refine zab rfl rfl (zaa rfl) (zbi (.inl rfl) rfl) ?_ | refine zab rfl rfl (zaa rfl) (mv_s (.inl rfl) rfl) ?_ | refine zab rfl rfl (zaa rfl) (za4 (.inl rfl) rfl) ?_)
    all_goals (first | refine zab rfl rfl (zaa rfl) (za0 rfl ts23 rfl) ?_ | refine zab rfl rfl (zaa rfl) (za7 rfl ts23 rfl) ?_ | refine zab rfl rfl (zaa rfl) (zaw rfl ts23 rfl) ?_ | refine zab rfl rfl (zaa rfl) (zbc rfl ts23 rfl) ?_ | refine zab rfl rfl (zaa rfl) (zax rfl ts23 rfl) ?_)
    all_goals (first | refine zbj rfl rfl (zaa rfl) (zbd rfl rfl rfl) (fun h100 => ?_) (fun h100 => ?_) | refine zbk rfl rfl (zaa rfl) (zbd rfl rfl rfl) (fun h100 => ?_) (fun h100 => ?_))
    all_goals refine zan ?_
    all_goals (repeat (first | refine zag ?_ | refine zap ?_ | refine zad ?_ | refine zaq ?_ | refine zac ?_))
    all_goals (first | refine zbq rfl ?_ | refine zbm rfl ?_)
    all_goals (repeat (first | refine zag ?_ | refine zap ?_ | refine zad ?_ | refine zaq ?_ | refine zac ?_))
    · have hlt2 : i < l.length := by omega
      have htk : (((uK l k).take i).map eF).length = i := by simp; omega
      have hrow : ((uK l k).take (i + 1)).map eF = ((uK l k).take i).map eF ++ [eF (Fr.of (if decide (i = k) = true then 1 else 0))] := by
        rw [take_snoc (by omega), List.map_append, show gti (uK l k) i = _ from unitL_gti hlt2]; rfl
      refine zaf ?_
      refine zab rfl rfl (zaa rfl) (mv_s (.inr rfl) rfl) ?_
      refine zan ?_
      repeat (first | refine zag ?_ | refine zap ?_ | refine zad ?_ | refine zaq ?_ | refine zac ?_)
      all_goals refine zaf ?_
      all_goals refine zab rfl rfl (zaa rfl) (mv_s (.inl rfl) rfl) ?_
      all_goals refine zab rfl rfl (zaa rfl) (mv_s (.inl rfl) rfl) ?_
      all_goals (first | refine zbj rfl rfl (zaa rfl) (does_eql rfl rfl rfl) (fun h105 => ?_) (fun h105 => ?_) | refine zbk rfl rfl (zaa rfl) (does_eql rfl rfl rfl) (fun h105 => ?_) (fun h105 => ?_))
      all_goals refine zan ?_
      all_goals (repeat (first | refine zag ?_ | refine zap ?_ | refine zad ?_ | refine zaq ?_ | refine zac ?_))
      all_goals (first | refine zbq rfl ?_ | refine zbm rfl ?_)
      all_goals (repeat (first | refine zag ?_ | refine zap ?_ | refine zad ?_ | refine zaq ?_ | refine zac ?_))
      · rw [if_pos (by rw [decide_eq_true_eq]; omega)] at hrow
        refine zaf ?_
        refine zab rfl rfl (zaa rfl) (mv_s (.inr rfl) rfl) ?_
        refine zan ?_
        repeat (first | refine zag ?_ | refine zap ?_ | refine zad ?_ | refine zaq ?_ | refine zac ?_)
        refine zaf ?_
        first | refine zab rfl rfl (zaa rfl) (za3 (.inl rfl) rfl) ?_ | refine zab rfl rfl (zaa rfl) (zbi (.inl rfl) rfl) ?_ | refine zab rfl rfl (zaa rfl) (mv_s (.inl rfl) rfl) ?_ | refine zab rfl rfl (zaa rfl) (za4 (.inl rfl) rfl) ?_
        refine zab rfl rfl (zaa rfl) (mv_s (.inl rfl) rfl) ?_
        refine zab rfl rfl (zaa rfl) (za5 rfl rfl ((rOf_pf _)) (zat rfl zbl)) ?_
        first | refine zab rfl rfl (zaa rfl) (lit1_sF rfl ts27 ti59 rfl rfl rfl rfl) ?_ | refine zab rfl rfl (zaa rfl) (lit1_slF rfl ts27 ti59 rfl rfl rfl rfl (by repeat' (first | exact Lo.s _ | exact zah | refine zae ?_ ?_ | refine zai ?_ | refine Lo.cells ?_ | refine Lo.agg _ ?_ | refine Lo.ref _ ?_ | refine Lo.tup _ ?_ | refine Lo.fn _ _ ?_ | refine Lo.sl _ ?_ | intro _))) ?_ | refine zab rfl rfl (zaa rfl) (does_litAF rfl ts27 ti59 rfl rfl (by decide) (by decide) rfl rfl rfl (by repeat' (first | exact Lo.s _ | exact zah | refine zae ?_ ?_ | refine zai ?_ | refine Lo.cells ?_ | refine Lo.agg _ ?_ | refine Lo.ref _ ?_ | refine Lo.tup _ ?_ | refine Lo.fn _ _ ?_ | refine Lo.sl _ ?_ | intro _))) ?_
        first | refine zab rfl rfl (zaa rfl) (does_append rfl ts27 ti59 rfl (by decide) rfl rfl (by first | rfl | (simp; done) | (simp; omega)) rfl (by first | exact .own _ _ _ rfl rfl _ (by first | rfl | simp) | exact .emp | exact .nil | exact .sl _ (by first | simp; done | intro e he; simp at he; obtain ⟨_, _, rfl⟩ := he; rfl)) (by first | omega | (simp; omega) | (unfold maxLen; simp; omega)) (by first | omega | (simp; omega) | (unfold maxLen; simp; omega))) ?_ | refine zab rfl rfl (zaa rfl) (zbn rfl ts27 ti59 rfl (by decide) rfl (.inl rfl) rfl (by first | exact .own _ _ _ rfl rfl _ (by first | rfl | simp) | exact .emp | exact .nil | exact .sl _ (by first | simp; done | intro e he; simp at he; obtain ⟨_, _, rfl⟩ := he; rfl)) (by first | omega | (simp; omega) | (unfold maxLen; simp; omega)) (by first | omega | (simp; omega) | (unfold maxLen; simp; omega))) ?_ | refine zab rfl rfl (zaa rfl) (zbn rfl ts27 ti59 rfl (by decide) rfl (.inr rfl) rfl (by first | exact .own _ _ _ rfl rfl _ (by first | rfl | simp) | exact .emp | exact .nil | exact .sl _ (by first | simp; done | intro e he; simp at he; obtain ⟨_, _, rfl⟩ := he; rfl)) (by first | omega | (simp; omega) | (unfold maxLen; simp; omega)) (by first | omega | (simp; omega) | (unfold maxLen; simp; omega))) ?_
        first | refine zab rfl rfl (zaa rfl) (za3 (.inr rfl) rfl) ?_ | refine zab rfl rfl (zaa rfl) (zbi (.inr rfl) rfl) ?_ | refine zab rfl rfl (zaa rfl) (mv_s (.inr rfl) rfl) ?_ | refine zab rfl rfl (zaa rfl) (za4 (.inr rfl) rfl) ?_
        refine zan ?_
        repeat (first | refine zag ?_ | refine zap ?_ | refine zad ?_ | refine zaq ?_ | refine zac ?_)
        refine zaf ?_
        refine zab rfl rfl (zaa rfl) (mv_s (.inl rfl) rfl) ?_
        refine zab rfl rfl (zaa rfl) (zbw rfl rfl rfl (IntWalk.i64_in _ (by omega))) ?_
        refine zab rfl rfl (zaa rfl) (mv_s (.inr rfl) rfl) ?_
        refine zan ?_
        repeat (first | refine zag ?_ | refine zap ?_ | refine zad ?_ | refine zaq ?_ | refine zac ?_)
        exact ⟨i + 1, by omega, by omega, wk_st [0, 1, 2, 3, 4, 5, 7] (by decide) ⟨⟨_, rfl, .rowE zP_lo rfl⟩, ⟨_, rfl, obRn_agg (.cons (.own _ _ _ _ _ rfl rfl) (.cons (.own _ _ _ _ _ rfl rfl) (.cons (.own _ _ _ _ _ rfl rfl) (.cons (.own _ _ _ _ _ rfl rfl) .nil))))⟩, ⟨_, rfl, .rowE (by repeat' (first | exact Lo.s _ | exact zah | exact zba | refine zae ?_ ?_ | refine zaz ?_ ?_ | refine zai ?_ | refine zbb ?_ | refine Lo.cells ?_ | refine Lo.agg _ ?_ | refine Lo.sl _ ?_ | intro _)) rfl⟩, ⟨_, rfl, .rowE (by repeat' (first | exact Lo.s _ | exact zah | exact zba | refine zae ?_ ?_ | refine zaz ?_ ?_ | refine zai ?_ | refine zbb ?_ | refine Lo.cells ?_ | refine Lo.agg _ ?_ | refine Lo.sl _ ?_ | intro _)) rfl⟩, ⟨_, rfl, .rowE (by repeat' (first | exact Lo.s _ | exact zah | exact zba | refine zae ?_ ?_ | refine zaz ?_ ?_ | refine zai ?_ | refine zbb ?_ | refine Lo.cells ?_ | refine Lo.agg _ ?_ | refine Lo.sl _ ?_ | intro _)) rfl⟩, ⟨_, rfl, .rowE (by repeat' (first | exact Lo.s _ | exact zah | exact zba | refine zae ?_ ?_ | refine zaz ?_ ?_ | refine zai ?_ | refine zbb ?_ | refine Lo.cells ?_ | refine Lo.agg _ ?_ | refine Lo.sl _ ?_ | intro _)) rfl⟩, ⟨_, rfl, .rowE (by repeat' (first | exact Lo.s _ | exact zah | exact zba | refine zae ?_ ?_ | refine zaz ?_ ?_ | refine zai ?_ | refine zbb ?_ | refine Lo.cells ?_ | refine Lo.agg _ ?_ | refine Lo.sl _ ?_ | intro _)) (Eq.trans (b := ((uK l k).take i).map eF ++ [eF (Fr.of 1)]) rfl hrow.symm)⟩, trivial⟩ ⟨.lo _ (by repeat' (first | exact Lo.s _ | exact zah | refine zae ?_ ?_ | refine zai ?_ | refine Lo.cells ?_ | refine Lo.agg _ ?_ | refine Lo.ref _ ?_ | refine Lo.tup _ ?_ | refine Lo.fn _ _ ?_ | refine Lo.sl _ ?_ | intro _)), .lo _ (by repeat' (first | exact Lo.s _ | exact zah | refine zae ?_ ?_ | refine zai ?_ | refine Lo.cells ?_ | refine Lo.agg _ ?_ | refine Lo.ref _ ?_ | refine Lo.tup _ ?_ | refine Lo.fn _ _ ?_ | refine Lo.sl _ ?_ | intro _)), .ptr 0 0 4 0 0 rfl, .ptr 1 1 4 0 0 rfl, .lo _ (by repeat' (first | exact Lo.s _ | exact zah | refine zae ?_ ?_ | refine zai ?_ | refine Lo.cells ?_ | refine Lo.agg _ ?_ | refine Lo.ref _ ?_ | refine Lo.tup _ ?_ | refine Lo.fn _ _ ?_ | refine Lo.sl _ ?_ | intro _)), .lo _ (by repeat' (first | exact Lo.s _ | exact zah | refine zae ?_ ?_ | refine zai ?_ | refine Lo.cells ?_ | refine Lo.agg _ ?_ | refine Lo.ref _ ?_ | refine Lo.tup _ ?_ | refine Lo.fn _ _ ?_ | refine Lo.sl _ ?_ | intro _)), .own 7 6 2 _ _ rfl (by simp; omega), trivial⟩⟩
      · rw [if_neg (by rw [decide_eq_true_eq]; omega)] at hrow
        refine zaf ?_
        first | refine zab rfl rfl (zaa rfl) (za3 (.inl rfl) rfl) ?_ | refine zab rfl rfl (zaa rfl) (zbi (.inl rfl) rfl) ?_ | refine zab rfl rfl (zaa rfl) (mv_s (.inl rfl) rfl) ?_ | refine zab rfl rfl (zaa rfl) (za4 (.inl rfl) rfl) ?_
        refine zab rfl rfl (zaa rfl) (mv_s (.inl rfl) rfl) ?_
        refine zab rfl rfl (zaa rfl) (za5 rfl rfl ((rOf_pf _)) (zat rfl zbl)) ?_
        first | refine zab rfl rfl (zaa rfl) (lit1_sF rfl ts27 ti59 rfl rfl rfl rfl) ?_ | refine zab rfl rfl (zaa rfl) (lit1_slF rfl ts27 ti59 rfl rfl rfl rfl (by repeat' (first | exact Lo.s _ | exact zah | refine zae ?_ ?_ | refine zai ?_ | refine Lo.cells ?_ | refine Lo.agg _ ?_ | refine Lo.ref _ ?_ | refine Lo.tup _ ?_ | refine Lo.fn _ _ ?_ | refine Lo.sl _ ?_ | intro _))) ?_ | refine zab rfl rfl (zaa rfl) (does_litAF rfl ts27 ti59 rfl rfl (by decide) (by decide) rfl rfl rfl (by repeat' (first | exact Lo.s _ | exact zah | refine zae ?_ ?_ | refine zai ?_ | refine Lo.cells ?_ | refine Lo.agg _ ?_ | refine Lo.ref _ ?_ | refine Lo.tup _ ?_ | refine Lo.fn _ _ ?_ | refine Lo.sl _ ?_ | intro _))) ?_
        first | refine zab rfl rfl (zaa rfl) (does_append rfl ts27 ti59 rfl (by decide) rfl rfl (by first | rfl | (simp; done) | (simp; omega)) rfl (by first | exact .own _ _ _ rfl rfl _ (by first | rfl | simp) | exact .emp | exact .nil | exact .sl _ (by first | simp; done | intro e he; simp at he; obtain ⟨_, _, rfl⟩ := he; rfl)) (by first | omega | (simp; omega) | (unfold maxLen; simp; omega)) (by first | omega | (simp; omega) | (unfold maxLen; simp; omega))) ?_ | refine zab rfl rfl (zaa rfl) (zbn rfl ts27 ti59 rfl (by decide) rfl (.inl rfl) rfl (by first | exact .own _ _ _ rfl rfl _ (by first | rfl | simp) | exact .emp | exact .nil | exact .sl _ (by first | simp; done | intro e he; simp at he; obtain ⟨_, _, rfl⟩ := he; rfl)) (by first | omega | (simp; omega) | (unfold maxLen; simp; omega)) (by first | omega | (simp; omega) | (unfold maxLen; simp; omega))) ?_ | refine zab rfl rfl (zaa rfl) (zbn rfl ts27 ti59 rfl (by decide) rfl (.inr rfl) rfl (by first | exact .own _ _ _ rfl rfl _ (by first | rfl | simp) | exact .emp | exact .nil | exact .sl _ (by first | simp; done | intro e he; simp at he; obtain ⟨_, _, rfl⟩ := he; rfl)) (by first | omega | (simp; omega) | (unfold maxLen; simp; omega)) (by first | omega | (simp; omega) | (unfold maxLen; simp; omega))) ?_
        first | refine zab rfl rfl (zaa rfl) (za3 (.inr rfl) rfl) ?_ | refine zab rfl rfl (zaa rfl) (zbi (.inr rfl) rfl) ?_ | refine zab rfl rfl (zaa rfl) (mv_s (.inr rfl) rfl) ?_ | refine zab rfl rfl (zaa rfl) (za4 (.inr rfl) rfl) ?_
        refine zan ?_
        repeat (first | refine zag ?_ | refine zap ?_ | refine zad ?_ | refine zaq ?_ | refine zac ?_)
        refine zaf ?_
        refine zab rfl rfl (zaa rfl) (mv_s (.inl rfl) rfl) ?_
        refine zab rfl rfl (zaa rfl) (zbw rfl rfl rfl (IntWalk.i64_in _ (by omega))) ?_
        refine zab rfl rfl (zaa rfl) (mv_s (.inr rfl) rfl) ?_
        refine zan ?_
        repeat (first | refine zag ?_ | refine zap ?_ | refine zad ?_ | refine zaq ?_ | refine zac ?_)
        exact ⟨i + 1, by omega, by omega, wk_st [0, 1, 2, 3, 4, 5, 7] (by decide) ⟨⟨_, rfl, .rowE zP_lo rfl⟩, ⟨_, rfl, obRn_agg (.cons (.own _ _ _ _ _ rfl rfl) (.cons (.own _ _ _ _ _ rfl rfl) (.cons (.own _ _ _ _ _ rfl rfl) (.cons (.own _ _ _ _ _ rfl rfl) .nil))))⟩, ⟨_, rfl, .rowE (by repeat' (first | exact Lo.s _ | exact zah | exact zba | refine zae ?_ ?_ | refine zaz ?_ ?_ | refine zai ?_ | refine zbb ?_ | refine Lo.cells ?_ | refine Lo.agg _ ?_ | refine Lo.sl _ ?_ | intro _)) rfl⟩, ⟨_, rfl, .rowE (by repeat' (first | exact Lo.s _ | exact zah | exact zba | refine zae ?_ ?_ | refine zaz ?_ ?_ | refine zai ?_ | refine zbb ?_ | refine Lo.cells ?_ | refine Lo.agg _ ?_ | refine Lo.sl _ ?_ | intro _)) rfl⟩, ⟨_, rfl, .rowE (by repeat' (first | exact Lo.s _ | exact zah | exact zba | refine zae ?_ ?_ | refine zaz ?_ ?_ | refine zai ?_ | refine zbb ?_ | refine Lo.cells ?_ | refine Lo.agg _ ?_ | refine Lo.sl _ ?_ | intro _)) rfl⟩, ⟨_, rfl, .rowE (by repeat' (first | exact Lo.s _ | exact zah | exact zba | refine zae ?_ ?_ | refine zaz ?_ ?_ | refine zai ?_ | refine zbb ?_ | refine Lo.cells ?_ | refine Lo.agg _ ?_ | refine Lo.sl _ ?_ | intro _)) rfl⟩, ⟨_, rfl, .rowE (by repeat' (first | exact Lo.s _ | exact zah | exact zba | refine zae ?_ ?_ | refine zaz ?_ ?_ | refine zai ?_ | refine zbb ?_ | refine Lo.cells ?_ | refine Lo.agg _ ?_ | refine Lo.sl _ ?_ | intro _)) (Eq.trans (b := ((uK l k).take i).map eF ++ [eF (Fr.of 0)]) rfl hrow.symm)⟩, trivial⟩ ⟨.lo _ (by repeat' (first | exact Lo.s _ | exact zah | refine zae ?_ ?_ | refine zai ?_ | refine Lo.cells ?_ | refine Lo.agg _ ?_ | refine Lo.ref _ ?_ | refine Lo.tup _ ?_ | refine Lo.fn _ _ ?_ | refine Lo.sl _ ?_ | intro _)), .lo _ (by repeat' (first | exact Lo.s _ | exact zah | refine zae ?_ ?_ | refine zai ?_ | refine Lo.cells ?_ | refine Lo.agg _ ?_ | refine Lo.ref _ ?_ | refine Lo.tup _ ?_ | refine Lo.fn _ _ ?_ | refine Lo.sl _ ?_ | intro _)), .ptr 0 0 4 0 0 rfl, .ptr 1 1 4 0 0 rfl, .lo _ (by repeat' (first | exact Lo.s _ | exact zah | refine zae ?_ ?_ | refine zai ?_ | refine Lo.cells ?_ | refine Lo.agg _ ?_ | refine Lo.ref _ ?_ | refine Lo.tup _ ?_ | refine Lo.fn _ _ ?_ | refine Lo.sl _ ?_ | intro _)), .lo _ (by repeat' (first | exact Lo.s _ | exact zah | refine zae ?_ ?_ | refine zai ?_ | refine Lo.cells ?_ | refine Lo.agg _ ?_ | refine Lo.ref _ ?_ | refine Lo.tup _ ?_ | refine Lo.fn _ _ ?_ | refine Lo.sl _ ?_ | intro _)), .own 7 6 2 _ _ rfl (by simp; omega), trivial⟩⟩
    · have e2 : (uK l k).take i = uK l k := List.take_of_length_le (by omega)
      rw [e2]
      have hil : i = (uK l k).length := by omega
      have hA : (tA (t2r d l (k + 1))).map (eL eF) = (tA (t2r d l k)).map (eL eF) ++ [eL eF (uK l k)] := by rw [hT, tA_snoc]; simp
      have hR : (tR (t2r d l (k + 1))).map eI = (tR (t2r d l k)).map eI ++ [eI 1] := by rw [hT, tR_snoc]; simp
      have hB : (tB (t2r d l (k + 1))).map eF = (tB (t2r d l k)).map eF ++ [eF (Fr.of (gti l k).most)] := by rw [hT, tB_snoc]; simp
      have hAl : (tA (t2r d l k)).length ≤ 60 := by simp [tA]; omega
      have hRl : (tR (t2r d l k)).length ≤ 60 := by simp [tR]; omega
      have hBl : (tB (t2r d l k)).length ≤ 60 := by simp [tB]; omega
      (refine aw_exit ?_; repeat (first | refine ath_x ?_ | refine abl_hit ?_ | refine abl_miss rfl ?_ | refine zaq ?_ | refine zap ?_ | refine zag ?_ | refine zad ?_ | refine zac ?_))
      refine zaf ?_
      first | refine zab rfl rfl (zaa rfl) (zal rfl tf49_1 (by decide) rfl) ?_ | refine zab rfl rfl (zaa rfl) (zaj rfl tf49_1 (by decide) rfl) ?_
      first | refine zab rfl rfl (zaa rfl) (zao rfl ta47 rfl) ?_ | refine zab rfl rfl (zaa rfl) (zar rfl ta47 rfl rfl rfl rfl rfl) ?_
      first | refine zab rfl rfl (zaa rfl) (za3 (.inl rfl) rfl) ?_ | refine zab rfl rfl (zaa rfl) (zbi (.inl rfl) rfl) ?_ | refine zab rfl rfl (zaa rfl) (mv_s (.inl rfl) rfl) ?_ | refine zab rfl rfl (zaa rfl) (za4 (.inl rfl) rfl) ?_
      refine zbr (wk_froz (id := 6) rfl) (zbr (wk_sl (d := 113) rfl rfl (by first | rfl | (simp; done) | (simp; omega))) ?_)
      first | refine zab rfl rfl (zaa rfl) (lit1_sF rfl ts47 ti27 rfl rfl rfl rfl) ?_ | refine zab rfl rfl (zaa rfl) (lit1_slF rfl ts47 ti27 rfl rfl rfl rfl (by repeat' (first | exact Lo.s _ | exact zah | refine zae ?_ ?_ | refine zai ?_ | refine Lo.cells ?_ | refine Lo.agg _ ?_ | refine Lo.ref _ ?_ | refine Lo.tup _ ?_ | refine Lo.fn _ _ ?_ | refine Lo.sl _ ?_ | intro _))) ?_ | refine zab rfl rfl (zaa rfl) (does_litAF rfl ts47 ti27 rfl rfl (by decide) (by decide) rfl rfl rfl (by repeat' (first | exact Lo.s _ | exact zah | refine zae ?_ ?_ | refine zai ?_ | refine Lo.cells ?_ | refine Lo.agg _ ?_ | refine Lo.ref _ ?_ | refine Lo.tup _ ?_ | refine Lo.fn _ _ ?_ | refine Lo.sl _ ?_ | intro _))) ?_
      first | refine zab rfl rfl (zaa rfl) (does_append rfl ts47 ti27 rfl (by decide) rfl rfl (by first | rfl | (simp; done) | (simp; omega)) rfl (by first | exact .own _ _ _ rfl rfl _ (by first | rfl | simp) | exact .emp | exact .nil | exact .sl _ (by first | simp; done | intro e he; simp at he; obtain ⟨_, _, rfl⟩ := he; rfl)) (by first | omega | (simp; omega) | (unfold maxLen; simp; omega)) (by first | omega | (simp; omega) | (unfold maxLen; simp; omega))) ?_ | refine zab rfl rfl (zaa rfl) (zbn rfl ts47 ti27 rfl (by decide) rfl (.inl rfl) rfl (by first | exact .own _ _ _ rfl rfl _ (by first | rfl | simp) | exact .emp | exact .nil | exact .sl _ (by first | simp; done | intro e he; simp at he; obtain ⟨_, _, rfl⟩ := he; rfl)) (by first | omega | (simp; omega) | (unfold maxLen; simp; omega)) (by first | omega | (simp; omega) | (unfold maxLen; simp; omega))) ?_ | refine zab rfl rfl (zaa rfl) (zbn rfl ts47 ti27 rfl (by decide) rfl (.inr rfl) rfl (by first | exact .own _ _ _ rfl rfl _ (by first | rfl | simp) | exact .emp | exact .nil | exact .sl _ (by first | simp; done | intro e he; simp at he; obtain ⟨_, _, rfl⟩ := he; rfl)) (by first | omega | (simp; omega) | (unfold maxLen; simp; omega)) (by first | omega | (simp; omega) | (unfold maxLen; simp; omega))) ?_
      first | refine zab rfl rfl (zaa rfl) (zal rfl tf49_1 (by decide) rfl) ?_ | refine zab rfl rfl (zaa rfl) (zaj rfl tf49_1 (by decide) rfl) ?_
      refine zb2 rfl (zaa rfl) (zbe rfl ti47 rfl rfl rfl rfl rfl rfl (by decide) (by decide)) ?_
      refine zan ?_
      repeat (first | refine zag ?_ | refine zap ?_ | refine zad ?_ | refine zaq ?_ | refine zac ?_)
      refine zaf ?_
      first | refine zab rfl rfl (zaa rfl) (zal rfl tf49_2 (by decide) rfl) ?_ | refine zab rfl rfl (zaa rfl) (zaj rfl tf49_2 (by decide) rfl) ?_
      first | refine zab rfl rfl (zaa rfl) (zao rfl ta22 rfl) ?_ | refine zab rfl rfl (zaa rfl) (zar rfl ta22 rfl rfl rfl rfl rfl) ?_
      first | refine zab rfl rfl (zaa rfl) (lit1_sF rfl ts22 ti3 rfl rfl rfl rfl) ?_ | refine zab rfl rfl (zaa rfl) (lit1_slF rfl ts22 ti3 rfl rfl rfl rfl (by repeat' (first | exact Lo.s _ | exact zah | refine zae ?_ ?_ | refine zai ?_ | refine Lo.cells ?_ | refine Lo.agg _ ?_ | refine Lo.ref _ ?_ | refine Lo.tup _ ?_ | refine Lo.fn _ _ ?_ | refine Lo.sl _ ?_ | intro _))) ?_ | refine zab rfl rfl (zaa rfl) (does_litAF rfl ts22 ti3 rfl rfl (by decide) (by decide) rfl rfl rfl (by repeat' (first | exact Lo.s _ | exact zah | refine zae ?_ ?_ | refine zai ?_ | refine Lo.cells ?_ | refine Lo.agg _ ?_ | refine Lo.ref _ ?_ | refine Lo.tup _ ?_ | refine Lo.fn _ _ ?_ | refine Lo.sl _ ?_ | intro _))) ?_
      first | refine zab rfl rfl (zaa rfl) (does_append rfl ts22 ti3 rfl (by decide) rfl rfl (by first | rfl | (simp; done) | (simp; omega)) rfl (by first | exact .own _ _ _ rfl rfl _ (by first | rfl | simp) | exact .emp | exact .nil | exact .sl _ (by first | simp; done | intro e he; simp at he; obtain ⟨_, _, rfl⟩ := he; rfl)) (by first | omega | (simp; omega) | (unfold maxLen; simp; omega)) (by first | omega | (simp; omega) | (unfold maxLen; simp; omega))) ?_ | refine zab rfl rfl (zaa rfl) (zbn rfl ts22 ti3 rfl (by decide) rfl (.inl rfl) rfl (by first | exact .own _ _ _ rfl rfl _ (by first | rfl | simp) | exact .emp | exact .nil | exact .sl _ (by first | simp; done | intro e he; simp at he; obtain ⟨_, _, rfl⟩ := he; rfl)) (by first | omega | (simp; omega) | (unfold maxLen; simp; omega)) (by first | omega | (simp; omega) | (unfold maxLen; simp; omega))) ?_ | refine zab rfl rfl (zaa rfl) (zbn rfl ts22 ti3 rfl (by decide) rfl (.inr rfl) rfl (by first | exact .own _ _ _ rfl rfl _ (by first | rfl | simp) | exact .emp | exact .nil | exact .sl _ (by first | simp; done | intro e he; simp at he; obtain ⟨_, _, rfl⟩ := he; rfl)) (by first | omega | (simp; omega) | (unfold maxLen; simp; omega)) (by first | omega | (simp; omega) | (unfold maxLen; simp; omega))) ?_
      first | refine zab rfl rfl (zaa rfl) (zal rfl tf49_2 (by decide) rfl) ?_ | refine zab rfl rfl (zaa rfl) (zaj rfl tf49_2 (by decide) rfl) ?_
      refine zb2 rfl (zaa rfl) (zbe rfl ti22 rfl rfl rfl rfl rfl rfl (by decide) (by decide)) ?_
      refine zan ?_
      repeat (first | refine zag ?_ | refine zap ?_ | refine zad ?_ | refine zaq ?_ | refine zac ?_)
      all_goals refine aw_draw hmix ?_
      all_goals refine adraw_ex ?_
      all_goals (first | refine zas rfl rfl (zaa rfl) (fun _ => (zal rfl tf49_3 (by decide) rfl)) ?_ | refine zas rfl rfl (zaa rfl) (fun _ => (zaj rfl tf49_3 (by decide) rfl)) ?_)
      all_goals (first | refine zas rfl rfl (zaa rfl) (fun _ => (zao rfl ta27 rfl)) ?_ | refine zb4 rfl rfl (zaa rfl) (look_ptr rfl ta27 rfl rfl rfl rfl rfl) ?_)
      all_goals (first | refine zas rfl rfl (zaa rfl) (fun _ => (za3 (.inl rfl) rfl)) ?_ | refine zas rfl rfl (zaa rfl) (fun _ => (zbi (.inl rfl) rfl)) ?_ | refine zas rfl rfl (zaa rfl) (fun _ => (mv_s (.inl rfl) rfl)) ?_ | refine zas rfl rfl (zaa rfl) (fun _ => (za4 (.inl rfl) rfl)) ?_)
      all_goals refine zas rfl rfl (zaa rfl) (fun _ => (mv_s (.inl rfl) rfl)) ?_
      all_goals (first | refine zas rfl rfl (zaa rfl) (fun _ => (za1 rfl ts23 ti39 rfl rfl rfl (zb5 (by omega)) rfl)) ?_ | refine zas rfl rfl (zaa rfl) (fun _ => (zav rfl ts23 ti39 rfl rfl rfl (by omega))) ?_)
      all_goals (first | refine zas rfl rfl (zaa rfl) (fun _ => (zal rfl tf39_2 (by decide) rfl)) ?_ | refine zas rfl rfl (zaa rfl) (fun _ => (zaj rfl tf39_2 (by decide) rfl)) ?_)
      all_goals (first | refine zas rfl rfl (zaa rfl) (fun _ => (zao rfl ta3 rfl)) ?_ | refine zb4 rfl rfl (zaa rfl) (look_ptr rfl ta3 rfl rfl rfl rfl rfl) ?_)
      all_goals refine zas rfl rfl (zaa rfl) (fun _ => (za5 rfl rfl ((rOf_pf _)) (zat rfl zbl))) ?_
      all_goals (first | refine zas rfl rfl (zaa rfl) (fun _ => (lit1_sF rfl ts27 ti59 rfl rfl rfl rfl)) ?_ | refine zas rfl rfl (zaa rfl) (fun _ => (lit1_slF rfl ts27 ti59 rfl rfl rfl rfl (by repeat' (first | exact Lo.s _ | exact zah | refine zae ?_ ?_ | refine zai ?_ | refine Lo.cells ?_ | refine Lo.agg _ ?_ | refine Lo.ref _ ?_ | refine Lo.tup _ ?_ | refine Lo.fn _ _ ?_ | refine Lo.sl _ ?_ | intro _)))) ?_ | refine zas rfl rfl (zaa rfl) (fun _ => (does_litAF rfl ts27 ti59 rfl rfl (by decide) (by decide) rfl rfl rfl (by repeat' (first | exact Lo.s _ | exact zah | refine zae ?_ ?_ | refine zai ?_ | refine Lo.cells ?_ | refine Lo.agg _ ?_ | refine Lo.ref _ ?_ | refine Lo.tup _ ?_ | refine Lo.fn _ _ ?_ | refine Lo.sl _ ?_ | intro _)))) ?_)
      all_goals (first | refine ex_eff rfl rfl (zaa rfl) (does_append rfl ts27 ti59 rfl (by decide) rfl rfl (by first | rfl | (simp; done) | (simp; omega)) rfl (by first | exact .own _ _ _ rfl rfl _ (by first | rfl | simp) | exact .emp | exact .nil | exact .sl _ (by first | simp; done | intro e he; simp at he; obtain ⟨_, _, rfl⟩ := he; rfl)) (by first | omega | (simp; omega) | (unfold maxLen; simp; omega)) (by first | omega | (simp; omega) | (unfold maxLen; simp; omega))) (fun _ h => app2_other h) ?_ | refine ex_eff rfl rfl (zaa rfl) (zbn rfl ts27 ti59 rfl (by decide) rfl (.inl rfl) rfl (by first | exact .own _ _ _ rfl rfl _ (by first | rfl | simp) | exact .emp | exact .nil | exact .sl _ (by first | simp; done | intro e he; simp at he; obtain ⟨_, _, rfl⟩ := he; rfl)) (by first | omega | (simp; omega) | (unfold maxLen; simp; omega)) (by first | omega | (simp; omega) | (unfold maxLen; simp; omega))) (fun _ h => app_other h) ?_ | refine ex_eff rfl rfl (zaa rfl) (zbn rfl ts27 ti59 rfl (by decide) rfl (.inr rfl) rfl (by first | exact .own _ _ _ rfl rfl _ (by first | rfl | simp) | exact .emp | exact .nil | exact .sl _ (by first | simp; done | intro e he; simp at he; obtain ⟨_, _, rfl⟩ := he; rfl)) (by first | omega | (simp; omega) | (unfold maxLen; simp; omega)) (by first | omega | (simp; omega) | (unfold maxLen; simp; omega))) (fun _ h => app_other h) ?_)
      all_goals (first | refine zas rfl rfl (zaa rfl) (fun _ => (zal rfl tf49_3 (by decide) rfl)) ?_ | refine zas rfl rfl (zaa rfl) (fun _ => (zaj rfl tf49_3 (by decide) rfl)) ?_)
      all_goals refine ex_eff0 rfl (zaa rfl) (zbe rfl ti27 rfl rfl rfl rfl rfl rfl (by decide) (by decide)) (fun _ h => set_other h) ?_
      all_goals refine ex_nil (by kernel_rfl) ?_
      all_goals (repeat (first | refine zag ?_ | refine zap ?_ | refine zad ?_ | refine zaq ?_ | refine zac ?_))
      refine zaf ?_
      refine zab rfl rfl (zaa rfl) (mv_s (.inl rfl) rfl) ?_
      refine zab rfl rfl (zaa rfl) (zbw rfl rfl rfl (IntWalk.i64_in _ (by omega))) ?_
      refine zab rfl rfl (zaa rfl) (mv_s (.inr rfl) rfl) ?_
      refine zan ?_
      repeat (first | refine zag ?_ | refine zap ?_ | refine zad ?_ | refine zaq ?_ | refine zac ?_)
      exact ⟨k + 1, by omega, by omega, wk_st [0, 1, 2, 7, 8, 9] (by decide) ⟨⟨_, rfl, .rowE zP_lo rfl⟩, ⟨_, rfl, obRn_agg (.cons (.own _ _ _ _ _ rfl rfl) (.cons (.own _ _ _ _ _ rfl (by rw [hA]; simp)) (.cons (.own _ _ _ _ _ rfl (by rw [hR]; simp)) (.cons (.own _ _ _ _ _ rfl (by rw [hB]; simp)) .nil))))⟩, ⟨_, rfl, .rowE (by repeat' (first | exact Lo.s _ | exact zah | exact zba | refine zae ?_ ?_ | refine zaz ?_ ?_ | refine zai ?_ | refine zbb ?_ | refine Lo.cells ?_ | refine Lo.agg _ ?_ | refine Lo.sl _ ?_ | intro _)) rfl⟩, ⟨_, rfl, .rowE (by repeat' (first | exact Lo.s _ | exact zah | exact zba | refine zae ?_ ?_ | refine zaz ?_ ?_ | refine zai ?_ | refine zbb ?_ | refine Lo.cells ?_ | refine Lo.agg _ ?_ | refine Lo.sl _ ?_ | intro _)) (Eq.trans (b := (tA (t2r d l k)).map (eL eF) ++ [eL eF (uK l k)]) rfl hA.symm)⟩, ⟨_, rfl, .rowE (by repeat' (first | exact Lo.s _ | exact zah | exact zba | refine zae ?_ ?_ | refine zaz ?_ ?_ | refine zai ?_ | refine zbb ?_ | refine Lo.cells ?_ | refine Lo.agg _ ?_ | refine Lo.sl _ ?_ | intro _)) (Eq.trans (b := (tR (t2r d l k)).map eI ++ [eI 1]) rfl hR.symm)⟩, ⟨_, rfl, .rowE (by repeat' (first | exact Lo.s _ | exact zah | exact zba | refine zae ?_ ?_ | refine zaz ?_ ?_ | refine zai ?_ | refine zbb ?_ | refine Lo.cells ?_ | refine Lo.agg _ ?_ | refine Lo.sl _ ?_ | intro _)) (Eq.trans (b := (tB (t2r d l k)).map eF ++ [eF (Fr.of (gti l k).most)]) rfl hB.symm)⟩, trivial⟩ ⟨.lo _ (by repeat' (first | exact Lo.s _ | exact zah | refine zae ?_ ?_ | refine zai ?_ | refine Lo.cells ?_ | refine Lo.agg _ ?_ | refine Lo.ref _ ?_ | refine Lo.tup _ ?_ | refine Lo.fn _ _ ?_ | refine Lo.sl _ ?_ | intro _)), .lo _ (by repeat' (first | exact Lo.s _ | exact zah | refine zae ?_ ?_ | refine zai ?_ | refine Lo.cells ?_ | refine Lo.agg _ ?_ | refine Lo.ref _ ?_ | refine Lo.tup _ ?_ | refine Lo.fn _ _ ?_ | refine Lo.sl _ ?_ | intro _)), .ptr 0 0 4 0 0 rfl, .ptr 1 1 4 0 0 rfl, .lo _ (by repeat' (first | exact Lo.s _ | exact zah | refine zae ?_ ?_ | refine zai ?_ | refine Lo.cells ?_ | refine Lo.agg _ ?_ | refine Lo.ref _ ?_ | refine Lo.tup _ ?_ | refine Lo.fn _ _ ?_ | refine Lo.sl _ ?_ | intro _)), trivial⟩⟩
  · have e4 : k = l.length := by omega
    subst e4
    have hpE : prgE d l (zeroI l.length) (mostL l) = ⟨costL l, tA (t2r d l l.length), tR (t2r d l l.length), tB (t2r d l l.length)⟩ := by
      unfold prgE; rw [t2_r d l l.length (Nat.le_refl _)]
    rw [hpE] at HI
    dsimp only at HI
    have hAl : ((tA (t2r d l l.length)).map (eL eF)).length = (tA (t2r d l l.length)).length := by simp
    have hAt : (tA (t2r d l l.length)).length = (t2r d l l.length).length := by simp [tA]
    (refine aw_exit ?_; repeat (first | refine ath_x ?_ | refine abl_hit ?_ | refine abl_miss rfl ?_ | refine zaq ?_ | refine zap ?_ | refine zag ?_ | refine zad ?_ | refine zac ?_))
    refine zaf ?_
    first | refine zab rfl rfl (zaa rfl) (zal rfl tf49_1 (by decide) rfl) ?_ | refine zab rfl rfl (zaa rfl) (zaj rfl tf49_1 (by decide) rfl) ?_
    first | refine zab rfl rfl (zaa rfl) (zao rfl ta47 rfl) ?_ | refine zab rfl rfl (zaa rfl) (zar rfl ta47 rfl rfl rfl rfl rfl) ?_
    first | refine zab rfl rfl (zaa rfl) (za0 rfl ts47 rfl) ?_ | refine zab rfl rfl (zaa rfl) (za7 rfl ts47 rfl) ?_ | refine zab rfl rfl (zaa rfl) (zaw rfl ts47 rfl) ?_ | refine zab rfl rfl (zaa rfl) (zbc rfl ts47 rfl) ?_ | refine zab rfl rfl (zaa rfl) (zax rfl ts47 rfl) ?_
    refine zab rfl rfl (zaa rfl) (zbz rfl rfl rfl) ?_
    refine zan ?_
    repeat (first | refine zag ?_ | refine zap ?_ | refine zad ?_ | refine zaq ?_ | refine zac ?_)
    refine aw_if rfl (fun h => ?_) (fun h => ?_)
    · rw [if_pos (by omega)] at HI
      repeat (first | refine zag ?_ | refine zap ?_ | refine zad ?_ | refine zaq ?_ | refine zac ?_)
      refine zaf ?_
      refine zab rfl rfl (zaa rfl) (does_build rfl ti49 tp49 rfl rfl) ?_
      refine zb2 rfl (zaa rfl) (zbe rfl ti49 rfl rfl rfl rfl rfl rfl (by decide) (by decide)) ?_
      refine zab rfl rfl (zaa rfl) (mv_s (.inr rfl) rfl) ?_
      refine zan ?_
      repeat (first | refine zag ?_ | refine zap ?_ | refine zad ?_ | refine zaq ?_ | refine zac ?_)
      (refine zbt ?_; repeat (first | refine ath_r ?_ | refine abl_r ?_))
      exact post_zp (N := 0) (.inr rfl) ta49 ti49 rfl rfl rfl rfl rfl rfl HI
    · rw [if_neg (by omega)] at HI
      repeat (first | refine zag ?_ | refine zap ?_ | refine zad ?_ | refine zaq ?_ | refine zac ?_)
      refine zaf ?_
      first | refine zab rfl rfl (zaa rfl) (za9 rfl ta49 ti49 rfl rfl) ?_ | refine zab rfl rfl (zaa rfl) (zbf rfl ta49 ti49 rfl rfl rfl rfl rfl) ?_ | refine zab rfl rfl (zaa rfl) (za8 rfl ta49 ti49 rfl (Nat.le_of_ble_eq_true rfl)) ?_ | refine zab rfl rfl (zaa rfl) (zbg rfl ta49 ti49 rfl rfl rfl rfl (Nat.le_of_ble_eq_true rfl)) ?_
      refine zb2 rfl (zaa rfl) (zbe rfl ti49 rfl rfl rfl rfl rfl rfl (by decide) (by decide)) ?_
      refine zab rfl rfl (zaa rfl) (mv_s (.inr rfl) rfl) ?_
      refine zan ?_
      repeat (first | refine zag ?_ | refine zap ?_ | refine zad ?_ | refine zaq ?_ | refine zac ?_)
      (refine zbt ?_; repeat (first | refine ath_r ?_ | refine abl_r ?_))
      rw [HI]
      refine post_cs (N := 0) (.inr rfl) ta49 ti49 rfl rfl rfl rfl rfl rfl ?_ (.refl _)
      exact .agg _ _ rfl (FiniL.cons (.own _ _ _ _ _ rfl rfl rfl) (FiniL.cons (.own _ _ _ _ _ rfl rfl rfl) (FiniL.cons (.own _ _ _ _ _ rfl rfl rfl) (FiniL.cons (.own _ _ _ _ _ rfl rfl rfl) FiniL.nil)))).2
end Go.Proofs.Ytmoipmnhgdmkpaa.Aw
end
