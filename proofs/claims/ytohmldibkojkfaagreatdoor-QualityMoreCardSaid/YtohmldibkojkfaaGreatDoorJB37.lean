import Derived.Test.YtohmldibkojkfaaGreatDoorJB22
import Derived.Test.YtohmldibkojkfaaGreatDoorJB11
import Derived.Test.YtohmldibkojkfaaGreatDoorJB17
import Derived.Test.YtohmldibkojkfaaGreatDoorJB26
import Derived.Test.YtohmldibkojkfaaGreatDoorJB35
set_option linter.unusedSimpArgs false
set_option linter.unusedVariables false
set_option linter.unusedSectionVars false
section
namespace Go.Proofs.YtohmldibkojkfaaGreatDoor.Aw
open Go Go.RowKit Go.Proofs Dl
variable {P : Program} [IsP P]
def eEn (e : En) : AV := .agg [eI e.1, eI e.2]
structure HQ (σ : List Ob) (a b : Nat) (l : List En) : Prop where
 ha : σ[a]? = some (.row 1 [.own b 2 l.length])
 hb : σ[b]? = some (.row 2 (l.map eEn))
 ne : a ≠ b
theorem HQ.set {σ : List Ob} {a b : Nat} {l l' : List En} (h : HQ σ a b l) (hl : l'.length = l.length) : HQ (σ.set b (.row 2 (l'.map eEn))) a b l' := by
 have hbl := (List.getElem?_eq_some_iff.1 h.hb).1
 exact ⟨by rw [List.getElem?_set_ne (fun e => h.ne e.symm), hl]; exact h.ha, List.getElem?_set_self hbl, h.ne⟩
theorem zr9 {l : List En} {i : Nat} (h : i < l.length) : (l.map eEn)[i]? = some (eEn (gti l i)) := by rw [List.getElem?_map, zbn h]; rfl
theorem ziv (b m : Nat) (σ : List Ob) : CallE P 93 [.own b 2 m] σ (eI m) σ := by
 refine zdz (by rw [IsP.eq (P := P)]; exact Tryz.func93) rfl rfl (Nat.le_of_ble_eq_true rfl) ?_
 refine zbt (za3 (zaw rfl (zbc (zbt (za3 (zaw rfl (zbb rfl rfl (zaa rfl) (zb7 rfl zim rfl) (zaw rfl (zbc (zah ?_))))))))))
 (refine zhi ?_; repeat (first | refine za6 ?_ | refine za7 ?_))
 exact ⟨.inr rfl, rfl, _, .cons _ _ _ _ (.tmp _ _ rfl) .nil, rfl⟩
theorem zji {b : Nat} {σ : List Ob} {l : List En} (hb : σ[b]? = some (.row 2 (l.map eEn))) {i j : Nat} (hi : i < l.length) (hj : j < l.length) (hl : l.length ≤ 1000000) : CallE P 192 [.own b 2 l.length, eI i, eI j] σ (eB (decide (ky l i < ky l j))) σ := by
 refine zdz (by rw [IsP.eq (P := P)]; exact Tryz.func192) rfl rfl (Nat.le_of_ble_eq_true rfl) ?_
 refine zbt (za3 (zaw rfl (zbc (zbt ?_))))
 refine zf2 hmix ?_
 refine zet ?_
 refine ex_s rfl (ex_s rfl (zct rfl rfl (zaa rfl) (fun _ => (za2 rfl zim zfa rfl rfl rfl hi)) (ex_f zgl rfl (zc6 rfl rfl (zaa rfl) (zdg rfl ta3 rfl hb rfl (zr9 hi) rfl) (ex_s rfl (ex_s rfl (zct rfl rfl (zaa rfl) (fun _ => (za2 rfl zim zfa rfl rfl rfl hj)) (ex_f zgl rfl (zc6 rfl rfl (zaa rfl) (zdg rfl ta3 rfl hb rfl (zr9 hj) rfl) (zct rfl rfl (zaa rfl) (fun _ => (zaz rfl rfl rfl)) (ex_s rfl ?_)))))))))))
 refine zr6 (by kernel_rfl) ?_
 refine zah ?_
 (refine zhi ?_; repeat (first | refine za6 ?_ | refine za7 ?_))
 exact ⟨.inr rfl, rfl, _, .cons _ _ _ _ (.tmp _ _ rfl) .nil, rfl⟩
theorem zjh {b : Nat} {σ : List Ob} {l : List En} (hb : σ[b]? = some (.row 2 (l.map eEn))) {i j : Nat} (hi : i < l.length) (hj : j < l.length) (hl : l.length ≤ 1000000) : CallE P 195 [.own b 2 l.length, eI i, eI j] σ (.tup []) (σ.set b (.row 2 ((swp l i j).map eEn))) := by
 have hbl := (List.getElem?_eq_some_iff.1 hb).1
 have h1 : (σ.set b (.row 2 ((l.map eEn).set i (putC (eEn (gti l i)) 0 (eEn (gti l j)).cells))))[b]? = some (.row 2 ((l.set i (gti l j)).map eEn)) := by
  rw [List.getElem?_set_self hbl, List.map_set]; rfl
 have hj1 : j < (l.set i (gti l j)).length := by simpa using hj
 refine zdz (by rw [IsP.eq (P := P)]; exact Tryz.func195) rfl rfl (Nat.le_of_ble_eq_true rfl) ?_
 refine zf2 hmix ?_
 refine zet ?_
 refine ex_s rfl (ex_s rfl (ex_s rfl (ex_s rfl (ex_s rfl (ex_s rfl (zct rfl rfl (zaa rfl) (fun _ => (za2 rfl zim zfa rfl rfl rfl hj)) (zc6 rfl rfl (zaa rfl) (zht rfl zyq zfa rfl hb rfl (zr9 hj) rfl) (ex_s rfl (ex_s rfl (zct rfl rfl (zaa rfl) (fun _ => (za2 rfl zim zfa rfl rfl rfl hi)) (zc6 rfl rfl (zaa rfl) (zht rfl zyq zfa rfl hb rfl (zr9 hi) rfl) (zct rfl rfl (zaa rfl) (fun _ => (za2 rfl zim zfa rfl rfl rfl hi)) ?_))))))))))))
 refine zeo rfl (zaa rfl) (za8 rfl zfa rfl rfl hb (zr9 hi) rfl rfl (by decide) (by decide)) (fun _ h => zc8 h) ?_
 refine zct rfl rfl (zaa rfl) (fun _ => (za2 rfl zim zfa rfl rfl rfl hj)) ?_
 refine zeo rfl (zaa rfl) (za8 rfl zfa rfl rfl h1 (zr9 hj1) rfl rfl (by decide) (by decide)) (fun _ h => zc8 h) ?_
 refine zr6 (by kernel_rfl) ?_
 refine ⟨.inl rfl, ?_, _, .nil, rfl⟩
 rw [List.set_set]
 unfold swp
 rw [List.map_set (i := j)]
 rfl
theorem zun {a b : Nat} {σ : List Ob} {l : List En} (h : HQ σ a b l) (hl : l.length ≤ 1000000) (x : En) : CallE P 194 [.ptr a 1 0 0, .ifc 146 (eEn x)] σ (.tup []) ((σ.set b .dead ++ [Ob.row 2 ((l ++ [x]).map eEn)]).set a (.row 1 [.own σ.length 2 (l.length + 1)])) := by
 obtain ⟨ha, hb, hne⟩ := h
 have hal := (List.getElem?_eq_some_iff.1 ha).1
 have hlm : (l.map eEn).length = l.length := List.length_map _
 have hst : (σ.set b .dead ++ [Ob.row 2 (l.map eEn ++ [eEn x])])[a]? = some (.row 1 [.own b 2 l.length]) := by
  rw [List.getElem?_append_left (by simpa using hal), List.getElem?_set_ne (fun e => hne e.symm)]; exact ha
 refine zdz (by rw [IsP.eq (P := P)]; exact Tryz.func194) rfl rfl (Nat.le_of_ble_eq_true rfl) ?_
 refine zf2 hmix ?_
 refine zet ?_
 refine ex_s rfl (ex_s rfl (ex_s rfl (zc6 rfl rfl (zaa rfl) (zdg rfl zk2 rfl ha rfl rfl rfl) (ex_s rfl ?_))))
 refine zct rfl rfl (zaa rfl) (fun _ => (zj5 rfl (by rw [IsP.eq (P := P)]; kernel_rfl) rfl)) ?_
 refine zct rfl rfl (zaa rfl) (fun _ => (zd5 rfl zim zfa rfl rfl (by decide) (by decide) rfl rfl rfl (.agg _ (zaj (.s _) (zaj (.s _) zar))))) ?_
 refine zl2 rfl rfl (zaa rfl) (zb0 rfl zim zfa rfl (by decide) rfl hb hlm.symm rfl (.sl _ (by intro e he; simp at he; subst he; rfl)) (by unfold maxLen; simp; omega) (by simp; omega)) (fun _ h => zfi h) ?_
 refine ex_s rfl ?_
 refine zeo rfl (zaa rfl) (za8 rfl ti148 rfl rfl hst rfl rfl rfl (by decide) (by decide)) (fun _ h => zc8 h) ?_
 refine zr6 (by kernel_rfl) ?_
 refine ⟨.inl rfl, ?_, _, .nil, rfl⟩
 show (σ.set b .dead ++ [Ob.row 2 (l.map eEn ++ [eEn x])]).set a (.row 1 [.own σ.length 2 ((l.map eEn).length + 1)]) = _
 rw [hlm, List.map_append]
 rfl
theorem zwh {a b : Nat} {σ : List Ob} {l : List En} (h : HQ σ a b l) (h0 : 0 < l.length) (hl : l.length ≤ 1000000) : CallE P 193 [.ptr a 1 0 0] σ (.ifc 146 (eEn (gti l (l.length - 1)))) (((σ ++ [Ob.row 2 [eEn (gti l (l.length - 1))]]).set b (.row 2 ((l.take (l.length - 1)).map eEn))).set a (.row 1 [.own b 2 (l.length - 1)])) := by
 obtain ⟨ha, hb, hne⟩ := h
 have hal := (List.getElem?_eq_some_iff.1 ha).1
 have hbl := (List.getElem?_eq_some_iff.1 hb).1
 have hk : l.length - 1 < l.length := by omega
 have hki : (l.length : Int) - 1 = ((l.length - 1 : Nat) : Int) := by omega
 refine zdz (by rw [IsP.eq (P := P)]; exact Tryz.func193) rfl rfl (Nat.le_of_ble_eq_true rfl) ?_
 refine zbt (za3 (zaw rfl (zbc (zbt (za3 (zaw rfl (zaw rfl (zbb rfl rfl (zaa rfl) (zap rfl zk2 rfl ha rfl rfl rfl) (zaw rfl (zbc (zbt (za3 (zaw rfl (zaw rfl (zbb rfl rfl (zaa rfl) (zb7 rfl zim rfl) (zbb rfl rfl (zaa rfl) (zeu rfl rfl rfl (IntWalk.i64_in _ (by omega))) (zbb rfl rfl (zaa rfl) (za2 rfl zim zfa rfl rfl hki hk) (zbb rfl rfl (zaa rfl) (zb2 rfl zyq zfa rfl hb rfl (zr9 hk) rfl) (zbb rfl rfl (zaa rfl) (zbw rfl zfa rfl rfl) ?_)))))))))))))))))))
 refine zty rfl (zaa rfl) (za8 rfl zfa rfl rfl (by rw [List.getElem?_append_right (Nat.le_refl _), Nat.sub_self]; rfl) rfl rfl rfl (by decide) (by decide)) ?_
 refine zbc (zbt ?_)
 have hw : IntKind.i64.wrap ((l.length : Int) - 1) = ((l.length - 1 : Nat) : Int) := by rw [hki]; exact IntWalk.i64_in _ (by omega)
 obtain ⟨z, hz⟩ : ∃ z, z = gti l (l.length - 1) := ⟨_, rfl⟩
 obtain ⟨σ1, hs1⟩ : ∃ σ1, σ1 = (σ ++ [Ob.row 2 [AV.agg [eI 0, eI 0]]]).set σ.length (.row 2 ([AV.agg [eI 0, eI 0]].set 0 (putC (AV.agg [eI 0, eI 0]) 0 (eEn z).cells))) := ⟨_, rfl⟩
 have hb2 : σ1[b]? = some (.row 2 (l.map eEn)) := by
  rw [hs1, List.getElem?_set_ne (by omega), List.getElem?_append_left hbl]; exact hb
 have ha2 : (σ1.set b (.row 2 ((l.map eEn).take (l.length - 1))))[a]? = some (.row 1 [.own b 2 l.length]) := by
  rw [List.getElem?_set_ne (fun e => hne e.symm), hs1, List.getElem?_set_ne (by omega), List.getElem?_append_left hal]; exact ha
 have hc2 : ((σ1.set b (.row 2 ((l.map eEn).take (l.length - 1)))).set a (.row 1 ([AV.own b 2 l.length].set 0 (putC (.own b 2 l.length) 0 (AV.own b 2 (l.length - 1)).cells))))[σ.length]? = some (.row 2 [eEn z]) := by
  rw [List.getElem?_set_ne (by omega), List.getElem?_set_ne (by omega), hs1, List.getElem?_set_self (by simp)]; rfl
 have he : σ1 = σ ++ [Ob.row 2 [eEn z]] := by
  rw [hs1, List.set_append_right _ _ (Nat.le_refl _), Nat.sub_self]; rfl
 refine ew_st (σ' := σ1) (by rw [hs1, hz]; rfl) ?_
 rw [← hz]
 clear hs1
 refine za3 (zaw rfl (zaw rfl (zaw rfl (zbb rfl rfl (zaa rfl) (zb7 rfl zim rfl) (zbb rfl rfl (zaa rfl) (zeu rfl rfl rfl hw) (zbb rfl rfl (zaa rfl) (zoi rfl zim zfa rfl rfl h0 rfl rfl (by omega) hb2) (zaw rfl (zty rfl (zaa rfl) (za8 rfl ti148 rfl rfl ha2 rfl rfl rfl (by decide) (by decide)) (zbc (zbt (za3 (zbb rfl rfl (zaa rfl) (zb2 rfl zyq zfa rfl hc2 rfl rfl rfl) ?_))))))))))))
 refine zbb rfl rfl (zaa rfl) (zgd rfl (by rw [IsP.eq (P := P)]; kernel_rfl) rfl) ?_
 refine zaw rfl (zbc (zah ?_))
 (refine zhi ?_; repeat (first | refine za6 ?_ | refine za7 ?_))
 refine ⟨.inr rfl, ?_, _, .cons _ _ _ _ (.tmp _ _ rfl) .nil, rfl⟩
 rw [he, List.map_take]
 rfl
end Go.Proofs.YtohmldibkojkfaaGreatDoor.Aw
end
section
namespace Go.Proofs.YtohmldibkojkfaaGreatDoor.Aw
open Go Go.RowKit Go.Proofs Dl
variable {P : Program} [IsP P]
theorem mLen : MethV P 144 "Len" 93 148 := ⟨fun a w => by rw [IsP.eq (P := P)]; kernel_rfl⟩
theorem mLess : MethV P 144 "Less" 192 148 := ⟨fun a w => by rw [IsP.eq (P := P)]; kernel_rfl⟩
theorem z2k : MethV P 144 "Swap" 195 148 := ⟨fun a w => by rw [IsP.eq (P := P)]; kernel_rfl⟩
theorem mPush : MethP P 144 "Push" 194 := ⟨fun a w => by rw [IsP.eq (P := P)]; kernel_rfl⟩
theorem mPop : MethP P 144 "Pop" 193 := ⟨fun a w => by rw [IsP.eq (P := P)]; kernel_rfl⟩
theorem zs3 {σ : List Ob} {b : Nat} {x : Ob} (h : σ[b]? = some x) : σ.set b x = σ := by
 obtain ⟨hb, h1⟩ := List.getElem?_eq_some_iff.1 h
 rw [← h1]; exact List.set_getElem_self hb
def qIf (a : Nat) : AV := .ifc 144 (.ptr a 1 0 0)
set_option maxHeartbeats 1000000 in
theorem zzl {a b : Nat} {σ : List Ob} {l : List En} (h : HQ σ a b l) {j : Nat} (hj : j < l.length) (hl : l.length ≤ 1000000) : CallE P 132 [qIf a, eI j] σ (.tup []) (σ.set b (.row 2 ((upD l j).map eEn))) := by
 obtain ⟨R, hR⟩ : ∃ R, upD l j = R := ⟨_, rfl⟩
 rw [hR]
 refine zdz (by rw [IsP.eq (P := P)]; exact Tryz.func132) rfl rfl (Nat.le_of_ble_eq_true rfl) ?_
 refine zes ?_
 refine ztw (S := List En × Nat) (fun p => [(0, qIf a), (1, eI p.2)]) (fun p => σ.set b (.row 2 (p.1.map eEn))) (fun p => p.1.length = l.length ∧ p.2 < l.length ∧ upD p.1 p.2 = R) (fun p => p.2) (l, j) ⟨rfl, rfl, trivial⟩ (zs3 h.hb).symm ⟨rfl, hj, hR⟩ (fun p hp => ?_)
 obtain ⟨l1, j⟩ := p
 obtain ⟨h1, h2, h3⟩ := hp
 replace h1 : l1.length = l.length := h1
 replace h2 : j < l.length := h2
 replace h3 : upD l1 j = R := h3
 have hQ := h.set h1
 rw [zsu] at h3
 have hq : IntKind.i64.wrap (((j : Int) - 1).tdiv 2) = (((j - 1) / 2 : Nat) : Int) := by
  have : ((j : Int) - 1).tdiv 2 = (((j - 1) / 2 : Nat) : Int) := by
   by_cases h0 : j = 0
   ·
    subst h0; rfl
   ·
    rw [show (j : Int) - 1 = ((j - 1 : Nat) : Int) by omega]; rfl
  rw [this]; exact IntWalk.i64_in _ (by omega)
 refine zes (zbt (za3 (zaw rfl (zbb rfl rfl (zaa rfl) (zeu rfl rfl rfl (IntWalk.i64_in _ (by omega))) (zbb rfl rfl (zaa rfl) (zzy rfl rfl rfl (by omega) hq) (zaw rfl (zbc (zbt (zbt ?_)))))))))
 by_cases h0 : j = 0
 ·
  rw [dif_pos h0] at h3
  have heq : ((((j - 1) / 2 : Nat) : Int)) = (j : Int) := by omega
  refine za3 (zaw rfl (zaw rfl (zbb rfl rfl (zaa rfl) (zbp heq (zcc rfl rfl rfl)) (zaw rfl (zhj rfl (zhj rfl (zhj rfl (zhj rfl (zhj rfl (zaw rfl (zbc (zah (zgv rfl ?_)))))))))))))
  (refine zjp ?_; repeat (first | refine zcx ?_ | refine zbs ?_ | refine zbe rfl ?_ | refine zb3 ?_ | refine zah ?_ | refine zbt ?_ | refine zdt ?_ | refine zes ?_))
  refine ⟨.inl rfl, ?_, _, .nil, rfl⟩
  show σ.set b _ = σ.set b _
  rw [h3]
 ·
  rw [dif_neg h0] at h3
  have hne : ¬ ((((j - 1) / 2 : Nat) : Int)) = (j : Int) := by omega
  have hi : (j - 1) / 2 < l1.length := by omega
  have hL := zji (P := P) hQ.hb (i := j) (j := (j - 1) / 2) (by omega) hi (by omega)
  have hS := zjh (P := P) hQ.hb (i := (j - 1) / 2) (j := j) hi (by omega) (by omega)
  have hA : zj9 P 144 "Less" 192 (σ.set b (.row 2 (l1.map eEn))) (.ptr a 1 0 0) (.own b 2 l1.length) := zic mLess zk2 hQ.ha rfl rfl rfl
  have hA2 : zj9 P 144 "Swap" 195 (σ.set b (.row 2 (l1.map eEn))) (.ptr a 1 0 0) (.own b 2 l1.length) := zic z2k zk2 hQ.ha rfl rfl rfl
  by_cases hlt : ky l1 j < ky l1 ((j - 1) / 2)
  ·
   rw [if_pos hlt] at h3
   rw [decide_eq_true hlt] at hL
   refine za3 (zaw rfl (zaw rfl (zbb rfl rfl (zaa rfl) (zbi hne (zcc rfl rfl rfl)) (zaw rfl (zaw rfl (zaw rfl (zaw rfl (zbb rfl rfl (zal rfl rfl rfl) (zcq rfl rfl hA hL rfl) (zbb rfl rfl (zal rfl rfl rfl) (zay rfl rfl) (zaw rfl (zbc (zah (zer rfl (zdt (zbt (za3 (zaw rfl (zaw rfl (zaw rfl (zbb rfl rfl (zaa rfl) (zcq rfl rfl hA2 hS rfl) (zbc (zah (za3 (zaw rfl (zaw rfl (zbc (zb3 (zah ?_))))))))))))))))))))))))))))
   exact ⟨(swp l1 ((j - 1) / 2) j, (j - 1) / 2), ⟨by rw [zdf]; exact h1, by show (j - 1) / 2 < l.length; omega, h3⟩, by show (j - 1) / 2 < j; omega, ⟨rfl, rfl, trivial⟩, List.set_set ..⟩
  ·
   rw [if_neg hlt] at h3
   rw [decide_eq_false hlt] at hL
   refine za3 (zaw rfl (zaw rfl (zbb rfl rfl (zaa rfl) (zbi hne (zcc rfl rfl rfl)) (zaw rfl (zaw rfl (zaw rfl (zaw rfl (zbb rfl rfl (zal rfl rfl rfl) (zcq rfl rfl hA hL rfl) (zbb rfl rfl (zal rfl rfl rfl) (zay rfl rfl) (zaw rfl (zbc (zah (zgv rfl ?_)))))))))))))
   (refine zjp ?_; repeat (first | refine zcx ?_ | refine zbs ?_ | refine zbe rfl ?_ | refine zb3 ?_ | refine zah ?_ | refine zbt ?_ | refine zdt ?_ | refine zes ?_))
   refine ⟨.inl rfl, ?_, _, .nil, rfl⟩
   show σ.set b _ = σ.set b _
   rw [h3]
set_option maxHeartbeats 2000000 in
theorem zu2 {a b : Nat} {σ : List Ob} {l : List En} (h : HQ σ a b l) {i0 n : Nat} (hi : i0 ≤ n) (hn : n ≤ l.length) (hl : l.length ≤ 1000000) : CallE P 122 [qIf a, eI i0, eI n] σ .any (σ.set b (.row 2 ((dnD l n i0).map eEn))) := by
 obtain ⟨R, hR⟩ : ∃ R, dnD l n i0 = R := ⟨_, rfl⟩
 rw [hR]
 refine zdz (by rw [IsP.eq (P := P)]; exact Tryz.func122) rfl rfl (Nat.le_of_ble_eq_true rfl) ?_
 refine zbt (za3 (zaw rfl (zbc (zbt (za3 (zaw rfl (zaw rfl (zbc (zbt (zes ?_))))))))))
 refine ztw (S := List En × Nat) (fun p => [(0, qIf a), (1, eI i0), (2, eI n), (7, eI p.2)]) (fun p => σ.set b (.row 2 (p.1.map eEn))) (fun p => p.1.length = l.length ∧ p.2 ≤ n ∧ dnD p.1 n p.2 = R) (fun p => n - p.2) (l, i0) ⟨rfl, rfl, rfl, rfl, trivial⟩ (zs3 h.hb).symm ⟨rfl, hi, hR⟩ (fun p hp => ?_)
 obtain ⟨l1, i⟩ := p
 obtain ⟨h1, h2, h3⟩ := hp
 replace h1 : l1.length = l.length := h1
 replace h2 : i ≤ n := h2
 replace h3 : dnD l1 n i = R := h3
 have hQ := h.set h1
 rw [zi8] at h3
 refine zes (zbt (za3 (zaw rfl (zbb rfl rfl (zaa rfl) (zkq rfl rfl rfl (IntWalk.i64_in _ (by omega))) (zbb rfl rfl (zaa rfl) (za4 rfl rfl rfl (IntWalk.i64_in _ (by omega))) (zaw rfl (zbc (zbt (zbt ?_)))))))))
 by_cases hc : 2 * i + 1 < n
 rotate_left 1
 ·
  rw [dif_neg hc] at h3
  refine za3 (zaw rfl (zaw rfl (zbb rfl rfl (zaa rfl) (zbp (by omega) (zcr rfl rfl rfl)) (zaw rfl (zhj rfl (zhj rfl (zaw rfl (zbc (zah (zgv rfl ?_))))))))))
  (refine zjp ?_; repeat (first | refine zcx ?_ | refine zbs ?_ | refine zbe rfl ?_ | refine zb3 ?_ | refine zah ?_ | refine zbt ?_ | refine zdt ?_ | refine zes ?_))
  refine za3 (zaw rfl (zaw rfl (zbb rfl rfl (zaa rfl) (za5 rfl rfl rfl) (zaw rfl (zbc (zah (zj3 [(0, qIf a)] ⟨rfl, trivial⟩ ?_)))))))
  (refine zhi ?_; repeat (first | refine za6 ?_ | refine za7 ?_))
  refine ⟨.inr rfl, ?_, _, .cons _ _ _ _ (.tmp _ _ rfl) .nil, rfl⟩
  show σ.set b _ = σ.set b _
  rw [h3]
 rw [dif_pos hc] at h3
 have hcl := zj6 (l := l1) hc
 have hA : zj9 P 144 "Less" 192 (σ.set b (.row 2 (l1.map eEn))) (.ptr a 1 0 0) (.own b 2 l1.length) := zic mLess zk2 hQ.ha rfl rfl rfl
 have hA2 : zj9 P 144 "Swap" 195 (σ.set b (.row 2 (l1.map eEn))) (.ptr a 1 0 0) (.own b 2 l1.length) := zic z2k zk2 hQ.ha rfl rfl rfl
 refine za3 (zaw rfl (zaw rfl (zbb rfl rfl (zaa rfl) (zbi (by omega) (zcr rfl rfl rfl)) (zaw rfl (zaw rfl (zbb rfl rfl (zal rfl rfl rfl) (zbi (by omega) (zaz rfl rfl rfl)) (zaw rfl (zbc (zah (zer rfl (zdt (zbt (za3 (zaw rfl (zaw rfl (zbc (zbt (zbt (za3 (zaw rfl (zbb rfl rfl (zaa rfl) (za4 rfl rfl rfl (IntWalk.i64_in _ (by omega))) (zaw rfl (zbc (zbt ?_))))))))))))))))))))))))
 have hcd : chD l1 n i = if 2 * i + 2 < n ∧ ky l1 (2 * i + 2) < ky l1 (2 * i + 1) then 2 * i + 2 else 2 * i + 1 := rfl
 have hL8 := zji (P := P) hQ.hb (i := chD l1 n i) (j := i) (by omega) (by omega) (by omega)
 have hS9 := zjh (P := P) hQ.hb (i := i) (j := chD l1 n i) (by omega) (by omega) (by omega)
 obtain ⟨j, hj⟩ : ∃ j, chD l1 n i = j := ⟨_, rfl⟩
 rw [hj] at hL8 hS9 h3 hcl hcd
 by_cases h22 : 2 * i + 2 < n
 rotate_left 1
 ·
  rw [if_neg (fun h => h22 h.1)] at hcd
  refine za3 (zaw rfl (zaw rfl (zbb rfl rfl (zaa rfl) (zbi (by omega) (zaz rfl rfl rfl)) (zaw rfl (zhj rfl (zhj rfl (zhj rfl (zhj rfl (zaw rfl (zbc (zah (zer rfl (zdt (zbt (zbt (zj3 [(0, qIf a), (1, eI i0), (2, eI n), (7, eI i), (9, eI j)] ⟨rfl, rfl, rfl, rfl, congrArg eI (by omega), trivial⟩ ?_))))))))))))))))
  by_cases hlt : ky l1 j < ky l1 i
  ·
   rw [if_pos hlt] at h3
   rw [decide_eq_true hlt] at hL8
   refine za3 (zaw rfl (zaw rfl (zaw rfl (zbb rfl rfl (zaa rfl) (zcq rfl rfl hA hL8 rfl) (zbb rfl rfl (zaa rfl) (zay rfl rfl) (zbc (zah (zer rfl (zdt (zbt (za3 (zaw rfl (zaw rfl (zaw rfl (zbb rfl rfl (zaa rfl) (zcq rfl rfl hA2 hS9 rfl) (zbc (zah (za3 (zaw rfl (zaw rfl (zbc (zb3 (zah ?_)))))))))))))))))))))))
   exact ⟨(swp l1 i j, j), ⟨by rw [zdf]; exact h1, by show j ≤ n; omega, h3⟩, by show n - j < n - i; omega, ⟨rfl, rfl, rfl, rfl, trivial⟩, List.set_set ..⟩
  ·
   rw [if_neg hlt] at h3
   rw [decide_eq_false hlt] at hL8
   refine za3 (zaw rfl (zaw rfl (zaw rfl (zbb rfl rfl (zaa rfl) (zcq rfl rfl hA hL8 rfl) (zbb rfl rfl (zaa rfl) (zay rfl rfl) (zbc (zah (zgv rfl ?_))))))))
   (refine zjp ?_; repeat (first | refine zcx ?_ | refine zbs ?_ | refine zbe rfl ?_ | refine zb3 ?_ | refine zah ?_ | refine zbt ?_ | refine zdt ?_ | refine zes ?_))
   refine za3 (zaw rfl (zaw rfl (zbb rfl rfl (zaa rfl) (za5 rfl rfl rfl) (zaw rfl (zbc (zah (zj3 [(0, qIf a)] ⟨rfl, trivial⟩ ?_)))))))
   (refine zhi ?_; repeat (first | refine za6 ?_ | refine za7 ?_))
   refine ⟨.inr rfl, ?_, _, .cons _ _ _ _ (.tmp _ _ rfl) .nil, rfl⟩
   show σ.set b _ = σ.set b _
   rw [h3]
 have hL6 := zji (P := P) hQ.hb (i := 2 * i + 2) (j := 2 * i + 1) (by omega) (by omega) (by omega)
 by_cases hk : ky l1 (2 * i + 2) < ky l1 (2 * i + 1)
 ·
  rw [if_pos ⟨h22, hk⟩] at hcd
  rw [decide_eq_true hk] at hL6
  refine za3 (zaw rfl (zaw rfl (zbb rfl rfl (zaa rfl) (zbp (by omega) (zaz rfl rfl rfl)) (zaw rfl (zaw rfl (zaw rfl (zaw rfl ?_)))))))
  refine zbb rfl rfl (zal rfl rfl rfl) (zcq rfl rfl hA hL6 (by first | rfl | (simp only [eI]; congr 3 <;> omega))) ?_
  refine zaw rfl (zbc (zah (zgv rfl (za3 (zaw rfl (zaw rfl (zbc (zbt (zbt (zj3 [(0, qIf a), (1, eI i0), (2, eI n), (7, eI i), (9, eI j)] ⟨rfl, rfl, rfl, rfl, congrArg eI (by omega), trivial⟩ ?_))))))))))
  by_cases hlt : ky l1 j < ky l1 i
  ·
   rw [if_pos hlt] at h3
   rw [decide_eq_true hlt] at hL8
   refine za3 (zaw rfl (zaw rfl (zaw rfl (zbb rfl rfl (zaa rfl) (zcq rfl rfl hA hL8 rfl) (zbb rfl rfl (zaa rfl) (zay rfl rfl) (zbc (zah (zer rfl (zdt (zbt (za3 (zaw rfl (zaw rfl (zaw rfl (zbb rfl rfl (zaa rfl) (zcq rfl rfl hA2 hS9 rfl) (zbc (zah (za3 (zaw rfl (zaw rfl (zbc (zb3 (zah ?_)))))))))))))))))))))))
   exact ⟨(swp l1 i j, j), ⟨by rw [zdf]; exact h1, by show j ≤ n; omega, h3⟩, by show n - j < n - i; omega, ⟨rfl, rfl, rfl, rfl, trivial⟩, List.set_set ..⟩
  ·
   rw [if_neg hlt] at h3
   rw [decide_eq_false hlt] at hL8
   refine za3 (zaw rfl (zaw rfl (zaw rfl (zbb rfl rfl (zaa rfl) (zcq rfl rfl hA hL8 rfl) (zbb rfl rfl (zaa rfl) (zay rfl rfl) (zbc (zah (zgv rfl ?_))))))))
   (refine zjp ?_; repeat (first | refine zcx ?_ | refine zbs ?_ | refine zbe rfl ?_ | refine zb3 ?_ | refine zah ?_ | refine zbt ?_ | refine zdt ?_ | refine zes ?_))
   refine za3 (zaw rfl (zaw rfl (zbb rfl rfl (zaa rfl) (za5 rfl rfl rfl) (zaw rfl (zbc (zah (zj3 [(0, qIf a)] ⟨rfl, trivial⟩ ?_)))))))
   (refine zhi ?_; repeat (first | refine za6 ?_ | refine za7 ?_))
   refine ⟨.inr rfl, ?_, _, .cons _ _ _ _ (.tmp _ _ rfl) .nil, rfl⟩
   show σ.set b _ = σ.set b _
   rw [h3]
 ·
  rw [if_neg (fun h => hk h.2)] at hcd
  rw [decide_eq_false hk] at hL6
  refine za3 (zaw rfl (zaw rfl (zbb rfl rfl (zaa rfl) (zbp (by omega) (zaz rfl rfl rfl)) (zaw rfl (zaw rfl (zaw rfl (zaw rfl ?_)))))))
  refine zbb rfl rfl (zal rfl rfl rfl) (zcq rfl rfl hA hL6 (by first | rfl | (simp only [eI]; congr 3 <;> omega))) ?_
  refine zaw rfl (zbc (zah (zer rfl (zdt (zbt (zbt (zj3 [(0, qIf a), (1, eI i0), (2, eI n), (7, eI i), (9, eI j)] ⟨rfl, rfl, rfl, rfl, congrArg eI (by omega), trivial⟩ ?_)))))))
  by_cases hlt : ky l1 j < ky l1 i
  ·
   rw [if_pos hlt] at h3
   rw [decide_eq_true hlt] at hL8
   refine za3 (zaw rfl (zaw rfl (zaw rfl (zbb rfl rfl (zaa rfl) (zcq rfl rfl hA hL8 rfl) (zbb rfl rfl (zaa rfl) (zay rfl rfl) (zbc (zah (zer rfl (zdt (zbt (za3 (zaw rfl (zaw rfl (zaw rfl (zbb rfl rfl (zaa rfl) (zcq rfl rfl hA2 hS9 rfl) (zbc (zah (za3 (zaw rfl (zaw rfl (zbc (zb3 (zah ?_)))))))))))))))))))))))
   exact ⟨(swp l1 i j, j), ⟨by rw [zdf]; exact h1, by show j ≤ n; omega, h3⟩, by show n - j < n - i; omega, ⟨rfl, rfl, rfl, rfl, trivial⟩, List.set_set ..⟩
  ·
   rw [if_neg hlt] at h3
   rw [decide_eq_false hlt] at hL8
   refine za3 (zaw rfl (zaw rfl (zaw rfl (zbb rfl rfl (zaa rfl) (zcq rfl rfl hA hL8 rfl) (zbb rfl rfl (zaa rfl) (zay rfl rfl) (zbc (zah (zgv rfl ?_))))))))
   (refine zjp ?_; repeat (first | refine zcx ?_ | refine zbs ?_ | refine zbe rfl ?_ | refine zb3 ?_ | refine zah ?_ | refine zbt ?_ | refine zdt ?_ | refine zes ?_))
   refine za3 (zaw rfl (zaw rfl (zbb rfl rfl (zaa rfl) (za5 rfl rfl rfl) (zaw rfl (zbc (zah (zj3 [(0, qIf a)] ⟨rfl, trivial⟩ ?_)))))))
   (refine zhi ?_; repeat (first | refine za6 ?_ | refine za7 ?_))
   refine ⟨.inr rfl, ?_, _, .cons _ _ _ _ (.tmp _ _ rfl) .nil, rfl⟩
   show σ.set b _ = σ.set b _
   rw [h3]
def z0o (σ : List Ob) (a b : Nat) (l : List En) (x : En) : List Ob := ((σ.set b .dead ++ [Ob.row 2 ((l ++ [x]).map eEn)]).set a (.row 1 [.own σ.length 2 (l.length + 1)])).set σ.length (.row 2 ((zhy l x).map eEn))
theorem zni {a b : Nat} {σ : List Ob} {l : List En} (h : HQ σ a b l) (hl : l.length ≤ 900000) (x : En) : CallE P 98 [qIf a, .ifc 146 (eEn x)] σ (.tup []) (z0o σ a b l x) := by
 have hal := (List.getElem?_eq_some_iff.1 h.ha).1
 obtain ⟨σ1, hs1⟩ : ∃ σ1, σ1 = (σ.set b .dead ++ [Ob.row 2 ((l ++ [x]).map eEn)]).set a (.row 1 [.own σ.length 2 (l.length + 1)]) := ⟨_, rfl⟩
 have hP := zun (P := P) h (by omega) x
 rw [← hs1] at hP
 have hQ : HQ σ1 a σ.length (l ++ [x]) := by
  refine ⟨?_, ?_, by omega⟩
  ·
   rw [hs1, List.getElem?_set_self (by simp; omega), List.length_append]; rfl
  ·
   rw [hs1, List.getElem?_set_ne (by omega), List.getElem?_append_right (by simp), List.length_set, Nat.sub_self]; rfl
 have hA : zj9 P 144 "Push" 194 σ (.ptr a 1 0 0) (.ptr a 1 0 0) := zwz mPush
 have hA2 : zj9 P 144 "Len" 93 σ1 (.ptr a 1 0 0) (.own σ.length 2 (l ++ [x]).length) := zic mLen zk2 hQ.ha rfl rfl rfl
 have hL := ziv (P := P) σ.length (l ++ [x]).length σ1
 have hU := zzl (P := P) hQ (j := l.length) (by simp) (by simp; omega)
 have hw : IntKind.i64.wrap (((l ++ [x]).length : Int) - 1) = (l.length : Int) := by
  rw [show (((l ++ [x]).length : Nat) : Int) - 1 = (l.length : Int) by simp]; exact IntWalk.i64_in _ (by omega)
 refine zdz (by rw [IsP.eq (P := P)]; exact Tryz.func98) rfl rfl (Nat.le_of_ble_eq_true rfl) ?_
 refine zbt (za3 (zaw rfl (zaw rfl (zbb rfl rfl (zaa rfl) (zcq rfl rfl hA hP rfl) (zbc (zah (za3 (zaw rfl (zaw rfl (zbb rfl rfl (zaa rfl) (zcq rfl rfl hA2 hL rfl) (zbb rfl rfl (zaa rfl) (zeu rfl rfl rfl hw) (zbb rfl rfl (zaa rfl) (zde rfl rfl hU rfl) (zbc ?_)))))))))))))
 refine ⟨.inl rfl, ?_, _, .nil, rfl⟩
 unfold z0o zhy
 rw [hs1]
def stPop (σ : List Ob) (a b : Nat) (l : List En) : List Ob := ((σ.set b (.row 2 ((popD l).map eEn)) ++ [Ob.row 2 [eEn (gti l 0)]]).set b (.row 2 (((popD l).take (l.length - 1)).map eEn))).set a (.row 1 [.own b 2 (l.length - 1)])
theorem zxi {a b : Nat} {σ : List Ob} {l : List En} (h : HQ σ a b l) (h0 : 0 < l.length) (hl : l.length ≤ 900000) : CallE P 94 [qIf a] σ (.ifc 146 (eEn (gti l 0))) (stPop σ a b l) := by
 have hki : (l.length : Int) - 1 = ((l.length - 1 : Nat) : Int) := by omega
 have hw : IntKind.i64.wrap ((l.length : Int) - 1) = ((l.length - 1 : Nat) : Int) := by rw [hki]; exact IntWalk.i64_in _ (by omega)
 have hA1 : zj9 P 144 "Len" 93 σ (.ptr a 1 0 0) (.own b 2 l.length) := zic mLen zk2 h.ha rfl rfl rfl
 have hL := ziv (P := P) b l.length σ
 have hA2 : zj9 P 144 "Swap" 195 σ (.ptr a 1 0 0) (.own b 2 l.length) := zic z2k zk2 h.ha rfl rfl rfl
 have hS := zjh (P := P) h.hb (i := 0) (j := l.length - 1) h0 (by omega) (by omega)
 have hQ1 := h.set (l' := swp l 0 (l.length - 1)) (zdf ..)
 have hD := zu2 (P := P) hQ1 (i0 := 0) (n := l.length - 1) (Nat.zero_le _) (by rw [zdf]; omega) (by rw [zdf]; omega)
 rw [List.set_set] at hD
 have hpd : dnD (swp l 0 (l.length - 1)) (l.length - 1) 0 = popD l := rfl
 rw [hpd] at hD
 have hQ2 := h.set (l' := popD l) zf1
 have hA3 : zj9 P 144 "Pop" 193 (σ.set b (.row 2 ((popD l).map eEn))) (.ptr a 1 0 0) (.ptr a 1 0 0) := zwz mPop
 have hP := zwh (P := P) hQ2 (by rw [zf1]; exact h0) (by rw [zf1]; omega)
 rw [zf1, z18 h0] at hP
 refine zdz (by rw [IsP.eq (P := P)]; exact Tryz.func94) rfl rfl (Nat.le_of_ble_eq_true rfl) ?_
 refine zbt (za3 (zaw rfl (zbc (zbt (za3 (zaw rfl (zbb rfl rfl (zaa rfl) (zcq rfl rfl hA1 hL rfl) (zbb rfl rfl (zaa rfl) (zeu rfl rfl rfl hw) (zaw rfl (zbc (zbt (za3 (zaw rfl (zaw rfl (zbb rfl rfl (zaa rfl) (zcq rfl rfl hA2 hS rfl) (zbc (zbt (za3 (zaw rfl (zaw rfl (zbb rfl rfl (zaa rfl) (zde rfl rfl hD rfl) (zbc (zbt (za3 (zaw rfl (zbb rfl rfl (zaa rfl) (zcq rfl rfl hA3 hP rfl) (zaw rfl (zbc (zah ?_)))))))))))))))))))))))))))))
 (refine zhi ?_; repeat (first | refine za6 ?_ | refine za7 ?_))
 exact ⟨.inr rfl, rfl, _, .cons _ _ _ _ (.tmp _ _ rfl) .nil, rfl⟩
end Go.Proofs.YtohmldibkojkfaaGreatDoor.Aw
end
