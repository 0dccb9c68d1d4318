import Derived.Test.YtohmldibkojkfaaGreatDoorJA21
import Derived.Test.YtohmldibkojkfaaGreatDoorJA10
import Derived.Test.YtohmldibkojkfaaGreatDoorJA16
import Derived.Test.YtohmldibkojkfaaGreatDoorJA24
import Derived.Test.YtohmldibkojkfaaGreatDoorJA33
set_option linter.unusedSimpArgs false
set_option linter.unusedVariables false
set_option linter.unusedSectionVars false
section
namespace Go.Proofs.YtohmldibkojkfaaGreatDoor.Aw
open Go Go.RowKit Go.Proofs Dl
variable {P : Program} [IsP P]
def eEn (e : En) : AV := .agg [eI e.1, eI e.2]
structure HQ (σ : List Ob) (a b : Nat) (l : List En) : Prop where
 ha : σ[a]? = some (.row 1 [.own b 2 l.length])
 hb : σ[b]? = some (.row 2 (l.map eEn))
 ne : a ≠ b
theorem HQ.set {σ : List Ob} {a b : Nat} {l l' : List En} (h : HQ σ a b l) (hl : l'.length = l.length) : HQ (σ.set b (.row 2 (l'.map eEn))) a b l' := by
 have hbl := (List.getElem?_eq_some_iff.1 h.hb).1
 exact ⟨by rw [List.getElem?_set_ne (fun e => h.ne e.symm), hl]; exact h.ha, List.getElem?_set_self hbl, h.ne⟩
theorem zrf {l : List En} {i : Nat} (h : i < l.length) : (l.map eEn)[i]? = some (eEn (gti l i)) := by rw [List.getElem?_map, zbp h]; rfl
theorem zil (b m : Nat) (σ : List Ob) : CallE P 93 [.own b 2 m] σ (eI m) σ := by
 refine zea (by rw [IsP.eq (P := P)]; exact Tryz.func93) rfl rfl (Nat.le_of_ble_eq_true rfl) ?_
 refine zbo (za1 (zau rfl (zba (zbo (za1 (zau rfl (za8 rfl rfl (zaa rfl) (zdg rfl zih rfl) (zau rfl (zba (zah ?_))))))))))
 (refine zhh ?_; repeat (first | refine za6 ?_ | refine za7 ?_))
 exact ⟨.inr rfl, rfl, _, .cons _ _ _ _ (.tmp _ _ rfl) .nil, rfl⟩
theorem zi8 {b : Nat} {σ : List Ob} {l : List En} (hb : σ[b]? = some (.row 2 (l.map eEn))) {i j : Nat} (hi : i < l.length) (hj : j < l.length) (hl : l.length ≤ 1000000) : CallE P 192 [.own b 2 l.length, eI i, eI j] σ (eB (decide (ky l i < ky l j))) σ := by
 refine zea (by rw [IsP.eq (P := P)]; exact Tryz.func192) rfl rfl (Nat.le_of_ble_eq_true rfl) ?_
 refine zbo (za1 (zau rfl (zba (zbo ?_))))
 refine zf1 hmix ?_
 refine zez ?_
 refine ex_s rfl (ex_s rfl (zcd rfl rfl (zaa rfl) (fun _ => (zas rfl zih zfa rfl rfl rfl hi)) (ex_f zgi rfl (zc2 rfl rfl (zaa rfl) (zdj rfl ta3 rfl hb rfl (zrf hi) rfl) (ex_s rfl (ex_s rfl (zcd rfl rfl (zaa rfl) (fun _ => (zas rfl zih zfa rfl rfl rfl hj)) (ex_f zgi rfl (zc2 rfl rfl (zaa rfl) (zdj rfl ta3 rfl hb rfl (zrf hj) rfl) (zcd rfl rfl (zaa rfl) (fun _ => (zaz rfl rfl rfl)) (ex_s rfl ?_)))))))))))
 refine zrc (by kernel_rfl) ?_
 refine zah ?_
 (refine zhh ?_; repeat (first | refine za6 ?_ | refine za7 ?_))
 exact ⟨.inr rfl, rfl, _, .cons _ _ _ _ (.tmp _ _ rfl) .nil, rfl⟩
theorem zi7 {b : Nat} {σ : List Ob} {l : List En} (hb : σ[b]? = some (.row 2 (l.map eEn))) {i j : Nat} (hi : i < l.length) (hj : j < l.length) (hl : l.length ≤ 1000000) : CallE P 195 [.own b 2 l.length, eI i, eI j] σ (.tup []) (σ.set b (.row 2 ((swp l i j).map eEn))) := by
 have hbl := (List.getElem?_eq_some_iff.1 hb).1
 have h1 : (σ.set b (.row 2 ((l.map eEn).set i (putC (eEn (gti l i)) 0 (eEn (gti l j)).cells))))[b]? = some (.row 2 ((l.set i (gti l j)).map eEn)) := by
  rw [List.getElem?_set_self hbl, List.map_set]; rfl
 have hj1 : j < (l.set i (gti l j)).length := by simpa using hj
 refine zea (by rw [IsP.eq (P := P)]; exact Tryz.func195) rfl rfl (Nat.le_of_ble_eq_true rfl) ?_
 refine zf1 hmix ?_
 refine zez ?_
 refine ex_s rfl (ex_s rfl (ex_s rfl (ex_s rfl (ex_s rfl (ex_s rfl (zcd rfl rfl (zaa rfl) (fun _ => (zas rfl zih zfa rfl rfl rfl hj)) (zc2 rfl rfl (zaa rfl) (zhr rfl zym zfa rfl hb rfl (zrf hj) rfl) (ex_s rfl (ex_s rfl (zcd rfl rfl (zaa rfl) (fun _ => (zas rfl zih zfa rfl rfl rfl hi)) (zc2 rfl rfl (zaa rfl) (zhr rfl zym zfa rfl hb rfl (zrf hi) rfl) (zcd rfl rfl (zaa rfl) (fun _ => (zas rfl zih zfa rfl rfl rfl hi)) ?_))))))))))))
 refine ze7 rfl (zaa rfl) (za0 rfl zfa rfl rfl hb (zrf hi) rfl rfl (by decide) (by decide)) (fun _ h => zc9 h) ?_
 refine zcd rfl rfl (zaa rfl) (fun _ => (zas rfl zih zfa rfl rfl rfl hj)) ?_
 refine ze7 rfl (zaa rfl) (za0 rfl zfa rfl rfl h1 (zrf hj1) rfl rfl (by decide) (by decide)) (fun _ h => zc9 h) ?_
 refine zrc (by kernel_rfl) ?_
 refine ⟨.inl rfl, ?_, _, .nil, rfl⟩
 rw [List.set_set]
 unfold swp
 rw [List.map_set (i := j)]
 rfl
theorem ztx {a b : Nat} {σ : List Ob} {l : List En} (h : HQ σ a b l) (hl : l.length ≤ 1000000) (x : En) : CallE P 194 [.ptr a 1 0 0, .ifc 146 (eEn x)] σ (.tup []) ((σ.set b .dead ++ [Ob.row 2 ((l ++ [x]).map eEn)]).set a (.row 1 [.own σ.length 2 (l.length + 1)])) := by
 obtain ⟨ha, hb, hne⟩ := h
 have hal := (List.getElem?_eq_some_iff.1 ha).1
 have hlm : (l.map eEn).length = l.length := List.length_map _
 have hst : (σ.set b .dead ++ [Ob.row 2 (l.map eEn ++ [eEn x])])[a]? = some (.row 1 [.own b 2 l.length]) := by
  rw [List.getElem?_append_left (by simpa using hal), List.getElem?_set_ne (fun e => hne e.symm)]; exact ha
 refine zea (by rw [IsP.eq (P := P)]; exact Tryz.func194) rfl rfl (Nat.le_of_ble_eq_true rfl) ?_
 refine zf1 hmix ?_
 refine zez ?_
 refine ex_s rfl (ex_s rfl (ex_s rfl (zc2 rfl rfl (zaa rfl) (zdj rfl zkp rfl ha rfl rfl rfl) (ex_s rfl ?_))))
 refine zcd rfl rfl (zaa rfl) (fun _ => (zjs rfl (by rw [IsP.eq (P := P)]; kernel_rfl) rfl)) ?_
 refine zcd rfl rfl (zaa rfl) (fun _ => (zgc rfl zih zfa rfl rfl (by decide) (by decide) rfl rfl rfl (.agg _ (zaj (.s _) (zaj (.s _) zbb))))) ?_
 refine zlj rfl rfl (zaa rfl) (zc6 rfl zih zfa rfl (by decide) rfl hb hlm.symm rfl (.sl _ (by intro e he; simp at he; subst he; rfl)) (by unfold maxLen; simp; omega) (by simp; omega)) (fun _ h => zev h) ?_
 refine ex_s rfl ?_
 refine ze7 rfl (zaa rfl) (za0 rfl ti148 rfl rfl hst rfl rfl rfl (by decide) (by decide)) (fun _ h => zc9 h) ?_
 refine zrc (by kernel_rfl) ?_
 refine ⟨.inl rfl, ?_, _, .nil, rfl⟩
 show (σ.set b .dead ++ [Ob.row 2 (l.map eEn ++ [eEn x])]).set a (.row 1 [.own σ.length 2 ((l.map eEn).length + 1)]) = _
 rw [hlm, List.map_append]
 rfl
theorem zvy {a b : Nat} {σ : List Ob} {l : List En} (h : HQ σ a b l) (h0 : 0 < l.length) (hl : l.length ≤ 1000000) : CallE P 193 [.ptr a 1 0 0] σ (.ifc 146 (eEn (gti l (l.length - 1)))) (((σ ++ [Ob.row 2 [eEn (gti l (l.length - 1))]]).set b (.row 2 ((l.take (l.length - 1)).map eEn))).set a (.row 1 [.own b 2 (l.length - 1)])) := by
 obtain ⟨ha, hb, hne⟩ := h
 have hal := (List.getElem?_eq_some_iff.1 ha).1
 have hbl := (List.getElem?_eq_some_iff.1 hb).1
 have hk : l.length - 1 < l.length := by omega
 have hki : (l.length : Int) - 1 = ((l.length - 1 : Nat) : Int) := by omega
 refine zea (by rw [IsP.eq (P := P)]; exact Tryz.func193) rfl rfl (Nat.le_of_ble_eq_true rfl) ?_
 refine zbo (za1 (zau rfl (zba (zbo (za1 (zau rfl (zau rfl (za8 rfl rfl (zaa rfl) (zao rfl zkp rfl ha rfl rfl rfl) (zau rfl (zba (zbo (za1 (zau rfl (zau rfl (za8 rfl rfl (zaa rfl) (zdg rfl zih rfl) (za8 rfl rfl (zaa rfl) (zcw rfl rfl rfl (IntWalk.i64_in _ (by omega))) (za8 rfl rfl (zaa rfl) (zas rfl zih zfa rfl rfl hki hk) (za8 rfl rfl (zaa rfl) (zb0 rfl zym zfa rfl hb rfl (zrf hk) rfl) (za8 rfl rfl (zaa rfl) (zbw rfl zfa rfl rfl) ?_)))))))))))))))))))
 refine zsz rfl (zaa rfl) (za0 rfl zfa rfl rfl (by rw [List.getElem?_append_right (Nat.le_refl _), Nat.sub_self]; rfl) rfl rfl rfl (by decide) (by decide)) ?_
 refine zba (zbo ?_)
 have hw : IntKind.i64.wrap ((l.length : Int) - 1) = ((l.length - 1 : Nat) : Int) := by rw [hki]; exact IntWalk.i64_in _ (by omega)
 obtain ⟨z, hz⟩ : ∃ z, z = gti l (l.length - 1) := ⟨_, rfl⟩
 obtain ⟨σ1, hs1⟩ : ∃ σ1, σ1 = (σ ++ [Ob.row 2 [AV.agg [eI 0, eI 0]]]).set σ.length (.row 2 ([AV.agg [eI 0, eI 0]].set 0 (putC (AV.agg [eI 0, eI 0]) 0 (eEn z).cells))) := ⟨_, rfl⟩
 have hb2 : σ1[b]? = some (.row 2 (l.map eEn)) := by
  rw [hs1, List.getElem?_set_ne (by omega), List.getElem?_append_left hbl]; exact hb
 have ha2 : (σ1.set b (.row 2 ((l.map eEn).take (l.length - 1))))[a]? = some (.row 1 [.own b 2 l.length]) := by
  rw [List.getElem?_set_ne (fun e => hne e.symm), hs1, List.getElem?_set_ne (by omega), List.getElem?_append_left hal]; exact ha
 have hc2 : ((σ1.set b (.row 2 ((l.map eEn).take (l.length - 1)))).set a (.row 1 ([AV.own b 2 l.length].set 0 (putC (.own b 2 l.length) 0 (AV.own b 2 (l.length - 1)).cells))))[σ.length]? = some (.row 2 [eEn z]) := by
  rw [List.getElem?_set_ne (by omega), List.getElem?_set_ne (by omega), hs1, List.getElem?_set_self (by simp)]; rfl
 have he : σ1 = σ ++ [Ob.row 2 [eEn z]] := by
  rw [hs1, List.set_append_right _ _ (Nat.le_refl _), Nat.sub_self]; rfl
 refine ew_st (σ' := σ1) (by rw [hs1, hz]; rfl) ?_
 rw [← hz]
 clear hs1
 refine za1 (zau rfl (zau rfl (zau rfl (za8 rfl rfl (zaa rfl) (zdg rfl zih rfl) (za8 rfl rfl (zaa rfl) (zcw rfl rfl rfl hw) (za8 rfl rfl (zaa rfl) (zn1 rfl zih zfa rfl rfl h0 rfl rfl (by omega) hb2) (zau rfl (zsz rfl (zaa rfl) (za0 rfl ti148 rfl rfl ha2 rfl rfl rfl (by decide) (by decide)) (zba (zbo (za1 (za8 rfl rfl (zaa rfl) (zb0 rfl zym zfa rfl hc2 rfl rfl rfl) ?_))))))))))))
 refine za8 rfl rfl (zaa rfl) (zgb rfl (by rw [IsP.eq (P := P)]; kernel_rfl) rfl) ?_
 refine zau rfl (zba (zah ?_))
 (refine zhh ?_; repeat (first | refine za6 ?_ | refine za7 ?_))
 refine ⟨.inr rfl, ?_, _, .cons _ _ _ _ (.tmp _ _ rfl) .nil, rfl⟩
 rw [he, List.map_take]
 rfl
end Go.Proofs.YtohmldibkojkfaaGreatDoor.Aw
end
section
namespace Go.Proofs.YtohmldibkojkfaaGreatDoor.Aw
open Go Go.RowKit Go.Proofs Dl
variable {P : Program} [IsP P]
theorem mLen : MethV P 144 "Len" 93 148 := ⟨fun a w => by rw [IsP.eq (P := P)]; kernel_rfl⟩
theorem mLess : MethV P 144 "Less" 192 148 := ⟨fun a w => by rw [IsP.eq (P := P)]; kernel_rfl⟩
theorem z2d : MethV P 144 "Swap" 195 148 := ⟨fun a w => by rw [IsP.eq (P := P)]; kernel_rfl⟩
theorem mPush : MethP P 144 "Push" 194 := ⟨fun a w => by rw [IsP.eq (P := P)]; kernel_rfl⟩
theorem mPop : MethP P 144 "Pop" 193 := ⟨fun a w => by rw [IsP.eq (P := P)]; kernel_rfl⟩
theorem zr2 {σ : List Ob} {b : Nat} {x : Ob} (h : σ[b]? = some x) : σ.set b x = σ := by
 obtain ⟨hb, h1⟩ := List.getElem?_eq_some_iff.1 h
 rw [← h1]; exact List.set_getElem_self hb
def qIf (a : Nat) : AV := .ifc 144 (.ptr a 1 0 0)
set_option maxHeartbeats 1000000 in
theorem zza {a b : Nat} {σ : List Ob} {l : List En} (h : HQ σ a b l) {j : Nat} (hj : j < l.length) (hl : l.length ≤ 1000000) : CallE P 132 [qIf a, eI j] σ (.tup []) (σ.set b (.row 2 ((upD l j).map eEn))) := by
 obtain ⟨R, hR⟩ : ∃ R, upD l j = R := ⟨_, rfl⟩
 rw [hR]
 refine zea (by rw [IsP.eq (P := P)]; exact Tryz.func132) rfl rfl (Nat.le_of_ble_eq_true rfl) ?_
 refine zey ?_
 refine zsx (S := List En × Nat) (fun p => [(0, qIf a), (1, eI p.2)]) (fun p => σ.set b (.row 2 (p.1.map eEn))) (fun p => p.1.length = l.length ∧ p.2 < l.length ∧ upD p.1 p.2 = R) (fun p => p.2) (l, j) ⟨rfl, rfl, trivial⟩ (zr2 h.hb).symm ⟨rfl, hj, hR⟩ (fun p hp => ?_)
 obtain ⟨l1, j⟩ := p
 obtain ⟨h1, h2, h3⟩ := hp
 replace h1 : l1.length = l.length := h1
 replace h2 : j < l.length := h2
 replace h3 : upD l1 j = R := h3
 have hQ := h.set h1
 rw [zrx] at h3
 have hq : IntKind.i64.wrap (((j : Int) - 1).tdiv 2) = (((j - 1) / 2 : Nat) : Int) := by
  have : ((j : Int) - 1).tdiv 2 = (((j - 1) / 2 : Nat) : Int) := by
   by_cases h0 : j = 0
   ·
    subst h0; rfl
   ·
    rw [show (j : Int) - 1 = ((j - 1 : Nat) : Int) by omega]; rfl
  rw [this]; exact IntWalk.i64_in _ (by omega)
 refine zey (zbo (za1 (zau rfl (za8 rfl rfl (zaa rfl) (zcw rfl rfl rfl (IntWalk.i64_in _ (by omega))) (za8 rfl rfl (zaa rfl) (zs1 rfl rfl rfl (by omega) hq) (zau rfl (zba (zbo (zbo ?_)))))))))
 by_cases h0 : j = 0
 ·
  rw [dif_pos h0] at h3
  have heq : ((((j - 1) / 2 : Nat) : Int)) = (j : Int) := by omega
  refine za1 (zau rfl (zau rfl (za8 rfl rfl (zaa rfl) (zbn heq (zb5 rfl rfl rfl)) (zau rfl (zhi rfl (zhi rfl (zhi rfl (zhi rfl (zhi rfl (zau rfl (zba (zah (zgs rfl ?_)))))))))))))
  (refine zjd ?_; repeat (first | refine zdn ?_ | refine zb7 ?_ | refine zbs rfl ?_ | refine zb8 ?_ | refine zah ?_ | refine zbo ?_ | refine zd3 ?_ | refine zey ?_))
  refine ⟨.inl rfl, ?_, _, .nil, rfl⟩
  show σ.set b _ = σ.set b _
  rw [h3]
 ·
  rw [dif_neg h0] at h3
  have hne : ¬ ((((j - 1) / 2 : Nat) : Int)) = (j : Int) := by omega
  have hi : (j - 1) / 2 < l1.length := by omega
  have hL := zi8 (P := P) hQ.hb (i := j) (j := (j - 1) / 2) (by omega) hi (by omega)
  have hS := zi7 (P := P) hQ.hb (i := (j - 1) / 2) (j := j) hi (by omega) (by omega)
  have hA : zj0 P 144 "Less" 192 (σ.set b (.row 2 (l1.map eEn))) (.ptr a 1 0 0) (.own b 2 l1.length) := zia mLess zkp hQ.ha rfl rfl rfl
  have hA2 : zj0 P 144 "Swap" 195 (σ.set b (.row 2 (l1.map eEn))) (.ptr a 1 0 0) (.own b 2 l1.length) := zia z2d zkp hQ.ha rfl rfl rfl
  by_cases hlt : ky l1 j < ky l1 ((j - 1) / 2)
  ·
   rw [if_pos hlt] at h3
   rw [decide_eq_true hlt] at hL
   refine za1 (zau rfl (zau rfl (za8 rfl rfl (zaa rfl) (zbj hne (zb5 rfl rfl rfl)) (zau rfl (zau rfl (zau rfl (zau rfl (za8 rfl rfl (zan rfl rfl rfl) (zcl rfl rfl hA hL rfl) (za8 rfl rfl (zan rfl rfl rfl) (zay rfl rfl) (zau rfl (zba (zah (zex rfl (zd3 (zbo (za1 (zau rfl (zau rfl (zau rfl (za8 rfl rfl (zaa rfl) (zcl rfl rfl hA2 hS rfl) (zba (zah (za1 (zau rfl (zau rfl (zba (zb8 (zah ?_))))))))))))))))))))))))))))
   exact ⟨(swp l1 ((j - 1) / 2) j, (j - 1) / 2), ⟨by rw [zdi]; exact h1, by show (j - 1) / 2 < l.length; omega, h3⟩, by show (j - 1) / 2 < j; omega, ⟨rfl, rfl, trivial⟩, List.set_set ..⟩
  ·
   rw [if_neg hlt] at h3
   rw [decide_eq_false hlt] at hL
   refine za1 (zau rfl (zau rfl (za8 rfl rfl (zaa rfl) (zbj hne (zb5 rfl rfl rfl)) (zau rfl (zau rfl (zau rfl (zau rfl (za8 rfl rfl (zan rfl rfl rfl) (zcl rfl rfl hA hL rfl) (za8 rfl rfl (zan rfl rfl rfl) (zay rfl rfl) (zau rfl (zba (zah (zgs rfl ?_)))))))))))))
   (refine zjd ?_; repeat (first | refine zdn ?_ | refine zb7 ?_ | refine zbs rfl ?_ | refine zb8 ?_ | refine zah ?_ | refine zbo ?_ | refine zd3 ?_ | refine zey ?_))
   refine ⟨.inl rfl, ?_, _, .nil, rfl⟩
   show σ.set b _ = σ.set b _
   rw [h3]
set_option maxHeartbeats 2000000 in
theorem zud {a b : Nat} {σ : List Ob} {l : List En} (h : HQ σ a b l) {i0 n : Nat} (hi : i0 ≤ n) (hn : n ≤ l.length) (hl : l.length ≤ 1000000) : CallE P 122 [qIf a, eI i0, eI n] σ .any (σ.set b (.row 2 ((dnD l n i0).map eEn))) := by
 obtain ⟨R, hR⟩ : ∃ R, dnD l n i0 = R := ⟨_, rfl⟩
 rw [hR]
 refine zea (by rw [IsP.eq (P := P)]; exact Tryz.func122) rfl rfl (Nat.le_of_ble_eq_true rfl) ?_
 refine zbo (za1 (zau rfl (zba (zbo (za1 (zau rfl (zau rfl (zba (zbo (zey ?_))))))))))
 refine zsx (S := List En × Nat) (fun p => [(0, qIf a), (1, eI i0), (2, eI n), (7, eI p.2)]) (fun p => σ.set b (.row 2 (p.1.map eEn))) (fun p => p.1.length = l.length ∧ p.2 ≤ n ∧ dnD p.1 n p.2 = R) (fun p => n - p.2) (l, i0) ⟨rfl, rfl, rfl, rfl, trivial⟩ (zr2 h.hb).symm ⟨rfl, hi, hR⟩ (fun p hp => ?_)
 obtain ⟨l1, i⟩ := p
 obtain ⟨h1, h2, h3⟩ := hp
 replace h1 : l1.length = l.length := h1
 replace h2 : i ≤ n := h2
 replace h3 : dnD l1 n i = R := h3
 have hQ := h.set h1
 rw [zi1] at h3
 refine zey (zbo (za1 (zau rfl (za8 rfl rfl (zaa rfl) (zgu rfl rfl rfl (IntWalk.i64_in _ (by omega))) (za8 rfl rfl (zaa rfl) (za9 rfl rfl rfl (IntWalk.i64_in _ (by omega))) (zau rfl (zba (zbo (zbo ?_)))))))))
 by_cases hc : 2 * i + 1 < n
 rotate_left 1
 ·
  rw [dif_neg hc] at h3
  refine za1 (zau rfl (zau rfl (za8 rfl rfl (zaa rfl) (zbn (by omega) (zcx rfl rfl rfl)) (zau rfl (zhi rfl (zhi rfl (zau rfl (zba (zah (zgs rfl ?_))))))))))
  (refine zjd ?_; repeat (first | refine zdn ?_ | refine zb7 ?_ | refine zbs rfl ?_ | refine zb8 ?_ | refine zah ?_ | refine zbo ?_ | refine zd3 ?_ | refine zey ?_))
  refine za1 (zau rfl (zau rfl (za8 rfl rfl (zaa rfl) (za4 rfl rfl rfl) (zau rfl (zba (zah (zjq [(0, qIf a)] ⟨rfl, trivial⟩ ?_)))))))
  (refine zhh ?_; repeat (first | refine za6 ?_ | refine za7 ?_))
  refine ⟨.inr rfl, ?_, _, .cons _ _ _ _ (.tmp _ _ rfl) .nil, rfl⟩
  show σ.set b _ = σ.set b _
  rw [h3]
 rw [dif_pos hc] at h3
 have hcl := zjt (l := l1) hc
 have hA : zj0 P 144 "Less" 192 (σ.set b (.row 2 (l1.map eEn))) (.ptr a 1 0 0) (.own b 2 l1.length) := zia mLess zkp hQ.ha rfl rfl rfl
 have hA2 : zj0 P 144 "Swap" 195 (σ.set b (.row 2 (l1.map eEn))) (.ptr a 1 0 0) (.own b 2 l1.length) := zia z2d zkp hQ.ha rfl rfl rfl
 refine za1 (zau rfl (zau rfl (za8 rfl rfl (zaa rfl) (zbj (by omega) (zcx rfl rfl rfl)) (zau rfl (zau rfl (za8 rfl rfl (zan rfl rfl rfl) (zbj (by omega) (zaz rfl rfl rfl)) (zau rfl (zba (zah (zex rfl (zd3 (zbo (za1 (zau rfl (zau rfl (zba (zbo (zbo (za1 (zau rfl (za8 rfl rfl (zaa rfl) (za9 rfl rfl rfl (IntWalk.i64_in _ (by omega))) (zau rfl (zba (zbo ?_))))))))))))))))))))))))
 have hcd : chD l1 n i = if 2 * i + 2 < n ∧ ky l1 (2 * i + 2) < ky l1 (2 * i + 1) then 2 * i + 2 else 2 * i + 1 := rfl
 have hL8 := zi8 (P := P) hQ.hb (i := chD l1 n i) (j := i) (by omega) (by omega) (by omega)
 have hS9 := zi7 (P := P) hQ.hb (i := i) (j := chD l1 n i) (by omega) (by omega) (by omega)
 obtain ⟨j, hj⟩ : ∃ j, chD l1 n i = j := ⟨_, rfl⟩
 rw [hj] at hL8 hS9 h3 hcl hcd
 by_cases h22 : 2 * i + 2 < n
 rotate_left 1
 ·
  rw [if_neg (fun h => h22 h.1)] at hcd
  refine za1 (zau rfl (zau rfl (za8 rfl rfl (zaa rfl) (zbj (by omega) (zaz rfl rfl rfl)) (zau rfl (zhi rfl (zhi rfl (zhi rfl (zhi rfl (zau rfl (zba (zah (zex rfl (zd3 (zbo (zbo (zjq [(0, qIf a), (1, eI i0), (2, eI n), (7, eI i), (9, eI j)] ⟨rfl, rfl, rfl, rfl, congrArg eI (by omega), trivial⟩ ?_))))))))))))))))
  by_cases hlt : ky l1 j < ky l1 i
  ·
   rw [if_pos hlt] at h3
   rw [decide_eq_true hlt] at hL8
   refine za1 (zau rfl (zau rfl (zau rfl (za8 rfl rfl (zaa rfl) (zcl rfl rfl hA hL8 rfl) (za8 rfl rfl (zaa rfl) (zay rfl rfl) (zba (zah (zex rfl (zd3 (zbo (za1 (zau rfl (zau rfl (zau rfl (za8 rfl rfl (zaa rfl) (zcl rfl rfl hA2 hS9 rfl) (zba (zah (za1 (zau rfl (zau rfl (zba (zb8 (zah ?_)))))))))))))))))))))))
   exact ⟨(swp l1 i j, j), ⟨by rw [zdi]; exact h1, by show j ≤ n; omega, h3⟩, by show n - j < n - i; omega, ⟨rfl, rfl, rfl, rfl, trivial⟩, List.set_set ..⟩
  ·
   rw [if_neg hlt] at h3
   rw [decide_eq_false hlt] at hL8
   refine za1 (zau rfl (zau rfl (zau rfl (za8 rfl rfl (zaa rfl) (zcl rfl rfl hA hL8 rfl) (za8 rfl rfl (zaa rfl) (zay rfl rfl) (zba (zah (zgs rfl ?_))))))))
   (refine zjd ?_; repeat (first | refine zdn ?_ | refine zb7 ?_ | refine zbs rfl ?_ | refine zb8 ?_ | refine zah ?_ | refine zbo ?_ | refine zd3 ?_ | refine zey ?_))
   refine za1 (zau rfl (zau rfl (za8 rfl rfl (zaa rfl) (za4 rfl rfl rfl) (zau rfl (zba (zah (zjq [(0, qIf a)] ⟨rfl, trivial⟩ ?_)))))))
   (refine zhh ?_; repeat (first | refine za6 ?_ | refine za7 ?_))
   refine ⟨.inr rfl, ?_, _, .cons _ _ _ _ (.tmp _ _ rfl) .nil, rfl⟩
   show σ.set b _ = σ.set b _
   rw [h3]
 have hL6 := zi8 (P := P) hQ.hb (i := 2 * i + 2) (j := 2 * i + 1) (by omega) (by omega) (by omega)
 by_cases hk : ky l1 (2 * i + 2) < ky l1 (2 * i + 1)
 ·
  rw [if_pos ⟨h22, hk⟩] at hcd
  rw [decide_eq_true hk] at hL6
  refine za1 (zau rfl (zau rfl (za8 rfl rfl (zaa rfl) (zbn (by omega) (zaz rfl rfl rfl)) (zau rfl (zau rfl (zau rfl (zau rfl ?_)))))))
  refine za8 rfl rfl (zan rfl rfl rfl) (zcl rfl rfl hA hL6 (by first | rfl | (simp only [eI]; congr 3 <;> omega))) ?_
  refine zau rfl (zba (zah (zgs rfl (za1 (zau rfl (zau rfl (zba (zbo (zbo (zjq [(0, qIf a), (1, eI i0), (2, eI n), (7, eI i), (9, eI j)] ⟨rfl, rfl, rfl, rfl, congrArg eI (by omega), trivial⟩ ?_))))))))))
  by_cases hlt : ky l1 j < ky l1 i
  ·
   rw [if_pos hlt] at h3
   rw [decide_eq_true hlt] at hL8
   refine za1 (zau rfl (zau rfl (zau rfl (za8 rfl rfl (zaa rfl) (zcl rfl rfl hA hL8 rfl) (za8 rfl rfl (zaa rfl) (zay rfl rfl) (zba (zah (zex rfl (zd3 (zbo (za1 (zau rfl (zau rfl (zau rfl (za8 rfl rfl (zaa rfl) (zcl rfl rfl hA2 hS9 rfl) (zba (zah (za1 (zau rfl (zau rfl (zba (zb8 (zah ?_)))))))))))))))))))))))
   exact ⟨(swp l1 i j, j), ⟨by rw [zdi]; exact h1, by show j ≤ n; omega, h3⟩, by show n - j < n - i; omega, ⟨rfl, rfl, rfl, rfl, trivial⟩, List.set_set ..⟩
  ·
   rw [if_neg hlt] at h3
   rw [decide_eq_false hlt] at hL8
   refine za1 (zau rfl (zau rfl (zau rfl (za8 rfl rfl (zaa rfl) (zcl rfl rfl hA hL8 rfl) (za8 rfl rfl (zaa rfl) (zay rfl rfl) (zba (zah (zgs rfl ?_))))))))
   (refine zjd ?_; repeat (first | refine zdn ?_ | refine zb7 ?_ | refine zbs rfl ?_ | refine zb8 ?_ | refine zah ?_ | refine zbo ?_ | refine zd3 ?_ | refine zey ?_))
   refine za1 (zau rfl (zau rfl (za8 rfl rfl (zaa rfl) (za4 rfl rfl rfl) (zau rfl (zba (zah (zjq [(0, qIf a)] ⟨rfl, trivial⟩ ?_)))))))
   (refine zhh ?_; repeat (first | refine za6 ?_ | refine za7 ?_))
   refine ⟨.inr rfl, ?_, _, .cons _ _ _ _ (.tmp _ _ rfl) .nil, rfl⟩
   show σ.set b _ = σ.set b _
   rw [h3]
 ·
  rw [if_neg (fun h => hk h.2)] at hcd
  rw [decide_eq_false hk] at hL6
  refine za1 (zau rfl (zau rfl (za8 rfl rfl (zaa rfl) (zbn (by omega) (zaz rfl rfl rfl)) (zau rfl (zau rfl (zau rfl (zau rfl ?_)))))))
  refine za8 rfl rfl (zan rfl rfl rfl) (zcl rfl rfl hA hL6 (by first | rfl | (simp only [eI]; congr 3 <;> omega))) ?_
  refine zau rfl (zba (zah (zex rfl (zd3 (zbo (zbo (zjq [(0, qIf a), (1, eI i0), (2, eI n), (7, eI i), (9, eI j)] ⟨rfl, rfl, rfl, rfl, congrArg eI (by omega), trivial⟩ ?_)))))))
  by_cases hlt : ky l1 j < ky l1 i
  ·
   rw [if_pos hlt] at h3
   rw [decide_eq_true hlt] at hL8
   refine za1 (zau rfl (zau rfl (zau rfl (za8 rfl rfl (zaa rfl) (zcl rfl rfl hA hL8 rfl) (za8 rfl rfl (zaa rfl) (zay rfl rfl) (zba (zah (zex rfl (zd3 (zbo (za1 (zau rfl (zau rfl (zau rfl (za8 rfl rfl (zaa rfl) (zcl rfl rfl hA2 hS9 rfl) (zba (zah (za1 (zau rfl (zau rfl (zba (zb8 (zah ?_)))))))))))))))))))))))
   exact ⟨(swp l1 i j, j), ⟨by rw [zdi]; exact h1, by show j ≤ n; omega, h3⟩, by show n - j < n - i; omega, ⟨rfl, rfl, rfl, rfl, trivial⟩, List.set_set ..⟩
  ·
   rw [if_neg hlt] at h3
   rw [decide_eq_false hlt] at hL8
   refine za1 (zau rfl (zau rfl (zau rfl (za8 rfl rfl (zaa rfl) (zcl rfl rfl hA hL8 rfl) (za8 rfl rfl (zaa rfl) (zay rfl rfl) (zba (zah (zgs rfl ?_))))))))
   (refine zjd ?_; repeat (first | refine zdn ?_ | refine zb7 ?_ | refine zbs rfl ?_ | refine zb8 ?_ | refine zah ?_ | refine zbo ?_ | refine zd3 ?_ | refine zey ?_))
   refine za1 (zau rfl (zau rfl (za8 rfl rfl (zaa rfl) (za4 rfl rfl rfl) (zau rfl (zba (zah (zjq [(0, qIf a)] ⟨rfl, trivial⟩ ?_)))))))
   (refine zhh ?_; repeat (first | refine za6 ?_ | refine za7 ?_))
   refine ⟨.inr rfl, ?_, _, .cons _ _ _ _ (.tmp _ _ rfl) .nil, rfl⟩
   show σ.set b _ = σ.set b _
   rw [h3]
def z0c (σ : List Ob) (a b : Nat) (l : List En) (x : En) : List Ob := ((σ.set b .dead ++ [Ob.row 2 ((l ++ [x]).map eEn)]).set a (.row 1 [.own σ.length 2 (l.length + 1)])).set σ.length (.row 2 ((zhw l x).map eEn))
theorem zmw {a b : Nat} {σ : List Ob} {l : List En} (h : HQ σ a b l) (hl : l.length ≤ 900000) (x : En) : CallE P 98 [qIf a, .ifc 146 (eEn x)] σ (.tup []) (z0c σ a b l x) := by
 have hal := (List.getElem?_eq_some_iff.1 h.ha).1
 obtain ⟨σ1, hs1⟩ : ∃ σ1, σ1 = (σ.set b .dead ++ [Ob.row 2 ((l ++ [x]).map eEn)]).set a (.row 1 [.own σ.length 2 (l.length + 1)]) := ⟨_, rfl⟩
 have hP := ztx (P := P) h (by omega) x
 rw [← hs1] at hP
 have hQ : HQ σ1 a σ.length (l ++ [x]) := by
  refine ⟨?_, ?_, by omega⟩
  ·
   rw [hs1, List.getElem?_set_self (by simp; omega), List.length_append]; rfl
  ·
   rw [hs1, List.getElem?_set_ne (by omega), List.getElem?_append_right (by simp), List.length_set, Nat.sub_self]; rfl
 have hA : zj0 P 144 "Push" 194 σ (.ptr a 1 0 0) (.ptr a 1 0 0) := zwk mPush
 have hA2 : zj0 P 144 "Len" 93 σ1 (.ptr a 1 0 0) (.own σ.length 2 (l ++ [x]).length) := zia mLen zkp hQ.ha rfl rfl rfl
 have hL := zil (P := P) σ.length (l ++ [x]).length σ1
 have hU := zza (P := P) hQ (j := l.length) (by simp) (by simp; omega)
 have hw : IntKind.i64.wrap (((l ++ [x]).length : Int) - 1) = (l.length : Int) := by
  rw [show (((l ++ [x]).length : Nat) : Int) - 1 = (l.length : Int) by simp]; exact IntWalk.i64_in _ (by omega)
 refine zea (by rw [IsP.eq (P := P)]; exact Tryz.func98) rfl rfl (Nat.le_of_ble_eq_true rfl) ?_
 refine zbo (za1 (zau rfl (zau rfl (za8 rfl rfl (zaa rfl) (zcl rfl rfl hA hP rfl) (zba (zah (za1 (zau rfl (zau rfl (za8 rfl rfl (zaa rfl) (zcl rfl rfl hA2 hL rfl) (za8 rfl rfl (zaa rfl) (zcw rfl rfl rfl hw) (za8 rfl rfl (zaa rfl) (zdd rfl rfl hU rfl) (zba ?_)))))))))))))
 refine ⟨.inl rfl, ?_, _, .nil, rfl⟩
 unfold z0c zhw
 rw [hs1]
def stPop (σ : List Ob) (a b : Nat) (l : List En) : List Ob := ((σ.set b (.row 2 ((popD l).map eEn)) ++ [Ob.row 2 [eEn (gti l 0)]]).set b (.row 2 (((popD l).take (l.length - 1)).map eEn))).set a (.row 1 [.own b 2 (l.length - 1)])
theorem zw8 {a b : Nat} {σ : List Ob} {l : List En} (h : HQ σ a b l) (h0 : 0 < l.length) (hl : l.length ≤ 900000) : CallE P 94 [qIf a] σ (.ifc 146 (eEn (gti l 0))) (stPop σ a b l) := by
 have hki : (l.length : Int) - 1 = ((l.length - 1 : Nat) : Int) := by omega
 have hw : IntKind.i64.wrap ((l.length : Int) - 1) = ((l.length - 1 : Nat) : Int) := by rw [hki]; exact IntWalk.i64_in _ (by omega)
 have hA1 : zj0 P 144 "Len" 93 σ (.ptr a 1 0 0) (.own b 2 l.length) := zia mLen zkp h.ha rfl rfl rfl
 have hL := zil (P := P) b l.length σ
 have hA2 : zj0 P 144 "Swap" 195 σ (.ptr a 1 0 0) (.own b 2 l.length) := zia z2d zkp h.ha rfl rfl rfl
 have hS := zi7 (P := P) h.hb (i := 0) (j := l.length - 1) h0 (by omega) (by omega)
 have hQ1 := h.set (l' := swp l 0 (l.length - 1)) (zdi ..)
 have hD := zud (P := P) hQ1 (i0 := 0) (n := l.length - 1) (Nat.zero_le _) (by rw [zdi]; omega) (by rw [zdi]; omega)
 rw [List.set_set] at hD
 have hpd : dnD (swp l 0 (l.length - 1)) (l.length - 1) 0 = popD l := rfl
 rw [hpd] at hD
 have hQ2 := h.set (l' := popD l) zfy
 have hA3 : zj0 P 144 "Pop" 193 (σ.set b (.row 2 ((popD l).map eEn))) (.ptr a 1 0 0) (.ptr a 1 0 0) := zwk mPop
 have hP := zvy (P := P) hQ2 (by rw [zfy]; exact h0) (by rw [zfy]; omega)
 rw [zfy, z10 h0] at hP
 refine zea (by rw [IsP.eq (P := P)]; exact Tryz.func94) rfl rfl (Nat.le_of_ble_eq_true rfl) ?_
 refine zbo (za1 (zau rfl (zba (zbo (za1 (zau rfl (za8 rfl rfl (zaa rfl) (zcl rfl rfl hA1 hL rfl) (za8 rfl rfl (zaa rfl) (zcw rfl rfl rfl hw) (zau rfl (zba (zbo (za1 (zau rfl (zau rfl (za8 rfl rfl (zaa rfl) (zcl rfl rfl hA2 hS rfl) (zba (zbo (za1 (zau rfl (zau rfl (za8 rfl rfl (zaa rfl) (zdd rfl rfl hD rfl) (zba (zbo (za1 (zau rfl (za8 rfl rfl (zaa rfl) (zcl rfl rfl hA3 hP rfl) (zau rfl (zba (zah ?_)))))))))))))))))))))))))))))
 (refine zhh ?_; repeat (first | refine za6 ?_ | refine za7 ?_))
 exact ⟨.inr rfl, rfl, _, .cons _ _ _ _ (.tmp _ _ rfl) .nil, rfl⟩
end Go.Proofs.YtohmldibkojkfaaGreatDoor.Aw
end
