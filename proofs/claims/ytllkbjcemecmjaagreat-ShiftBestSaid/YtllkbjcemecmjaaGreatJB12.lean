import Derived.Test.YtllkbjcemecmjaaGreatJB11
import Derived.Test.YtllkbjcemecmjaaGreatJB7
import Derived.Test.YtllkbjcemecmjaaGreatJB4
set_option linter.unusedSimpArgs false
set_option linter.unusedVariables false
set_option linter.unusedSectionVars false
section
namespace Go.Proofs.YtllkbjcemecmjaaGreat.Aw
open Go Go.RowKit Go.Proofs
variable {P : Program} [IsP P]
def pvA (d : List Int) (l : List Sft) (cost left : Int) : AV := .agg [eL eI d, eL eSh l, eI cost, eI left]
theorem zerosR_po (n : Nat) (h : 1 ≤ n ∧ n ≤ 24) : PureO P 45 [eL eF [Fr.of 0], eI n] 2 ((zbf n).map eF) :=
 repO (K1.repF_call (Fr.of 0) n ⟨h.1, by omega⟩) h.1 (zah (.sl _ (zah (lo_F _) zak)) (zah (.s _) zak))
def simE (d : List Int) (l : List Sft) (cost : Int) (hi : List Int) : List Fr :=
 let k := shE d l hi
 if 0 ≤ k then (zbf d.length).set k.toNat (Fr.of (cost + 1)) else zbf d.length
theorem zdt {ρ : List Nat} {d : List Int} {l : List Sft} {a b : Int} : ObRn ρ (.row 4 [pvA d l a b]) (.row 4 [pvA d l a b]) := .rowE (by
 intro e he c hc
 simp only [List.mem_singleton] at he
 subst he
 simp only [pvA, AV.cells, List.mem_cons, List.mem_nil_iff, or_false] at hc
 rcases hc with rfl | rfl | rfl | rfl
 ·
  exact zan fun _ => .s _
 ·
  exact zan fun s => lo_Sh s
 ·
  exact .s _
 ·
  exact .s _) rfl
namespace K1
set_option maxHeartbeats 2000000 in
theorem simple_call (d : List Int) (l : List Sft) (cost left : Int) (lo hi : List Int) (hv : zce d l = true) (hc : okC l hi) (hd : 1 ≤ d.length ∧ d.length ≤ 24) (hk : 0 ≤ cost ∧ cost ≤ 1000000) (hs : shE d l hi < d.length) :
  CallE P 36 [.ptr 0 4 0 0, eBx lo hi] [.row 4 [pvA d l cost left]] (eL eF (simE d l cost hi)) [.row 4 [pvA d l cost left]] := by
 have hz := zerosR_po (P := P) d.length hd
 have hsh := short_pf (P := P) d l hi hv hc
 have hzl : ((zbf d.length).map eF).length = d.length := by simp [zbf]
 have HI : simE d l cost hi = if 0 ≤ shE d l hi then (zbf d.length).set (shE d l hi).toNat (Fr.of (cost + 1)) else zbf d.length := rfl
 generalize simE d l cost hi = R at HI ⊢
 generalize shE d l hi = k at hs hsh HI
 refine callE_fn1 (Nat.le_refl _) (by rw [IsP.eq (P := P)]; exact Tryz.func36) rfl rfl (Nat.le_of_ble_eq_true rfl) rfl ?_
 simp only [argF]
 refine kw_seq (kw_region (kops_op rfl rfl (zaa rfl) (zb3 rfl rfl rfl rfl) (kops_s rfl (kops_nil (kw_seq ?_)))))
 refine kw_weak (kwk_froz (id := 1) rfl) ?_
 refine kw_weak (kwk_ref (d := 3) rfl rfl rfl) ?_
 refine kw_draw hmix ?_
 refine kdraw_ex ?_
 refine zay rfl rfl (zaa rfl) (fun _ => (zam rfl rfl ((whole_pf 0)) (zae rfl zap))) (zay rfl rfl (zaa rfl) (fun _ => (zco rfl ts30 ti45 rfl rfl xf xf rfl rfl rfl (.agg _ (zah (.s _) (zah (.s _) zak))))) (ex_s rfl (ex_s rfl (ex_f tf56_0 rfl (zbv rfl rfl (zaa rfl) (zbr rfl ta22 rfl rfl rfl rfl rfl) (zay rfl rfl (zaa rfl) (fun _ => (zao rfl ts22 rfl)) ?_))))))
 refine zc9 rfl rfl (zaa rfl) (does_callO rfl rfl (hz) (zae rfl (zae rfl zap))) (fun _ h => zdo h) ?_
 refine ex_s rfl ?_
 refine zcf xi ?_
 refine kw_seq (kw_seq ?_)
 refine kw_draw hmix ?_
 refine kdraw_ex ?_
 refine ex_s rfl (ex_s rfl (ex_f tf56_0 rfl (zbv rfl rfl (zaa rfl) (zbr rfl ta22 rfl rfl rfl rfl rfl) (ex_s rfl (ex_s rfl (ex_f tf56_1 rfl (zbv rfl rfl (zaa rfl) (zbr rfl ta23 rfl rfl rfl rfl rfl) (ex_f tf60_1 rfl (ex_l ta22 rfl (zay rfl rfl (zaa rfl) (fun _ => (zam rfl rfl (hsh) (zae rfl (zae rfl (zae rfl zap))))) (ex_s rfl ?_)))))))))))
 refine zcf xi ?_
 refine kw_seq (kw_region (kops_s rfl ?_))
 refine kops_opP rfl rfl (zaa rfl) (zcp rfl rfl rfl) (fun h27 => ?_) (fun h27 => ?_)
 all_goals refine kops_nil (zai ?_)
 all_goals (first | refine kw_true rfl ?_ | refine kw_false rfl ?_)
 all_goals (repeat (first | refine kw_seq ?_ | refine kw_skip ?_))
 ·
  rw [if_pos h27] at HI
  obtain ⟨q, rfl⟩ : ∃ q : Nat, k = q := ⟨k.toNat, by omega⟩
  have hxq : ((zbf d.length).map eF)[q]? = some (eF (gti (zbf d.length) q)) := zbb (by simp [zbf]; omega)
  refine kw_region (kops_s rfl (kops_s rfl (kops_s rfl (kops_s rfl (kops_f tf56_2 rfl (kops_op rfl rfl (zaa rfl) (zaq rfl ta3 rfl rfl rfl rfl rfl) (kops_op rfl rfl (zaa rfl) (zax rfl rfl rfl (IntWalk.i64_in _ xd)) (kops_op rfl rfl (zaa rfl) (zam rfl rfl ((whole_pf _)) (zae rfl zap)) (kops_op rfl rfl (zaa rfl) (za0 rfl ts30 ti45 rfl rfl rfl xd) (kops_eff rfl (zaa rfl) (zaj rfl ti45 rfl rfl rfl hxq rfl rfl xf xf) (kops_nil (kw_seq ?_))))))))))))
  refine kw_weak (kwk_froz (id := 2) rfl) ?_
  refine kw_weak (kwk_sl (d := 5) rfl rfl (by simp [zbf])) ?_
  refine kw_region (kops_s rfl (kops_s rfl (kops_nil (zai ?_))))
  have hR : ((zbf d.length).map eF).set q (eF (Fr.of (cost + 1))) = R.map eF := by rw [HI, List.map_set]; rfl
  have hLo : Lo 0 (.sl (((zbf d.length).map eF).set q (eF (Fr.of (cost + 1))))) := by rw [hR]; exact lo_Fs R
  refine kw_weak (F' := [(4, .sl (((zbf d.length).map eF).set q (eF (Fr.of (cost + 1)))))]) (σ' := [.row 4 [pvA d l cost left]]) (kwk_st [0] rfl xf ⟨⟨_, rfl, zdt⟩, trivial⟩ ⟨.lo _ hLo, trivial⟩) ?_
  (refine kw_ret ?_; repeat (first | refine zbc ?_ | refine zbe ?_))
  exact ⟨.inr rfl, congrArg AV.sl hR, rfl⟩
 ·
  rw [if_neg h27] at HI
  refine kw_weak (kwk_froz (id := 2) rfl) ?_
  refine kw_weak (kwk_sl (d := 5) rfl rfl (by simp [zbf])) ?_
  refine kw_region (kops_s rfl (kops_s rfl (kops_nil (zai ?_))))
  subst HI
  refine kw_weak (F' := [(4, eL eF (zbf d.length))]) (σ' := [.row 4 [pvA d l cost left]]) (kwk_st [0] rfl xf ⟨⟨_, rfl, zdt⟩, trivial⟩ ⟨.lo _ (lo_Fs _), trivial⟩) ?_
  (refine kw_ret ?_; repeat (first | refine zbc ?_ | refine zbe ?_))
  exact ⟨.inr rfl, rfl, rfl⟩
end K1
end Go.Proofs.YtllkbjcemecmjaaGreat.Aw
end
section
namespace Go.Proofs.YtllkbjcemecmjaaGreat.Aw
open Go Go.RowKit Go.Proofs
variable {P : Program} [IsP P]
theorem pe1_bd (d : List Int) : ∀ (n i : Nat), i < (pe1 d n).length → 0 ≤ gti (pe1 d n) i ∧ gti (pe1 d n) i < n
 | 0, i, h => by simp [pe1] at h
 | n + 1, i, h => by
  unfold pe1 at h ⊢
  by_cases hi : i < (pe1 d n).length
  ·
   have h1 := pe1_bd d n i hi
   have e : gti (pe1 d n ++ if 0 < gti d n then [(n : Int)] else []) i = gti (pe1 d n) i := by unfold gti; rw [List.getElem?_append_left hi]
   rw [e]; omega
  ·
   split at h
   ·
    rename_i hp
    have hi2 : i = (pe1 d n).length := by simp at h; omega
    have e : gti (pe1 d n ++ if 0 < gti d n then [(n : Int)] else []) i = n := by rw [if_pos hp]; unfold gti; rw [List.getElem?_append_right xd, hi2, Nat.sub_self]; rfl
    rw [e]; omega
   ·
    simp at h; omega
def mltF (s : Sol) (cost : Int) (per : List Int) (y0 : List Fr) : Nat → List Fr
 | 0 => y0
 | i + 1 =>
  let y1 := (mltF s cost per y0 i).set (gti per i).toNat (gti s.y i)
  if s.kind = 2 then (if (mulE (gti s.y i) (Fr.of (2 * cost + 2))).e = 0 then y1.set (gti per i).toNat (mulE (gti s.y i) (Fr.of (2 * cost + 2))).fr else y1) else y1
theorem mltF_len (s : Sol) (cost : Int) (per : List Int) (y0 : List Fr) : ∀ i, (mltF s cost per y0 i).length = y0.length
 | 0 => rfl
 | i + 1 => by unfold mltF; dsimp only; split <;> (try split) <;> simp [mltF_len s cost per y0 i]
noncomputable def mltE (d : List Int) (l : List Sft) (cost : Int) (lo hi : List Int) : List Fr × Bool :=
 if l.length = 0 then (zbf d.length, true) else
 if 12 < (prgE d l lo hi).a.length then (zbf d.length, false) else
 if (slvE (prgE d l lo hi)).2 ≠ 0 then (zbf d.length, false) else
 if (slvE (prgE d l lo hi)).1.kind = 3 then (zbf d.length, false) else
 if (slvE (prgE d l lo hi)).1.y.length < (pe1 d d.length).length then (zbf d.length, false) else
 (mltF (slvE (prgE d l lo hi)).1 cost (pe1 d d.length) (zbf d.length) (pe1 d d.length).length, true)
namespace K1
set_option maxHeartbeats 4000000 in
theorem multipliers_call (d : List Int) (l : List Sft) (cost left : Int) (lo hi : List Int) (hv : zce d l = true) (hlo : lo.length = l.length) (hhi : hi.length = l.length) (hd : 1 ≤ d.length ∧ d.length ≤ 24) (hk : 0 ≤ cost ∧ cost ≤ 1000000) :
  CallE P 34 [.ptr 0 4 0 0, eBx lo hi] [.row 4 [pvA d l cost left]] (.tup [eL eF (mltE d l cost lo hi).1, eB (mltE d l cost lo hi).2]) [.row 4 [pvA d l cost left]] := by
 have hz := zerosR_po (P := P) d.length hd
 have hzl : ((zbf d.length).map eF).length = d.length := by simp [zbf]
 have hpg := program_pf (P := P) d l lo hi hv hlo hhi
 have hso := solve_pf (P := P) (prgE d l lo hi)
 have HI : mltE d l cost lo hi = mltE d l cost lo hi := rfl
 conv at HI => rhs; unfold mltE
 have hpe := fun i => pe1_bd d d.length i
 have hpl := pe1_len d d.length
 generalize mltE d l cost lo hi = R at HI ⊢
 generalize slvE (prgE d l lo hi) = s at hso HI
 generalize prgE d l lo hi = lp at hpg hso HI
 generalize pe1 d d.length = per at hpg hpe hpl HI
 have fin : ∀ (y : List Fr) (b : Bool) (N : Nat) (F : Frm) (X : List Ob), R = (y, b) → F.get 4 = .own 2 2 d.length → F.get 5 = eB b → True := fun _ _ _ _ _ _ _ _ => trivial
 refine callE_fn (Nat.le_refl _) (by rw [IsP.eq (P := P)]; exact Tryz.func34) rfl rfl (Nat.le_of_ble_eq_true rfl) ?_
 simp only [argF]
 refine kw_seq (kw_region (kops_op rfl rfl (zaa rfl) (zb3 rfl rfl rfl rfl) (kops_s rfl (kops_s rfl (kops_nil (kw_seq ?_))))))
 refine kw_weak (kwk_froz (id := 1) rfl) ?_
 refine kw_weak (kwk_ref (d := 3) rfl rfl rfl) ?_
 refine kw_draw hmix ?_
 refine kdraw_ex ?_
 refine zay rfl rfl (zaa rfl) (fun _ => (zam rfl rfl ((whole_pf 0)) (zae rfl zap))) (zay rfl rfl (zaa rfl) (fun _ => (zco rfl ts30 ti45 rfl rfl xf xf rfl rfl rfl (.agg _ (zah (.s _) (zah (.s _) zak))))) (ex_s rfl (ex_s rfl (ex_f tf56_0 rfl (zbv rfl rfl (zaa rfl) (zbr rfl ta22 rfl rfl rfl rfl rfl) (zay rfl rfl (zaa rfl) (fun _ => (zao rfl ts22 rfl)) ?_))))))
 refine zc9 rfl rfl (zaa rfl) (does_callO rfl rfl (hz) (zae rfl (zae rfl zap))) (fun _ h => zdo h) ?_
 refine ex_s rfl ?_
 refine zcf xi ?_
 refine kw_seq (kw_seq (kw_region (kops_s rfl (kops_s rfl (kops_f tf56_1 rfl (kops_op rfl rfl (zaa rfl) (zaq rfl ta23 rfl rfl rfl rfl rfl) (kops_op rfl rfl (zaa rfl) (zao rfl ts23 rfl) ?_)))))))
 refine kops_opP rfl rfl (zaa rfl) (zbn rfl rfl rfl) (fun h28 => ?_) (fun h28 => ?_)
 all_goals refine kops_nil (zai ?_)
 all_goals (first | refine kw_true rfl ?_ | refine kw_false rfl ?_)
 all_goals (repeat (first | refine kw_seq ?_ | refine kw_skip ?_))
 ·
  rw [if_pos xd] at HI
  refine kw_weak (kwk_froz (id := 2) rfl) ?_
  refine kw_weak (kwk_sl (d := 6) rfl rfl (by simp [zbf])) ?_
  refine kw_region (kops_s rfl (kops_s rfl (kops_s rfl (kops_nil (zai ?_)))))
  subst HI
  refine kw_weak (F' := [(4, eL eF (zbf d.length)), (5, eB true)]) (σ' := [.row 4 [pvA d l cost left]]) (kwk_st [0] rfl xf ⟨⟨_, rfl, zdt⟩, trivial⟩ ⟨.lo _ (lo_Fs _), .lo _ (.s _), trivial⟩) ?_
  (refine kw_ret ?_; repeat (first | refine zbc ?_ | refine zbe ?_))
  exact ⟨.inr rfl, rfl, _, .cons _ _ _ _ (.tmp 4 _ rfl) (.cons _ _ _ _ (.tmp 5 _ rfl) .nil), rfl⟩
 rw [if_neg xd] at HI
 refine kw_draw hmix ?_
 refine kdraw_ex ?_
 refine ex_s rfl (ex_s rfl (ex_f tf56_0 rfl (zbv rfl rfl (zaa rfl) (zbr rfl ta22 rfl rfl rfl rfl rfl) (ex_s rfl (ex_s rfl (ex_f tf56_1 rfl (zbv rfl rfl (zaa rfl) (zbr rfl ta23 rfl rfl rfl rfl rfl) (ex_w ta60 ti60 rfl (zay rfl rfl (zaa rfl) (fun _ => (zam rfl rfl (hpg) (zae rfl (zae rfl (zae rfl zap))))) (ex_s rfl (ex_s rfl (ex_s rfl ?_))))))))))))
 refine zc9 rfl rfl (zaa rfl) (za1 rfl ti88 rfl rfl) (fun _ h => zdo h) ?_
 refine zci rfl (zaa rfl) (zaj rfl ti88 rfl rfl rfl rfl rfl rfl xf xf) (fun _ h => zbw h) ?_
 refine ex_s rfl ?_
 refine zcf xi ?_
 refine kw_seq (kw_seq ?_)
 refine kw_weak (kwk_froz (id := 3) rfl) ?_
 refine kw_weak (kwk_ref (d := 7) rfl rfl rfl) ?_
 refine kw_weak (F' := [(0, .ptr 0 4 0 0), (6, .own 1 2 d.length), (7, .ref (eP lp).cells), (8, eL eI per)]) (σ' := [.row 4 [pvA d l cost left], .row 2 ((zbf d.length).map eF)]) (kwk_st [0, 2] rfl xf ⟨⟨_, rfl, zdt⟩, ⟨_, rfl, .rowE xb rfl⟩, trivial⟩ ⟨.ptr 0 0 4 0 0 rfl, .own 2 1 2 _ _ rfl hzl, .lo _ (.ref _ (lo_P lp).cells), .lo _ (zan fun _ => .s _), trivial⟩) ?_
 refine kw_region (kops_f tf88_1 rfl (kops_l ta86 rfl (kops_op rfl rfl (zaa rfl) (zao rfl ts86 rfl) ?_)))
 refine kops_opP rfl rfl (zaa rfl) (zb0 rfl rfl rfl) (fun h46 => ?_) (fun h46 => ?_)
 all_goals refine kops_nil (zai ?_)
 all_goals (first | refine kw_true rfl ?_ | refine kw_false rfl ?_)
 all_goals (repeat (first | refine kw_seq ?_ | refine kw_skip ?_))
 ·
  rw [if_pos xd] at HI
  refine kw_weak (kwk_froz (id := 1) rfl) ?_
  refine kw_weak (kwk_sl (d := 6) rfl rfl (by simp [zbf, mltF_len])) ?_
  refine kw_region (kops_s rfl (kops_s rfl (kops_s rfl (kops_nil (zai ?_)))))
  refine kw_weak (F' := [(4, eL eF (zbf d.length)), (5, eB false)]) (σ' := [.row 4 [pvA d l cost left]]) (kwk_st [0] rfl xf ⟨⟨_, rfl, zdt⟩, trivial⟩ ⟨.lo _ (lo_Fs _), .lo _ (.s _), trivial⟩) ?_
  (refine kw_ret ?_; repeat (first | refine zbc ?_ | refine zbe ?_))
  subst HI
  exact ⟨.inr rfl, rfl, _, .cons _ _ _ _ (.tmp 4 _ rfl) (.cons _ _ _ _ (.tmp 5 _ rfl) .nil), rfl⟩
 rw [if_neg xd] at HI
 refine kw_region (kops_w ta88 ti88 rfl (kops_op rfl rfl (zaa rfl) (zam rfl rfl (hso) (zae rfl zap)) (kops_s rfl (kops_s rfl (kops_s rfl (kops_op rfl rfl (zaa rfl) (za1 rfl ti92 rfl rfl) (kops_eff rfl (zaa rfl) (zaj rfl ti92 rfl rfl rfl rfl rfl rfl xf xf) (kops_s rfl (kops_nil (kw_seq (kw_seq ?_)))))))))))
 refine kw_weak (kwk_froz (id := 2) rfl) ?_
 refine kw_weak (kwk_ref (d := 9) rfl rfl rfl) ?_
 refine kw_region (kops_s rfl ?_)
 refine kops_opP rfl rfl (zaa rfl) (zbp rfl rfl rfl) (fun h54 => ?_) (fun h54 => ?_)
 all_goals refine kops_s rfl ?_
 all_goals (first | refine kops_f tf92_0 rfl ?_ | refine kops_z rfl ?_)
 all_goals (first | refine kops_l ta3 rfl ?_ | refine kops_z rfl ?_)
 all_goals (first | refine kops_opP rfl rfl (zat rfl rfl rfl) (zbn rfl rfl rfl) (fun h58 => ?_) (fun h58 => ?_) | refine kops_z rfl ?_)
 all_goals refine kops_s rfl (kops_s rfl ?_)
 all_goals (first | refine kops_f tf92_2 rfl ?_ | refine kops_z rfl ?_)
 all_goals (first | refine kops_l ta30 rfl ?_ | refine kops_z rfl ?_)
 all_goals (first | refine kops_op rfl rfl (zat rfl rfl rfl) (zao rfl ts30 rfl) ?_ | refine kops_z rfl ?_)
 all_goals (first | refine kops_s rfl ?_ | refine kops_z rfl ?_)
 all_goals (first | refine kops_op rfl rfl (zat rfl rfl rfl) (zao rfl ts22 rfl) ?_ | refine kops_z rfl ?_)
 all_goals (first | refine kops_opP rfl rfl (zat rfl rfl rfl) (za2 rfl rfl rfl) (fun h66 => ?_) (fun h66 => ?_) | refine kops_z rfl ?_)
 all_goals refine kops_s rfl (kops_nil (zai ?_))
 all_goals (first | refine kw_true rfl ?_ | refine kw_false rfl ?_)
 all_goals (repeat (first | refine kw_seq ?_ | refine kw_skip ?_))
 ·
  rw [if_pos h54] at HI
  refine kw_weak (kwk_froz (id := 1) rfl) ?_
  refine kw_weak (kwk_sl (d := 6) rfl rfl (by simp [zbf, mltF_len])) ?_
  refine kw_region (kops_s rfl (kops_s rfl (kops_s rfl (kops_nil (zai ?_)))))
  refine kw_weak (F' := [(4, eL eF (zbf d.length)), (5, eB false)]) (σ' := [.row 4 [pvA d l cost left]]) (kwk_st [0] rfl xf ⟨⟨_, rfl, zdt⟩, trivial⟩ ⟨.lo _ (lo_Fs _), .lo _ (.s _), trivial⟩) ?_
  (refine kw_ret ?_; repeat (first | refine zbc ?_ | refine zbe ?_))
  subst HI
  exact ⟨.inr rfl, rfl, _, .cons _ _ _ _ (.tmp 4 _ rfl) (.cons _ _ _ _ (.tmp 5 _ rfl) .nil), rfl⟩
 ·
  rw [if_neg h54, if_pos h58] at HI
  refine kw_weak (kwk_froz (id := 1) rfl) ?_
  refine kw_weak (kwk_sl (d := 6) rfl rfl (by simp [zbf, mltF_len])) ?_
  refine kw_region (kops_s rfl (kops_s rfl (kops_s rfl (kops_nil (zai ?_)))))
  refine kw_weak (F' := [(4, eL eF (zbf d.length)), (5, eB false)]) (σ' := [.row 4 [pvA d l cost left]]) (kwk_st [0] rfl xf ⟨⟨_, rfl, zdt⟩, trivial⟩ ⟨.lo _ (lo_Fs _), .lo _ (.s _), trivial⟩) ?_
  (refine kw_ret ?_; repeat (first | refine zbc ?_ | refine zbe ?_))
  subst HI
  exact ⟨.inr rfl, rfl, _, .cons _ _ _ _ (.tmp 4 _ rfl) (.cons _ _ _ _ (.tmp 5 _ rfl) .nil), rfl⟩
 ·
  rw [if_neg h54, if_neg h58, if_pos xd] at HI
  refine kw_weak (kwk_froz (id := 1) rfl) ?_
  refine kw_weak (kwk_sl (d := 6) rfl rfl (by simp [zbf, mltF_len])) ?_
  refine kw_region (kops_s rfl (kops_s rfl (kops_s rfl (kops_nil (zai ?_)))))
  refine kw_weak (F' := [(4, eL eF (zbf d.length)), (5, eB false)]) (σ' := [.row 4 [pvA d l cost left]]) (kwk_st [0] rfl xf ⟨⟨_, rfl, zdt⟩, trivial⟩ ⟨.lo _ (lo_Fs _), .lo _ (.s _), trivial⟩) ?_
  (refine kw_ret ?_; repeat (first | refine zbc ?_ | refine zbe ?_))
  subst HI
  exact ⟨.inr rfl, rfl, _, .cons _ _ _ _ (.tmp 4 _ rfl) (.cons _ _ _ _ (.tmp 5 _ rfl) .nil), rfl⟩
 rw [if_neg h54, if_neg h58, if_neg xd] at HI
 refine kw_region (kops_s rfl (kops_op rfl rfl (zaa rfl) (zao rfl ts22 rfl) (kops_s rfl (kops_nil (zai (kw_block ?_))))))
 refine kw_loops (S := Nat) (fun i => [(0, .ptr 0 4 0 0), (6, .own 1 2 d.length), (9, .ref (eSol s.1).cells), (69, eL eI per), (70, eI per.length), (71, eI i)]) (fun i => [.row 4 [pvA d l cost left], .row 2 ((mltF s.1 cost per (zbf d.length) i).map eF)]) (fun i => i ≤ per.length) (fun i => per.length - i) 0
  (kwk_st [0, 1] rfl xf ⟨⟨_, rfl, zdt⟩, ⟨_, rfl, .rowE xb rfl⟩, trivial⟩ ⟨.ptr 0 0 4 0 0 rfl, .own 1 1 2 _ _ rfl rfl, .lo _ (.ref _ (lo_Sol s.1).cells), .lo _ (zan fun _ => .s _), .lo _ (.s _), .lo _ (.s _), trivial⟩) (Nat.zero_le _) (fun i hi => ?_)
 have hml := mltF_len s.1 cost per (zbf d.length) i
 have hzl2 : (zbf d.length).length = d.length := by simp [zbf]
 refine kw_seq (kw_region ?_)
 refine kops_opP rfl rfl (zaa rfl) (za2 rfl rfl rfl) (fun h72 => ?_) (fun h72 => ?_)
 all_goals refine kops_nil (kw_seq ?_)
 all_goals (first | refine kw_true rfl ?_ | refine kw_false rfl ?_)
 all_goals (repeat (first | refine kw_seq ?_ | refine kw_skip ?_ | refine kw_block ?_))
 ·
  have hlt : i < per.length := by omega
  have hbd := hpe i hlt
  obtain ⟨k, hkk⟩ : ∃ k : Nat, gti per i = k := ⟨(gti per i).toNat, by omega⟩
  have hkd : k < d.length := by omega
  have hxp : (per.map eI)[i]? = some (eI (gti per i)) := zbb hlt
  have hxy : (s.1.y.map eF)[i]? = some (eF (gti s.1.y i)) := zbb xd
  have hxo : ((mltF s.1 cost per (zbf d.length) i).map eF)[k]? = some (eF (gti (mltF s.1 cost per (zbf d.length) i) k)) := zbb xd
  have hx1 : (((mltF s.1 cost per (zbf d.length) i).map eF).set k (eF (gti s.1.y i)))[k]? = some (eF (gti s.1.y i)) := List.getElem?_set_self (by simp; omega)
  have hstep : mltF s.1 cost per (zbf d.length) (i + 1) = if s.1.kind = 2 then (if (mulE (gti s.1.y i) (Fr.of (2 * cost + 2))).e = 0 then ((mltF s.1 cost per (zbf d.length) i).set k (gti s.1.y i)).set k (mulE (gti s.1.y i) (Fr.of (2 * cost + 2))).fr else (mltF s.1 cost per (zbf d.length) i).set k (gti s.1.y i)) else (mltF s.1 cost per (zbf d.length) i).set k (gti s.1.y i) := by
   rw [mltF, hkk]; rfl
  refine kw_region (kops_s rfl (kops_op rfl rfl (zaa rfl) (zal rfl ts22 ti3 rfl rfl rfl hxp rfl) (kops_l ta3 rfl (kops_s rfl (kops_s rfl (kops_nil (kw_seq (kw_region (kops_s rfl (kops_s rfl (kops_f tf92_2 rfl (kops_l ta30 rfl (kops_s rfl (kops_op rfl rfl (zaa rfl) (zal rfl ts30 ti45 rfl rfl rfl hxy rfl) (kops_w ta45 ti45 rfl (kops_op rfl rfl (zaa rfl) (za0 rfl ts30 ti45 rfl rfl hkk hkd) (kops_eff rfl (zaa rfl) (zaj rfl ti45 rfl rfl rfl hxo rfl rfl xf xf) (kops_nil (kw_seq (kw_region (kops_f tf92_0 rfl ?_)))))))))))))))))))))
  refine kops_l ta3 rfl ?_
  refine kops_opP rfl rfl (zaa rfl) (zbn rfl rfl rfl) (fun h86 => ?_) (fun h86 => ?_)
  all_goals refine kops_nil (zai ?_)
  all_goals (first | refine kw_true rfl ?_ | refine kw_false rfl ?_)
  all_goals (repeat (first | refine kw_seq ?_ | refine zai ?_ | refine kw_skip ?_ | refine zbl ?_))
  ·
   rw [if_pos h86] at hstep
   have hmu := fMul_pf (P := P) (gti s.1.y i) (Fr.of (2 * cost + 2))
   have hwh := whole_pf (P := P) (2 * cost + 2)
   generalize mulE (gti s.1.y i) (Fr.of (2 * cost + 2)) = z at hstep hmu
   refine kw_draw hmix ?_
   refine kdraw_ex ?_
   refine ex_s rfl (ex_s rfl (zay rfl rfl (zaa rfl) (fun _ => (za0 rfl ts30 ti45 rfl rfl hkk hkd)) (zbv rfl rfl (zaa rfl) (zdq rfl ta45 ti45 rfl rfl rfl hx1 rfl) (ex_s rfl (ex_s rfl (ex_f tf56_2 rfl (zbv rfl rfl (zaa rfl) (zbr rfl ta3 rfl rfl rfl rfl rfl) (zay rfl rfl (zaa rfl) (fun _ => (does_mul rfl rfl rfl (IntWalk.i64_in _ xd))) (zay rfl rfl (zaa rfl) (fun _ => (zax rfl rfl rfl (IntWalk.i64_in _ xd))) (zay rfl rfl (zaa rfl) (fun _ => (zam rfl rfl (hwh) (zae rfl zap))) (zay rfl rfl (zaa rfl) (fun _ => (zam rfl rfl (hmu) (zae rfl (zae rfl zap)))) ?_)))))))))))
   refine ex_s rfl (ex_s rfl (ex_s rfl ?_))
   refine zc9 rfl rfl (zaa rfl) (za1 rfl ti45 rfl rfl) (fun _ h => zdo h) ?_
   refine zci rfl (zaa rfl) (zaj rfl ti45 rfl rfl rfl rfl rfl rfl xf xf) (fun _ h => zbw h) ?_
   refine ex_s rfl ?_
   refine zcf xi ?_
   refine kw_seq (kw_region (kops_s rfl ?_))
   refine kops_opP rfl rfl (zaa rfl) (zbn rfl rfl rfl) (fun h103 => ?_) (fun h103 => ?_)
   all_goals refine kops_nil (zai ?_)
   all_goals (first | refine kw_true rfl ?_ | refine kw_false rfl ?_)
   all_goals (repeat (first | refine zai ?_ | refine kw_skip ?_ | refine zbl ?_))
   ·
    rw [if_pos h103] at hstep
    refine kw_region (kops_s rfl (kops_s rfl (kops_op rfl rfl (zaa rfl) (za8 rfl ta45 ti45 rfl rfl rfl rfl rfl) (kops_op rfl rfl (zaa rfl) (za0 rfl ts30 ti45 rfl rfl hkk hkd) (kops_eff rfl (zaa rfl) (zaj rfl ti45 rfl rfl rfl hx1 rfl rfl xf xf) (kops_nil (zbl (zai (kw_region (kops_op rfl rfl (zaa rfl) (zax rfl rfl rfl (IntWalk.i64_in _ xd)) (kops_s rfl (kops_nil (zai ?_)))))))))))))
    exact ⟨i + 1, by omega, by omega, kwk_st [0, 1] rfl xf ⟨⟨_, rfl, zdt⟩, ⟨_, rfl, .rowE xb (by rw [hstep, List.map_set, List.map_set]; rfl)⟩, trivial⟩ ⟨.ptr 0 0 4 0 0 rfl, .own 1 1 2 _ _ rfl rfl, .lo _ (.ref _ (lo_Sol s.1).cells), .lo _ (zan fun _ => .s _), .lo _ (.s _), .lo _ (.s _), trivial⟩⟩
   ·
    rw [if_neg h103] at hstep
    refine kw_region (kops_op rfl rfl (zaa rfl) (zax rfl rfl rfl (IntWalk.i64_in _ xd)) (kops_s rfl (kops_nil (zai ?_))))
    exact ⟨i + 1, by omega, by omega, kwk_st [0, 1] rfl xf ⟨⟨_, rfl, zdt⟩, ⟨_, rfl, .rowE xb (by rw [hstep, List.map_set]; rfl)⟩, trivial⟩ ⟨.ptr 0 0 4 0 0 rfl, .own 1 1 2 _ _ rfl rfl, .lo _ (.ref _ (lo_Sol s.1).cells), .lo _ (zan fun _ => .s _), .lo _ (.s _), .lo _ (.s _), trivial⟩⟩
  ·
   rw [if_neg h86] at hstep
   refine kw_region (kops_op rfl rfl (zaa rfl) (zax rfl rfl rfl (IntWalk.i64_in _ xd)) (kops_s rfl (kops_nil (zai ?_))))
   exact ⟨i + 1, by omega, by omega, kwk_st [0, 1] rfl xf ⟨⟨_, rfl, zdt⟩, ⟨_, rfl, .rowE xb (by rw [hstep, List.map_set]; rfl)⟩, trivial⟩ ⟨.ptr 0 0 4 0 0 rfl, .own 1 1 2 _ _ rfl rfl, .lo _ (.ref _ (lo_Sol s.1).cells), .lo _ (zan fun _ => .s _), .lo _ (.s _), .lo _ (.s _), trivial⟩⟩
 ·
  have ei : i = per.length := by omega
  subst ei
  (refine kw_exit ?_; repeat (first | refine zcr ?_ | refine zbt ?_ | refine zbk rfl ?_ | refine zbl ?_ | refine zai ?_ | refine kw_seq ?_ | refine kw_skip ?_ | refine kw_block ?_))
  refine kw_weak (kwk_froz (id := 1) rfl) ?_
  refine kw_weak (kwk_sl (d := 6) rfl rfl (by simp [zbf, mltF_len])) ?_
  refine kw_region (kops_s rfl (kops_s rfl (kops_s rfl (kops_nil (zai ?_)))))
  refine kw_weak (F' := [(4, eL eF (mltF s.1 cost per (zbf d.length) per.length)), (5, eB true)]) (σ' := [.row 4 [pvA d l cost left]]) (kwk_st [0] rfl xf ⟨⟨_, rfl, zdt⟩, trivial⟩ ⟨.lo _ (lo_Fs _), .lo _ (.s _), trivial⟩) ?_
  (refine kw_ret ?_; repeat (first | refine zbc ?_ | refine zbe ?_))
  subst HI
  exact ⟨.inr rfl, rfl, _, .cons _ _ _ _ (.tmp 4 _ rfl) (.cons _ _ _ _ (.tmp 5 _ rfl) .nil), rfl⟩
end K1
end Go.Proofs.YtllkbjcemecmjaaGreat.Aw
end
section
namespace Go.Proofs.YtllkbjcemecmjaaGreat.Aw
open Go Go.RowKit Go.Proofs
def NoMp : Ob → Prop
 | .mp _ => False
 | _ => True
section
variable {P : Program} {σ σ' X : List Ob} {f : FuncId} {args : List AV} {r : AV}
def rowsOf (G : Cx) (τ : List Ob) (k b : Nat) : Prop := ∃ i, k ≤ i ∧ alive τ i ∧ G.mu i = some (some b)
def Cx.front (G : Cx) (τ : List Ob) (k : Nat) : Cx := { G with mu := fun i => if i < k then G.mu i else none, Pr := fun b o => G.Pr b o ∨ rowsOf G τ k b }
theorem rowAt_low {G G' : Cx} {k b sz : Nat} {cs : List AV} {f : Nat × Nat → Prop} (low : ∀ {v x}, Rep G v x → Lo k x → Rep G' v x) (hw : G'.w = G.w) (hlo : ∀ e ∈ cs, ∀ c ∈ e.cells, Lo k c) : RowAt G b sz cs f → RowAt G' b sz cs f := fun ⟨cur, t, fr, g1, g2, g3, g4⟩ =>
 ⟨cur, t, fr, by rw [hw]; exact g1, g2, g3, fun i e he => ⟨(g4 i e he).1, (g4 i e he).2.1, fun j c hc => by
  obtain ⟨v, h6, h7⟩ := (g4 i e he).2.2 j c hc
  exact ⟨v, h6, low h7 (hlo e (List.mem_of_getElem? he) c (List.mem_of_getElem? hc))⟩⟩⟩
theorem front_rel {G : Cx} (hr : Rel G (σ ++ X)) (hm : ∀ ob ∈ σ, NoMp ob) (ho : ∀ ob ∈ σ, ObLo σ.length ob) : Rel (G.front (σ ++ X) σ.length) σ := by
 have hmu : ∀ i, i < σ.length → (G.front (σ ++ X) σ.length).mu i = G.mu i := fun i hi => if_pos hi
 have low : ∀ {v x}, Rep G v x → Lo σ.length x → Rep (G.front (σ ++ X) σ.length) v x := fun hv hx => hv.low hx (fun _ _ h => h) (fun _ _ _ => rfl) (fun id y hid hy => by rw [hmu id hid]; exact hy) (fun _ => zcc.refl _)
 have hget : ∀ id ob, σ[id]? = some ob → (σ ++ X)[id]? = some ob := fun id ob h => by rw [List.getElem?_append_left (List.getElem?_eq_some_iff.1 h).1]; exact h
 refine ⟨hr.below, hr.le, fun b o h => ?_, fun id ob hob => ?_, fun i j b hi hj hm1 hm2 => ?_, fun id hid => if_neg xd⟩
 ·
  rcases h with h | h | ⟨i, h1, ⟨sz, cs, h2⟩, h3⟩
  ·
   exact hr.st b o (.inl h)
  ·
   exact hr.st b o (.inr h)
  ·
   exact (hr.obs i _ h2).lt h3
 ·
  have hid := (List.getElem?_eq_some_iff.1 hob).1
  have h1 := hr.obs id ob (hget id ob hob)
  have hlo := ho ob (List.mem_of_getElem? hob)
  have hnm := hm ob (List.mem_of_getElem? hob)
  cases ob with
  | dead => intro b hb; rw [hmu id hid] at hb; exact h1 b hb
  | row sz cs =>
   simp only [ObOk, hmu id hid] at h1 ⊢
   cases hx : G.mu id with
   | none => rw [hx] at h1; exact h1
   | some x =>
    rw [hx] at h1
    cases x with
    | none => exact h1
    | some b =>
     refine ⟨rowAt_low low rfl (fun e he c hc => (hlo e he).cells c hc) h1.1, h1.2.1, fun o h => ?_⟩
     rcases h with h | h | ⟨i, g1, g2, g3⟩
     ·
      exact h1.2.2 o (.inl h)
     ·
      exact h1.2.2 o (.inr h)
     ·
      have := hr.inj i id b g2 ⟨sz, cs, hget id _ hob⟩ g3 hx
      omega
  | fz sz cs =>
   simp only [ObOk, hmu id hid] at h1 ⊢
   cases hx : G.mu id with
   | none => rw [hx] at h1; exact h1
   | some x =>
    rw [hx] at h1
    cases x with
    | none => exact h1
    | some b => exact ⟨rowAt_low low rfl (fun e he c hc => (hlo e he).cells c hc) h1.1, h1.2⟩
  | mp X => exact hnm.elim
 ·
  obtain ⟨sz, cs, h1⟩ := hi
  obtain ⟨sz', cs', h1'⟩ := hj
  rw [hmu i (List.getElem?_eq_some_iff.1 h1).1] at hm1
  rw [hmu j (List.getElem?_eq_some_iff.1 h1').1] at hm2
  exact hr.inj i j b ⟨sz, cs, hget i _ h1⟩ ⟨sz', cs', hget j _ h1'⟩ hm1 hm2
theorem CallE.frame (h : CallE P f args σ r σ') (hl : σ'.length = σ.length) (hX : ∀ ob ∈ X, NoMp ob) (hm : ∀ ob ∈ σ, NoMp ob) (hm' : ∀ ob ∈ σ', NoMp ob) (ha : ∀ x ∈ args, Lo σ.length x) (ho : ∀ ob ∈ σ, ObLo σ.length ob) : CallE P f args (σ ++ X) r (σ' ++ X) := by
 refine ⟨h.ent, fun G vargs hr hsz hrep => ?_⟩
 have hmu : ∀ i, i < σ.length → (G.front (σ ++ X) σ.length).mu i = G.mu i := fun i hi => if_pos hi
 have low : ∀ {v x}, Rep G v x → Lo σ.length x → Rep (G.front (σ ++ X) σ.length) v x := fun hv hx => hv.low hx (fun _ _ h => h) (fun _ _ _ => rfl) (fun id y hid hy => by rw [hmu id hid]; exact hy) (fun _ => zcc.refl _)
 refine (h.call (G.front (σ ++ X) σ.length) vargs (front_rel hr hm ho) hsz (fun j v x h1 h2 => low (hrep j v x h1 h2) (ha x (List.mem_of_getElem? h2)))).mono ?_
 rintro e w' ⟨v, G', rfl, rfl, he, hr', hv⟩
 let G2 : Cx := { G' with mu := fun i => if i < σ.length then G'.mu i else G.mu i, Pr := G.Pr }
 have hmu2 : ∀ i, i < σ.length → G2.mu i = G'.mu i := fun i hi => if_pos hi
 have hmu3 : ∀ i, σ.length ≤ i → G2.mu i = G.mu i := fun i hi => if_neg xd
 have low2 : ∀ {v x}, Rep G' v x → Lo σ.length x → Rep G2 v x := fun hv hx => hv.low hx (fun _ _ h => h) (fun _ _ _ => rfl) (fun id y hid hy => by rw [hmu2 id hid]; exact hy) (fun _ => zcc.refl _)
 have hpr : ∀ b o, G.Pr b o → G'.Pr b o := fun b o h => by rw [he.pr]; exact .inl h
 have hsp : ∀ b o, G2.SP b o → G'.SP b o := fun b o h => h.imp id (hpr b o)
 have hext : G.Ext G2 := ⟨he.base, he.w0, he.st, fun b o h => he.cell b o (h.imp id .inl), fun id x hx => by
   by_cases hid : id < σ.length
   ·
    rw [hmu2 id hid]; exact he.mu id x (by rw [hmu id hid]; exact hx)
   ·
    rw [hmu3 id xd]; exact hx, he.size, he.rows, he.stN, rfl, fun b o h => (he.prN b o h).imp id (fun h1 h2 => h1 (.inl h2))⟩
 have hlo' : ∀ id ob, σ'[id]? = some ob → ObLo σ.length ob := fun id ob hob => by rw [← hl]; exact rel_lo hr' hob
 have hprot : ∀ b, rowsOf G (σ ++ X) σ.length b → ∀ o, G'.Pr b o := fun b hb o => by rw [he.pr]; exact .inr hb
 refine ⟨v, G2, rfl, rfl, hext, ⟨hr'.below, hr'.le, fun b o h => hr'.st b o (hsp b o h), fun id ob hob => ?_, fun i j b hi hj h1 h2 => ?_, fun id hid => ?_⟩, low2 hv (by rw [← hl]; exact rep_lo hr'.fresh hv)⟩
 ·
  by_cases hid : id < σ.length
  ·
   rw [List.getElem?_append_left xd] at hob
   have h1 := hr'.obs id ob hob
   have hlo := hlo' id ob hob
   have hnm := hm' ob (List.mem_of_getElem? hob)
   cases ob with
   | dead => intro b hb; rw [hmu2 id hid] at hb; exact h1 b hb
   | row sz cs =>
    simp only [ObOk, hmu2 id hid] at h1 ⊢
    cases hx : G'.mu id with
    | none => rw [hx] at h1; exact h1
    | some x =>
     rw [hx] at h1
     cases x with
     | none => exact h1
     | some b => exact ⟨rowAt_low low2 rfl (fun e he c hc => (hlo e he).cells c hc) h1.1, h1.2.1, fun o h => h1.2.2 o (hsp b o h)⟩
   | fz sz cs =>
    simp only [ObOk, hmu2 id hid] at h1 ⊢
    cases hx : G'.mu id with
    | none => rw [hx] at h1; exact h1
    | some x =>
     rw [hx] at h1
     cases x with
     | none => exact h1
     | some b => exact ⟨rowAt_low low2 rfl (fun e he c hc => (hlo e he).cells c hc) h1.1, h1.2⟩
   | mp X => exact hnm.elim
  ·
   rw [List.getElem?_append_right xd, hl] at hob
   have hobX : (σ ++ X)[id]? = some ob := by rw [List.getElem?_append_right xd]; exact hob
   have h1 := hr.obs id ob hobX
   have hnm := hX ob (List.mem_of_getElem? hob)
   have keepRow : ∀ {b sz : Nat} {cs : List AV} {fq : Nat × Nat → Prop}, RowAt G b sz cs fq → (∀ (k : Nat) e (j : Nat), cs[k]? = some e → j < e.cells.length → (G.front (σ ++ X) σ.length).SP b (k * sz + j)) → RowAt G2 b sz cs fq := fun ⟨cur, t, fr, g1, g2, g3, g4⟩ hk => by
    obtain ⟨cur', k1, k2⟩ := he.rows _ _ _ _ g1
    refine ⟨cur', t, fr, k1, g2, by rw [k2]; exact g3, fun k e hke => ⟨(g4 k e hke).1, (g4 k e hke).2.1, fun j c hc => ?_⟩⟩
    obtain ⟨u, q1, q2⟩ := (g4 k e hke).2.2 j c hc
    have hcell := he.cell _ _ (hk k e j hke (List.getElem?_eq_some_iff.1 hc).1)
    simp only [World.cell?, k1] at hcell
    have e1 : (G.front (σ ++ X) σ.length).w.heap[_]? = _ := g1
    simp only [e1] at hcell
    refine ⟨u, ?_, q2.ext hext⟩
    simpa [q1] using hcell
   cases ob with
   | dead => intro b hb; rw [hmu3 id xd] at hb; exact Nat.lt_of_lt_of_le (h1 b hb) he.size
   | row sz cs =>
    simp only [ObOk, hmu3 id xd] at h1 ⊢
    cases hx : G.mu id with
    | none => rw [hx] at h1; exact h1
    | some x =>
     rw [hx] at h1
     cases x with
     | none => exact h1
     | some b =>
      have hrow : rowsOf G (σ ++ X) σ.length b := ⟨id, by omega, ⟨sz, cs, hobX⟩, hx⟩
      refine ⟨keepRow h1.1 (fun k e j _ _ => .inr (.inr hrow)), ?_, fun o h => ?_⟩
      ·
       show G'.base ≤ b
       rw [he.base]; exact h1.2.1
      ·
       rcases h with h | h
       ·
        rcases he.prN b o h with h2 | h2
        ·
         exact h1.2.2 o (.inl h2)
        ·
         exact h2 (.inr hrow)
       ·
        exact h1.2.2 o (.inr h)
   | fz sz cs =>
    simp only [ObOk, hmu3 id xd] at h1 ⊢
    cases hx : G.mu id with
    | none => rw [hx] at h1; exact h1
    | some x =>
     rw [hx] at h1
     cases x with
     | none => exact h1
     | some b => exact ⟨keepRow h1.1 (fun k e j hk hj => .inl (h1.2 k e j hk hj)), fun k e j hk hj => he.st _ _ (h1.2 k e j hk hj)⟩
   | mp X => exact hnm.elim
 ·
  have cross : ∀ i j, i < σ.length → σ.length ≤ j → alive (σ' ++ X) i → alive (σ' ++ X) j → G2.mu i = some (some b) → G2.mu j = some (some b) → False := fun i j hi hj ⟨sz, cs, a1⟩ ⟨sz', cs', a2⟩ m1 m2 => by
   rw [List.getElem?_append_left xd] at a1
   rw [List.getElem?_append_right xd, hl] at a2
   rw [hmu2 i hi] at m1
   rw [hmu3 j hj] at m2
   have h3 := hr'.obs i _ a1
   simp only [ObOk, m1] at h3
   exact h3.2.2 0 (.inr (hprot b ⟨j, hj, ⟨sz', cs', by rw [List.getElem?_append_right xd]; exact a2⟩, m2⟩ 0))
  rcases Nat.lt_or_ge i σ.length with hi' | hi' <;> rcases Nat.lt_or_ge j σ.length with hj' | hj'
  ·
   obtain ⟨sz, cs, a1⟩ := hi
   obtain ⟨sz', cs', a2⟩ := hj
   rw [List.getElem?_append_left xd] at a1 a2
   rw [hmu2 i hi'] at h1
   rw [hmu2 j hj'] at h2
   exact hr'.inj i j b ⟨sz, cs, a1⟩ ⟨sz', cs', a2⟩ h1 h2
  ·
   exact (cross i j hi' hj' hi hj h1 h2).elim
  ·
   exact (cross j i hj' hi' hj hi h2 h1).elim
  ·
   obtain ⟨sz, cs, a1⟩ := hi
   obtain ⟨sz', cs', a2⟩ := hj
   rw [List.getElem?_append_right xd, hl] at a1 a2
   rw [hmu3 i hi'] at h1
   rw [hmu3 j hj'] at h2
   refine hr.inj i j b ⟨sz, cs, ?_⟩ ⟨sz', cs', ?_⟩ h1 h2
   ·
    rw [List.getElem?_append_right xd]; exact a1
   ·
    rw [List.getElem?_append_right xd]; exact a2
 ·
  rw [List.length_append, hl] at hid
  rw [hmu3 id xd]
  exact hr.fresh id (by rw [List.length_append]; exact hid)
theorem CallE.frame1 {a a' : Ob} (h : CallE P f args [a] r [a']) (X : List Ob) (hX : ∀ ob ∈ X, NoMp ob) (hm : NoMp a) (hm' : NoMp a') (ha : ∀ x ∈ args, Lo 1 x) (ho : ObLo 1 a) : CallE P f args (a :: X) r (a' :: X) :=
 h.frame (σ := [a]) (σ' := [a']) rfl hX (by simpa using hm) (by simpa using hm') ha (by simpa using ho)
end
end Go.Proofs.YtllkbjcemecmjaaGreat.Aw
end
section
namespace Go.Proofs.YtllkbjcemecmjaaGreat.Aw
open Go Go.RowKit Go.Proofs
variable {P : Program} [IsP P]
inductive Wn : AV → AV → Prop
 | refl (x : AV) : Wn x x
 | nil : Wn (.s (.slice none 0 0)) (.sl [])
 | emp : Wn .emp (.sl [])
 | agg (cs cs' : List AV) (hl : cs.length = cs'.length) (h : ∀ (j : Nat) x y, cs[j]? = some x → cs'[j]? = some y → Wn x y) : Wn (.agg cs) (.agg cs')
 | tup (cs cs' : List AV) (hl : cs.length = cs'.length) (h : ∀ (j : Nat) x y, cs[j]? = some x → cs'[j]? = some y → Wn x y) : Wn (.tup cs) (.tup cs')
theorem Wn.one {x y : AV} (h : Wn x y) (hx : x.one = true) : y.one = true := by
 cases h <;> first | exact hx | rfl | (simp [AV.one] at hx)
theorem rep_wn {G : Cx} {x y : AV} (h : Wn x y) : ∀ {v : Value}, Rep G v x → Rep G v y := by
 induction h with
 | refl x => exact fun h => h
 | nil => exact fun h => rep_nil h
 | emp => intro v h; cases h with | emp A hA => exact .slnil A 0
 | agg cs cs' hl h ih =>
  intro v hv
  cases hv with
  | agg vs _ g1 g2 g3 =>
   refine .agg vs cs' (g1.trans hl) (fun c hc => ?_) (fun j v c hv hc => ?_)
   ·
    obtain ⟨j, hj, rfl⟩ := List.mem_iff_getElem.1 hc
    exact (h j _ _ (List.getElem?_eq_getElem xd) (List.getElem?_eq_getElem hj)).one (g2 _ (List.getElem_mem xd))
   ·
    have hj : j < cs.length := by rw [hl]; exact (List.getElem?_eq_some_iff.1 hc).1
    exact ih j _ c (List.getElem?_eq_getElem hj) hc (g3 j v _ hv (List.getElem?_eq_getElem hj))
 | tup cs cs' hl h ih =>
  intro v hv
  cases hv with
  | tup vs _ g1 g3 =>
   refine .tup vs cs' (g1.trans hl) (fun j v c hv hc => ?_)
   have hj : j < cs.length := by rw [hl]; exact (List.getElem?_eq_some_iff.1 hc).1
   exact ih j _ c (List.getElem?_eq_getElem hj) hc (g3 j v _ hv (List.getElem?_eq_getElem hj))
def WnL (l l' : List AV) : Prop := l.length = l'.length ∧ ∀ (j : Nat) x y, l[j]? = some x → l'[j]? = some y → Wn x y
theorem WnL.nil : WnL [] [] := ⟨rfl, by simp⟩
theorem WnL.cons {x y : AV} {l l' : List AV} (h : Wn x y) (t : WnL l l') : WnL (x :: l) (y :: l') := by
 refine ⟨by simp [t.1], fun j a b ha hb => ?_⟩
 cases j with
 | zero => simp at ha hb; subst ha hb; exact h
 | succ j => exact t.2 j a b (by simpa using ha) (by simpa using hb)
theorem WnL.agg {l l' : List AV} (h : WnL l l') : Wn (.agg l) (.agg l') := .agg _ _ h.1 h.2
theorem WnL.tup {l l' : List AV} (h : WnL l l') : Wn (.tup l) (.tup l') := .tup _ _ h.1 h.2
theorem K1.callE_fnW {σ σ' : List Ob} {f : FuncId} {y : AV} {args : List AV} {fn : Func} {c : Code} (hl : σ.length = 1) (hl' : σ'.length = 1) (ho : ∀ ob ∈ σ', ObLo 1 ob) (hy : Lo 1 y) (hf : P.funcs[f]? = some fn) (hname : (fn.name == "runtime.NumGoroutine") = false) (hb : fn.body = some c) (hn : args.length ≤ fn.ntmps)
  (h : K1.KWp P fn.ntmps c (argF 0 args) σ (fun e F σ1 => (e = .normal ∨ e = .ret) ∧ ∃ X xs, σ1 = σ' ++ X ∧ ResL P F σ1 fn.results.toList xs ∧ Wn (oneOf xs) y)) : CallE P f args σ y σ' := by
 refine ⟨enters_of hf hname hb, fun G vargs hrel hsz hrep => ?_⟩
 refine calls_of_wp hf hb ?_
 have hfo : FOk G { tmps := vargs ++ Array.replicate (fn.ntmps - vargs.size) undef, defers := [] } (argF 0 args) := by
  intro d
  rw [argF_get]
  simp only [Nat.zero_le, if_true, Nat.sub_zero]
  by_cases hd : d < args.length
  ·
   have h1 : (vargs ++ Array.replicate (fn.ntmps - vargs.size) undef).getD d undef = vargs[d]'(by omega) := by
    rw [Array.getD_eq_getD_getElem?, Array.getElem?_append_left xd]
    simp [show d < vargs.size by omega]
   rw [h1]
   have h2 : args.getD d .any = args[d] := by rw [List.getD_eq_getElem?_getD, List.getElem?_eq_getElem hd]; rfl
   rw [h2]
   exact hrep d _ _ (by simp [show d < vargs.size by omega]) (by simp [hd])
  ·
   have h2 : args.getD d .any = .any := by
    rw [List.getD_eq_getElem?_getD, List.getElem?_eq_none xd]; rfl
   rw [h2]; exact .any _
 have hs8 : S8 fn.ntmps G { tmps := vargs ++ Array.replicate (fn.ntmps - vargs.size) undef, defers := [] } (argF 0 args) σ := ⟨hrel, hfo, rfl, by simp; omega⟩
 refine Code.wp_mono (fun e a w q => ?_) (h G _ hs8)
 obtain ⟨G', F', σ1, rfl, h2, h3, he, X, xs, rfl, hrl, hw⟩ := q
 obtain ⟨v, h6, h7⟩ := results_run (fn := fn) h3.rel h3.fr hrl
 replace h7 := rep_wn hw h7
 have hext : G.Ext (G'.cut 1) := ⟨h2.step.base, h2.step.w0, h2.step.st, h2.step.cell, fun id x hx => by
  by_cases hid : id < 1
  ·
   have := h2.mu0 id x hid hx
   simp only [Cx.cut, if_pos hid]; exact this
  ·
   rw [hrel.fresh id xd] at hx; exact absurd hx xo, h2.size, h2.rows, h2.step.stN, h2.step.pr, h2.step.prN⟩
 have htk : (σ' ++ X).take 1 = σ' := by rw [List.take_append_of_le_length xd, List.take_of_length_le xd]
 have hrel' : Rel (G'.cut 1) σ' := by
  have := cut_rel (k := 1) h3.rel (by rw [List.length_append]; omega) (by rw [htk]; exact ho)
  rwa [htk] at this
 have post : ∃ (v' : Value) (G'' : Cx), Ending.returned v = .returned v' ∧ G''.w = G'.w ∧ G.Ext G'' ∧ Rel G'' σ' ∧ Rep G'' v' y := ⟨v, G'.cut 1, rfl, rfl, hext, hrel', h7.low hy (fun _ _ h => h) (fun _ _ _ => rfl) (fun id y hid hy => by simp only [Cx.cut, if_pos hid]; exact hy) (fun _ => zcc.refl _)⟩
 rcases he with rfl | rfl
 ·
  exact ⟨h3.df, _, h6, post⟩
 ·
  exact ⟨h3.df, _, h6, post⟩
theorem noMp1 (X : List Ob) (h : X.all (fun ob => match ob with | .mp _ => false | _ => true) = true) : ∀ ob ∈ X, NoMp ob := fun ob hob => by
 have := List.all_eq_true.1 h ob hob
 cases ob <;> first | trivial | cases this
def zBr : Br := .mk 0 0 [] []
def zdm (lo hi : List Int) : Nat → Int
 | 0 => -1
 | i + 1 => if 0 < gti hi i - gti lo i ∧ (zdm lo hi i < 0 ∨ gti hi (zdm lo hi i).toNat - gti lo (zdm lo hi i).toNat < gti hi i - gti lo i) then (i : Int) else zdm lo hi i
theorem wideF_bd (lo hi : List Int) : ∀ i, -1 ≤ zdm lo hi i ∧ zdm lo hi i < i ∧ (0 ≤ zdm lo hi i → 0 < gti hi (zdm lo hi i).toNat - gti lo (zdm lo hi i).toNat)
 | 0 => by unfold zdm; omega
 | i + 1 => by
  have ih := wideF_bd lo hi i
  unfold zdm
  split
  ·
   rename_i h
   refine ⟨by omega, by omega, fun _ => ?_⟩
   rw [Int.toNat_natCast]; exact h.1
  ·
   exact ⟨ih.1, by omega, ih.2.2⟩
noncomputable def prvT (d : List Int) (l : List Sft) (cost : Int) : Nat → Int → List Int → List Int → Br × Bool × Int
 | 0, n, _, _ => (zBr, false, n)
 | f + 1, n, lo, hi =>
  if n - 1 < 0 then (zBr, false, n - 1) else
  if (mltE d l cost lo hi).2 = true ∧ prvB d l lo hi (mltE d l cost lo hi).1 cost = true then (.mk 0 0 [] (mltE d l cost lo hi).1, true, n - 1) else
  if prvB d l lo hi (simE d l cost hi) cost = true then (.mk 0 0 [] (simE d l cost hi), true, n - 1) else
  if zdm lo hi l.length < 0 then (zBr, false, n - 1) else
  if (prvT d l cost f (n - 1) lo (setI hi (zdm lo hi l.length).toNat ((gti lo (zdm lo hi l.length).toNat + gti hi (zdm lo hi l.length).toNat) / 2))).2.1 = false then (zBr, false, (prvT d l cost f (n - 1) lo (setI hi (zdm lo hi l.length).toNat ((gti lo (zdm lo hi l.length).toNat + gti hi (zdm lo hi l.length).toNat) / 2))).2.2) else
  let t := (gti lo (zdm lo hi l.length).toNat + gti hi (zdm lo hi l.length).toNat) / 2
  let a := prvT d l cost f (n - 1) lo (setI hi (zdm lo hi l.length).toNat t)
  let b := prvT d l cost f a.2.2 (setI lo (zdm lo hi l.length).toNat (t + 1)) hi
  (.mk (zdm lo hi l.length) t [a.1, b.1] [], b.2.1, b.2.2)
theorem prvT_bd (d : List Int) (l : List Sft) (cost : Int) : ∀ (f : Nat) (n : Int) (lo hi : List Int), 0 ≤ n → -1 ≤ (prvT d l cost f n lo hi).2.2 ∧ (prvT d l cost f n lo hi).2.2 ≤ n ∧ ((prvT d l cost f n lo hi).2.1 = true → 0 ≤ (prvT d l cost f n lo hi).2.2)
 | 0, n, lo, hi, h => by unfold prvT; dsimp only; exact ⟨by omega, by omega, fun h => by cases h⟩
 | f + 1, n, lo, hi, h => by
  unfold prvT
  split
  ·
   dsimp only; exact ⟨by omega, by omega, fun h => by cases h⟩
  ·
   split
   ·
    dsimp only; exact ⟨by omega, by omega, fun h => by omega⟩
   ·
    split
    ·
     dsimp only; exact ⟨by omega, by omega, fun h => by omega⟩
    ·
     split
     ·
      dsimp only; exact ⟨by omega, by omega, fun h => by cases h⟩
     ·
      have h1 := prvT_bd d l cost f (n - 1) lo (setI hi (zdm lo hi l.length).toNat ((gti lo (zdm lo hi l.length).toNat + gti hi (zdm lo hi l.length).toNat) / 2)) xd
      split
      ·
       dsimp only; exact ⟨h1.1, by omega, fun h => by cases h⟩
      ·
       rename_i hb
       have h2 := prvT_bd d l cost f _ (setI lo (zdm lo hi l.length).toNat ((gti lo (zdm lo hi l.length).toNat + gti hi (zdm lo hi l.length).toNat) / 2 + 1)) hi (h1.2.2 (by simpa using hb))
       dsimp only
       exact ⟨h2.1, by omega, h2.2.2⟩
def boxM (lo hi : List Int) : Nat → Nat
 | 0 => 0
 | n + 1 => boxM lo hi n + (gti hi n - gti lo n).toNat
theorem boxM_congr {lo hi lo' hi' : List Int} : ∀ {n : Nat}, (∀ i, i < n → (gti hi' i - gti lo' i).toNat ≤ (gti hi i - gti lo i).toNat) → boxM lo' hi' n ≤ boxM lo hi n
 | 0, _ => Nat.le_refl _
 | n + 1, h => by
  have h1 := boxM_congr (n := n) (fun i hi => h i xd)
  have h2 := h n xd
  show boxM lo' hi' n + _ ≤ boxM lo hi n + _
  omega
theorem boxM_lt {lo hi lo' hi' : List Int} {k : Nat} : ∀ {n : Nat}, k < n → (∀ i, i < n → (gti hi' i - gti lo' i).toNat ≤ (gti hi i - gti lo i).toNat) → (gti hi' k - gti lo' k).toNat < (gti hi k - gti lo k).toNat → boxM lo' hi' n < boxM lo hi n
 | 0, h, _, _ => by omega
 | n + 1, h, h1, h2 => by
  have h3 := boxM_congr (n := n) (fun i hi => h1 i xd)
  have h4 := h1 n xd
  show boxM lo' hi' n + _ < boxM lo hi n + _
  by_cases e : k = n
  ·
   subst e; omega
  ·
   have := boxM_lt (n := n) xd (fun i hi => h1 i xd) h2
   omega
theorem boxM_hi {lo hi : List Int} {n k : Nat} {t : Int} (hk : k < n) (hl : k < hi.length) (h1 : gti lo k ≤ t) (h2 : t < gti hi k) : boxM lo (setI hi k t) n < boxM lo hi n := by
 refine boxM_lt hk (fun i _ => ?_) ?_
 ·
  rw [setI_gti hl]; split
  ·
   rename_i e; subst e; omega
  ·
   exact Nat.le_refl _
 ·
  rw [setI_gti hl, if_pos rfl]; omega
theorem boxM_lo {lo hi : List Int} {n k : Nat} {t : Int} (hk : k < n) (hl : k < lo.length) (h1 : gti lo k < t) (h2 : t ≤ gti hi k) : boxM (setI lo k t) hi n < boxM lo hi n := by
 refine boxM_lt hk (fun i _ => ?_) ?_
 ·
  rw [setI_gti hl]; split
  ·
   rename_i e; subst e; omega
  ·
   exact Nat.le_refl _
 ·
  rw [setI_gti hl, if_pos rfl]; omega
end Go.Proofs.YtllkbjcemecmjaaGreat.Aw
end
section
namespace Go.Proofs.YtllkbjcemecmjaaGreat.Aw
open Go Go.RowKit Go.Proofs
variable {P : Program} [IsP P]
theorem pure_emp {f : FuncId} {r : AV} (h0 : Pure P f [.s (.slice none 0 0)] r) (h1 : ∀ a : Addr, a.spot = none → Pure P f [.s (.slice (some a) 0 0)] r) : Pure P f [.emp] r :=
 ⟨h0.ent, h0.lo, fun G vargs hs hsz hrep => by
  have hlt : 0 < vargs.size := by rw [hsz]; simp
  have g := hrep 0 vargs[0] .emp (by simp [hlt]) rfl
  have one : ∀ {x : AV}, Rep G vargs[0] x → ∀ (j : Nat) v y, vargs[j]? = some v → [x][j]? = some y → Rep G v y := by
   intro x hx j v y hv hy
   cases j with
   | zero => simp at hy; subst hy; rw [Array.getElem?_eq_getElem hlt] at hv; cases hv; exact hx
   | succ j => simp at hy
  generalize hv : vargs[0] = v0 at g
  cases g with
  | emp A hA =>
   cases A with
   | none => exact h0.call G vargs hs hsz (one (by rw [hv]; exact .s _))
   | some a => exact (h1 a (hA a rfl)).call G vargs hs hsz (one (by rw [hv]; exact .s _))⟩
section
variable {o : Oper} {F : Frm} {σ : List Ob}
theorem does_append_e {t e : TypeId} {s y : Operand} {z : Option Value} {sz bt : Nat} {a : Addr} (ho : o.op = .call { callee := .builtin .append, args := #[s, y], argTypes := #[t, t] })
  (ht : zcd P t = some e) (hi : zb5 P e = some (z, sz, bt)) (hx : F.eval s = .emp) (hy : F.eval y = .s (.slice (some a) 0 0)) : Does P o F σ .emp σ :=
 zch fun G ρ hr hop => by
  have g1 := hop s (by simp [ho, Op.operands, Call.operands])
  have g2 := hop y (by simp [ho, Op.operands, Call.operands])
  rw [hx] at g1
  rw [hy] at g2
  have g2 := rep_s g2
  generalize hv1 : ρ s = v1 at g1
  cases g1 with
  | emp B hB =>
   have hrun : (Builtin.append_ #[t, t] o.type #[.slice B 0 0, .slice (some a) 0 0]).run P G.w = .ok (.slice B 0 0) G.w := by
    have hf : (Builtin.firstCells sz 0 (.slice (some a) 0 0)).run P G.w = .ok #[] G.w := run_firstCells_some (P := P) G.w sz 0 a 0 0 [] xo xo
    cases B with
    | none => simp [Builtin.append_, run_underlying (zdv ht), zcw hi, Builtin.lenOf, hf]
    | some a => simp [Builtin.append_, run_underlying (zdv ht), zcw hi, Builtin.lenOf, hf, storeCells]
   refine ⟨.slice B 0 0, ?_, .emp B hB⟩
   simp only [execOp, ho, resolve, invoke, builtin, Sem.run_bind, Sem.run_pure, Result.andThen_ok, List.map_toArray, List.map_cons, List.map_nil, hv1, g2, hrun]
theorem does_eqsome {t t' e : TypeId} {x y : Operand} {a : Addr} (ho : o.op = .binOp .eql t x y t') (ht : zcd P t = some e) (hx : F.eval x = .s (.slice (some a) 0 0)) (hy : F.eval y = .s (.slice none 0 0)) : Does P o F σ (.s (.bool false)) σ :=
 zch fun G ρ hr hop => by
  have g1 := hop x (by simp [ho, Op.operands])
  have g2 := hop y (by simp [ho, Op.operands])
  rw [hx] at g1
  rw [hy] at g2
  have g1 := rep_s g1
  have g2 := rep_s g2
  have := run_nil_cmp (P := P) ht x y (some a) 0 0 .eql G.w (r := false) (.inl ⟨rfl, rfl⟩)
  refine ⟨.bool false, ?_, .s _⟩
  rw [Sem.run_bind] at this
  simp only [execOp, ho, Sem.run_bind, g1, g2]
  exact this ▸ rfl
end
theorem rep_semp {G : Cx} {v : Value} (h : Rep G v (.s (.slice none 0 0))) : Rep G v .emp := by cases h; exact .emp none (fun a ha => by cases ha)
theorem wk_semp {N d : Nat} {F : Frm} {σ : List Ob} (hd : F.get d = .s (.slice none 0 0)) : Weak N F σ ((d, .emp) :: F) σ := fun G a h =>
 ⟨G, rfl, .refl G, h.rel, h.fr.more (rep_semp (by rw [← hd]; exact h.fr d)), h.df, h.nt⟩
theorem cloneE0_pf : Pure P 33 [.s (.slice none 0 0)] .emp := by
 refine zcl (by rw [IsP.eq (P := P)]; exact Tryz.func33) rfl rfl rfl rfl rfl (zah (.s _) zak) .emp (by simp only [argF]; rfl) ?_
 refine zag (zab (zac rfl (zad (zag (zag (zab (zac rfl (zaf rfl rfl (zaa rfl) (does_eqnil0 rfl ts22 rfl rfl (.inl ⟨rfl, rfl⟩)) (zad (zai (za5 rfl (zag (zab (zac rfl (zad (zai ?_))))))))))))))))
 refine zbg (wk_semp (d := 2) rfl) ?_
 (refine za7 ?_; repeat (first | refine zbc ?_ | refine zbe ?_))
 exact zb6 (.inr rfl) rfl rfl
theorem cloneE1_pf (a : Addr) : Pure P 33 [.s (.slice (some a) 0 0)] .emp := by
 refine zcl (by rw [IsP.eq (P := P)]; exact Tryz.func33) rfl rfl rfl rfl rfl (zah (.s _) zak) .emp (by simp only [argF]; rfl) ?_
 refine zag (zab (zac rfl (zad (zag (zag (zab (zac rfl (zaf rfl rfl (zaa rfl) (does_eqsome (a := a) rfl ts22 rfl rfl) (zad (zai (zau rfl (zar (zag (zab (zaf rfl rfl (zaa rfl) (does_lit0 rfl rfl ts22 ti3) (zac rfl (zaf rfl rfl (zaa rfl) (does_append_e (a := a) rfl ts22 ti3 rfl rfl) (zac rfl (zad (zai ?_))))))))))))))))))))
 (refine za7 ?_; repeat (first | refine zbc ?_ | refine zbe ?_))
 exact zb6 (.inr rfl) rfl rfl
theorem cloneE_pf : Pure P 33 [.emp] .emp := pure_emp cloneE0_pf (fun a ha => cloneE1_pf a)
end Go.Proofs.YtllkbjcemecmjaaGreat.Aw
end
section
namespace Go.Proofs.YtllkbjcemecmjaaGreat.Aw
open Go Go.RowKit Go.Proofs
variable {P : Program} [IsP P]
theorem callE_emp {f : FuncId} {args : List AV} (hp : Pure P f args .emp) (sz : Nat) (σ : List Ob) : CallE P f args σ (.own σ.length sz 0) (σ ++ [.row sz []]) :=
 ⟨hp.ent, fun G vargs hr hsz hrep => (hp.call G vargs ⟨fun b o h => hr.st b o (.inl h), hr.below.now⟩ hsz hrep).mono (by
  rintro e w' ⟨v, G1, rfl, hw, hbel, hs1, hs2, hs3, hv⟩
  obtain ⟨h4, h5⟩ := after_call hr hw hbel hs1 hs2 hs3
  subst hw
  have k1 := nil_ext h5
  have k2 := nil_rel h5 sz
  cases hv with
  | emp A hA => exact ⟨_, ({ G with w := G1.w, St := G1.St } : Cx).new σ.length G1.w none, rfl, rfl, h4.trans k1, k2, .own0 σ.length sz A hA (by simp [Cx.new])⟩)⟩
theorem look_callb {o : Oper} {F : Frm} {σ : List Ob} {fo : Operand} {ar : Array Operand} {ts : Array TypeId} {f : FuncId} {caps args : List AV} {r : AV} {R : List Nat} (ho : o.op = .call { callee := .value fo, args := ar, argTypes := ts }) (hf : F.eval fo = .fn f caps) (hp : Pure P f args r)
  (ha : ∀ σ2 : List Ob, (∀ i ∈ R, σ2[i]? = σ[i]?) → zbd σ2 (ar.toList.map F.eval ++ caps) args) (hfl : Flat r) : ∀ σ2 : List Ob, (∀ i ∈ R, σ2[i]? = σ[i]?) → Does P o F σ2 r σ2 :=
 fun σ2 h => does_callb ho hf hp (ha σ2 h) hfl
def bstA : Option (List Int) → AV
 | none => .s (.slice none 0 0)
 | some c => eL eI c
def srA (d : List Int) (l : List Sft) (s : Option (List Int) × Int) : AV := .agg [eL eI d, eL eSh l, bstA s.1, eI s.2]
theorem lo_bst (b : Option (List Int)) : Lo 0 (bstA b) := by
 cases b with
 | none => exact .s _
 | some c => exact zan fun _ => .s _
theorem lo_srA {k : Nat} (d : List Int) (l : List Sft) (s : Option (List Int) × Int) : Lo k (srA d l s) := lo_up (.agg _ (zah (zan fun _ => .s _) (zah (zan lo_Sh) (zah (lo_bst _) (zah (.s _) zak)))))
theorem sr_ren {ρ : List Nat} {d : List Int} {l : List Sft} {s : Option (List Int) × Int} : ObRn ρ (.row 4 [srA d l s]) (.row 4 [srA d l s]) := .rowE (by
 intro e he c hc
 simp only [List.mem_singleton] at he
 subst he
 exact (lo_srA d l s).cells c hc) rfl
def tryE (d : List Int) (l : List Sft) : Nat → List Int → Int → Option (List Int) × Int → Option (List Int) × Int
 | 0, _, _, st => st
 | f + 1, c, sp, st =>
  if st.1.isSome = true ∧ st.2 ≤ sp then st else
  if 0 ≤ shE d l (c ++ (zcs l).drop c.length) then st else
  if c.length = l.length then (some c, sp) else
  (List.range ((gti l c.length).most + 1).toNat).foldl (fun st (n : Nat) => tryE d l f (c ++ [(n : Int)]) (sp + n * (gti l c.length).cost) st) st
structure CN (l : List Sft) (c : List Int) : Prop where
 le : c.length ≤ l.length
 bd : ∀ k, k < c.length → 0 ≤ gti c k ∧ gti c k ≤ (gti l k).most
theorem gti_snoc {α : Type} [Inhabited α] {c : List α} {x : α} {k : Nat} : gti (c ++ [x]) k = if k < c.length then gti c k else if k = c.length then x else default := by
 unfold gti
 split
 ·
  rename_i h; rw [List.getElem?_append_left h]
 ·
  rename_i h
  rw [List.getElem?_append_right xd]
  split
  ·
   rename_i e; rw [e, Nat.sub_self]; rfl
  ·
   obtain ⟨i, hi⟩ : ∃ i, k - c.length = i + 1 := ⟨k - c.length - 1, by omega⟩
   rw [hi]; rfl
theorem CN.snoc {l : List Sft} {c : List Int} {n : Nat} (h : CN l c) (hl : c.length < l.length) (hn : (n : Int) ≤ (gti l c.length).most) : CN l (c ++ [(n : Int)]) :=
 ⟨by simp; omega, fun k hk => by
  rw [gti_snoc]
  simp at hk
  by_cases e : k < c.length
  ·
   rw [if_pos e]; exact h.bd k e
  ·
   have e2 : k = c.length := by omega
   rw [if_neg e, if_pos e2, e2]; exact ⟨by omega, hn⟩⟩
theorem CN.okC {d : List Int} {l : List Sft} {c : List Int} (hv : zce d l = true) (h : CN l c) : okC l (c ++ (zcs l).drop c.length) := by
 obtain ⟨⟨_, _, q3⟩, _, ql⟩ := zb4 hv
 have hle := h.le
 refine ⟨by simp [zcs]; omega, q3, fun k hk => ?_⟩
 have hm := (ql k hk).1
 by_cases e : k < c.length
 ·
  have := h.bd k e
  have e1 : gti (c ++ (zcs l).drop c.length) k = gti c k := by unfold gti; rw [List.getElem?_append_left e]
  rw [e1]; omega
 ·
  have e1 : gti (c ++ (zcs l).drop c.length) k = gti (zcs l) k := by unfold gti; rw [List.getElem?_append_right xd, List.getElem?_drop, show c.length + (k - c.length) = k by omega]
  rw [e1, mostL_gti hk]; omega
def StO (l : List Sft) (st : Option (List Int) × Int) : Prop := (∀ b, st.1 = some b → b.length = l.length) ∧ 0 ≤ st.2 ∧ st.2 ≤ 240000
theorem tryE_ok {d : List Int} {l : List Sft} (hv : zce d l = true) : ∀ (f : Nat) (c : List Int) (sp : Int) (st : Option (List Int) × Int), CN l c → 0 ≤ sp → sp ≤ 20000 * c.length → StO l st → StO l (tryE d l f c sp st)
 | 0, c, sp, st, _, _, _, h => h
 | f + 1, c, sp, st, hc, h0, h1, h => by
  obtain ⟨⟨_, _, q3⟩, _, ql⟩ := zb4 hv
  have hle := hc.le
  unfold tryE
  split
  ·
   exact h
  ·
   split
   ·
    exact h
   ·
    split
    ·
     rename_i e
     exact ⟨fun b hb => by cases hb; exact e, h0, by omega⟩
    ·
     rename_i e
     have hlt : c.length < l.length := by omega
     have hm := (ql c.length hlt).1
     have key : ∀ N : Nat, (N : Int) ≤ (gti l c.length).most + 1 → StO l ((List.range N).foldl (fun st (n : Nat) => tryE d l f (c ++ [(n : Int)]) (sp + n * (gti l c.length).cost) st) st) := by
      intro N
      induction N with
      | zero => intro _; exact h
      | succ N ih =>
       intro hN
       rw [List.range_succ, List.foldl_append]
       have hmb := mul_bd (a := (gti l c.length).cost) (b := (N : Int)) xd xd xd xd
       rw [Int.mul_comm] at hmb
       exact tryE_ok hv f _ _ _ (hc.snoc hlt xd) xd (by simp; omega) (ih xd)
     exact key _ xd
theorem sr_frame {f : FuncId} {r : AV} {d : List Int} {l : List Sft} {c : List Int} {sp : Int} {s s' : Option (List Int) × Int} (h : CallE P f [.ptr 0 4 0 0, eL eI c, eI sp] [.row 4 [srA d l s]] r [.row 4 [srA d l s']]) (X : List Ob) (hX : ∀ ob ∈ X, NoMp ob) : CallE P f [.ptr 0 4 0 0, eL eI c, eI sp] (.row 4 [srA d l s] :: X) r (.row 4 [srA d l s'] :: X) :=
 h.frame1 X hX trivial trivial (zah (.ptr _ _ _ _ xf) (zah (lo_up (zan fun _ => .s _)) (zah (.s _) zak))) (by intro c hc; simp only [List.mem_singleton] at hc; subst hc; exact lo_srA _ _ _)
theorem nn_eL {c : List Int} (h : c ≠ []) : NonNil (eL eI c) := by
 cases c with
 | nil => exact absurd rfl h
 | cons x t => exact .sl _ _
theorem does_len_a {o : Oper} {F : Frm} {σ : List Ob} {c : List Int} {a : AV} {t e : TypeId} {x : Operand} (ha : (c = [] ∧ a = .emp) ∨ (c ≠ [] ∧ a = eL eI c)) (ho : o.op = .call { callee := .builtin .len, args := #[x], argTypes := #[t] }) (ht : zcd P t = some e) (hx : F.eval x = a) : Does P o F σ (eI (c.length : Nat)) σ := by
 rcases ha with ⟨rfl, rfl⟩ | ⟨_, rfl⟩
 ·
  exact does_len_emp ho ht hx
 ·
  exact zao ho ht hx
namespace K1
theorem try_res {F : Frm} {st : AV} {X : List Ob} : ∃ X' xs, Ob.row 4 [st] :: X = [Ob.row 4 [st]] ++ X' ∧ ResL P F (Ob.row 4 [st] :: X) [] xs ∧ Wn (oneOf xs) (.tup []) := ⟨X, [], rfl, .nil, .refl _⟩
set_option maxHeartbeats 16000000 in
theorem try_call (d : List Int) (l : List Sft) (hv : zce d l = true) : ∀ (f : Nat) (c : List Int) (a : AV) (sp : Int) (st : Option (List Int) × Int), l.length - c.length < f → CN l c → 0 ≤ sp → sp ≤ 20000 * c.length → StO l st → (st.1.isSome = true → l.length ≠ 0) → ((c = [] ∧ a = .emp) ∨ (c ≠ [] ∧ a = eL eI c)) →
  CallE P 19 [.ptr 0 4 0 0, a, eI sp] [.row 4 [srA d l st]] (.tup []) [.row 4 [srA d l (tryE d l f c sp st)]] := by
 intro f
 induction f with
 | zero => intro c a sp st h; omega
 | succ f IH =>
 intro c a sp st hm hc h0 h1 hst hne ha
 obtain ⟨⟨q1, q2, q3⟩, qd, ql⟩ := zb4 hv
 have hle := hc.le
 have hcl : ∀ σ, CallE P 33 [a] σ (.own σ.length 1 c.length) (σ ++ [.row 1 (c.map eI)]) := by
  intro σ
  rcases ha with ⟨rfl, rfl⟩ | ⟨h, rfl⟩
  ·
   exact callE_emp cloneE_pf 1 σ
  ·
   exact cloneI_call c (by cases c with | nil => exact absurd rfl h | cons x t => simp) xd σ
 have hmo := most_pf (P := P) l q3
 have hsh := short_pf (P := P) d l (c ++ (zcs l).drop c.length) hv (hc.okC hv)
 have hmll : (zcs l).length = l.length := mostL_len l
 have hal := ha
 have hLoa : Lo 0 a := by
  rcases ha with ⟨_, rfl⟩ | ⟨_, rfl⟩
  ·
   exact .emp
  ·
   exact zan fun _ => .s _
 obtain ⟨b, cost⟩ := st
 obtain ⟨g1, g2, g3⟩ := hst
 dsimp only at g1 g2 g3 hne
 have HI : tryE d l (f + 1) c sp (b, cost) = tryE d l (f + 1) c sp (b, cost) := rfl
 conv at HI => rhs; unfold tryE
 dsimp only at HI
 generalize tryE d l (f + 1) c sp (b, cost) = R at HI ⊢
 generalize hsv : shE d l (c ++ (zcs l).drop c.length) = sv at hsh HI
 refine callE_fnW rfl rfl (by intro ob h; simp only [List.mem_singleton] at h; subst h; intro c hc; simp only [List.mem_singleton] at hc; subst hc; exact lo_srA _ _ _) (.tup _ zak) (by rw [IsP.eq (P := P)]; exact Tryz.func19) rfl rfl (Nat.le_of_ble_eq_true rfl) ?_
 simp only [argF]
 have hsplit : (b = none) ∨ (∃ x, b = some x ∧ x ≠ []) := by
  cases b with
  | none => exact .inl rfl
  | some x =>
   refine .inr ⟨x, rfl, fun h => ?_⟩
   have h1 := g1 x rfl
   have h2 := hne rfl
   rw [h] at h1
   exact h2 h1.symm
 refine kw_seq (kw_seq ?_)
 by_cases hpr : b.isSome = true ∧ cost ≤ sp
 ·
  rcases hsplit with rfl | ⟨x, rfl, hxn⟩
  ·
   exact absurd hpr.1 xo
  rw [if_pos hpr] at HI
  refine kw_region (kops_s rfl (kops_s rfl (kops_f tf52_2 rfl (kops_op rfl rfl (zaa rfl) (zaq rfl ta22 rfl rfl rfl rfl rfl) (kops_op rfl rfl (zaa rfl) (does_eqnil rfl ts22 rfl (nn_eL hxn) rfl (.inr ⟨rfl, rfl⟩)) (kops_s rfl (kops_s rfl (kops_s rfl (kops_s rfl (kops_f tf52_3 rfl (kops_op rfl rfl (zat rfl rfl rfl) (zaq rfl ta3 rfl rfl rfl rfl rfl) (kops_op rfl rfl (zat rfl rfl rfl) (zdc hpr.2 (zcp rfl rfl rfl)) (kops_s rfl (kops_nil (zai (kw_true rfl ?_))))))))))))))))
  subst HI
  (refine kw_ret ?_; repeat (first | refine zbc ?_ | refine zbe ?_))
  exact ⟨.inr rfl, try_res⟩
 rw [if_neg hpr] at HI
 refine kw_join [(0, .ptr 0 4 0 0), (1, a), (2, eI sp)] [.row 4 [srA d l (b, cost)]] ?_ ?_
 ·
  rcases hsplit with rfl | ⟨x, rfl, hxn⟩
  ·
   refine kw_region (kops_s rfl (kops_s rfl (kops_f tf52_2 rfl (kops_op rfl rfl (zaa rfl) (zaq rfl ta22 rfl rfl rfl rfl rfl) (kops_op rfl rfl (zaa rfl) (does_eqnil0 rfl ts22 rfl rfl (.inr ⟨rfl, rfl⟩)) (kops_s rfl (kops_z rfl (kops_z rfl (kops_z rfl (kops_z rfl (kops_z rfl (kops_z rfl (kops_s rfl (kops_nil (zai (kw_false rfl (kw_skip (zai ?_))))))))))))))))))
   exact kwk_st [0] rfl xf ⟨⟨_, rfl, sr_ren⟩, trivial⟩ ⟨.ptr 0 0 4 0 0 rfl, .lo _ hLoa, .lo _ (.s _), trivial⟩
  ·
   have hns : ¬ cost ≤ sp := fun h => hpr ⟨rfl, h⟩
   refine kw_region (kops_s rfl (kops_s rfl (kops_f tf52_2 rfl (kops_op rfl rfl (zaa rfl) (zaq rfl ta22 rfl rfl rfl rfl rfl) (kops_op rfl rfl (zaa rfl) (does_eqnil rfl ts22 rfl (nn_eL hxn) rfl (.inr ⟨rfl, rfl⟩)) (kops_s rfl (kops_s rfl (kops_s rfl (kops_s rfl (kops_f tf52_3 rfl (kops_op rfl rfl (zat rfl rfl rfl) (zaq rfl ta3 rfl rfl rfl rfl rfl) (kops_op rfl rfl (zat rfl rfl rfl) (dec_f hns (zcp rfl rfl rfl)) (kops_s rfl (kops_nil (zai (kw_false rfl (kw_skip (zai ?_))))))))))))))))))
   exact kwk_st [0] rfl xf ⟨⟨_, rfl, sr_ren⟩, trivial⟩ ⟨.ptr 0 0 4 0 0 rfl, .lo _ hLoa, .lo _ (.s _), trivial⟩
 have hst : StO l (b, cost) := ⟨g1, g2, g3⟩
 generalize ((b, cost) : Option (List Int) × Int) = st at HI hst
 refine kw_seq (kw_region (kops_op rfl rfl (zaa rfl) (does_mv (.inl rfl) (rfl : _ = a)) (kops_op rfl rfl (zaa rfl) (does_len_a hal rfl ts22 rfl) (kops_s rfl (kops_nil (kw_seq (kw_seq ?_)))))))
 have e2 : eL eI (c ++ (zcs l).drop c.length) = .sl (c.map eI ++ ((zcs l).map eI).drop c.length) := by simp [eL]
 refine kw_draw hmix ?_
 refine kdraw_ex ?_
 refine ex_s rfl (ex_s rfl (ex_f tf52_0 rfl (zbv rfl rfl (zaa rfl) (zbr rfl ta22 rfl rfl rfl rfl rfl) (ex_s rfl (ex_s rfl (ex_f tf52_1 rfl (zbv rfl rfl (zaa rfl) (zbr rfl ta23 rfl rfl rfl rfl rfl) (zay rfl rfl (zaa rfl) (fun _ => (does_mv (.inl rfl) (rfl : _ = a))) ?_))))))))
 refine zc9 rfl rfl (zaa rfl) ((zbs rfl rfl (hcl _) (zae rfl zap))) (fun _ h => zdo h) ?_
 refine ex_s rfl (ex_s rfl (ex_f tf52_1 rfl (zbv rfl rfl (zaa rfl) (zbr rfl ta23 rfl rfl rfl rfl rfl) (zay rfl rfl (zaa rfl) (fun _ => (zam rfl rfl (hmo) (zae rfl zap))) (ex_s rfl ?_)))))
 refine zay rfl rfl (zaa rfl) (fun _ => (does_slice_l rfl ts22 ti3 rfl rfl rfl (by first | (simp [hmll]; done) | (simp [hmll]; omega)) (by intro e he; simp at he; obtain ⟨_, _, rfl⟩ := he; rfl))) ?_
 refine zc9 rfl rfl (zaa rfl) (zbq rfl ts22 ti3 rfl (by decide) rfl rfl (by simp) rfl (.sl _ (by intro e he; have he := List.mem_of_mem_drop he; simp at he; obtain ⟨_, _, rfl⟩ := he; rfl)) (by unfold maxLen; first | (simp [hmll]; done) | (simp [hmll]; omega)) (by first | (simp [hmll]; done) | (simp [hmll]; omega))) (fun _ h => zct h) ?_
 refine zbv (R := [2]) rfl rfl (zaa rfl) (look_callb rfl rfl hsh (fun σ2 h => zbd.cons (.refl _) (zbd.cons (.refl _) (zbd.cons (by rw [e2]; exact .own _ _ _ _ _ ((h 2 xo).trans rfl) rfl (by simp [hmll])) zbd.nil))) xm) ?_
 refine ex_s rfl ?_
 refine zcf xi ?_
 refine kw_seq ?_
 refine kw_weak (F' := [(0, .ptr 0 4 0 0), (1, a), (2, eI sp), (6, eI (c.length : Nat)), (7, eI sv)]) (σ' := [.row 4 [srA d l st]]) (kwk_st [0] rfl xf ⟨⟨_, rfl, sr_ren⟩, trivial⟩ ⟨.ptr 0 0 4 0 0 rfl, .lo _ hLoa, .lo _ (.s _), .lo _ (.s _), .lo _ (.s _), trivial⟩) ?_
 refine kw_region (kops_s rfl ?_)
 refine kops_opP rfl rfl (zaa rfl) (zcp rfl rfl rfl) (fun h44 => ?_) (fun h44 => ?_)
 all_goals refine kops_nil (zai ?_)
 all_goals (first | refine kw_true rfl ?_ | refine kw_false rfl ?_)
 all_goals (repeat (first | refine kw_seq ?_ | refine kw_skip ?_))
 ·
  rw [if_pos h44] at HI
  subst HI
  (refine kw_ret ?_; repeat (first | refine zbc ?_ | refine zbe ?_))
  exact ⟨.inr rfl, try_res⟩
 rw [if_neg h44] at HI
 refine kw_region (kops_s rfl (kops_s rfl (kops_s rfl (kops_f tf52_1 rfl (kops_op rfl rfl (zaa rfl) (zaq rfl ta23 rfl rfl rfl rfl rfl) (kops_op rfl rfl (zaa rfl) (zao rfl ts23 rfl) ?_))))))
 refine kops_opP rfl rfl (zaa rfl) (zbn rfl rfl rfl) (fun h51 => ?_) (fun h51 => ?_)
 all_goals refine kops_nil (zai ?_)
 all_goals (first | refine kw_true rfl ?_ | refine kw_false rfl ?_)
 all_goals (repeat (first | refine kw_seq ?_ | refine kw_skip ?_))
 ·
  rw [if_pos (Int.ofNat_inj.1 h51)] at HI
  subst HI
  have e5 : .sl (c.map eI) = bstA (some c) := rfl
  refine kw_region (kops_s rfl (kops_s rfl (kops_op rfl rfl (zaa rfl) (does_mv (.inl rfl) (rfl : _ = a)) (kops_op rfl rfl (zaa rfl) (zbs rfl rfl (hcl _) (zae rfl zap)) ?_))))
  refine kops_weak (kwk_froz (id := 1) rfl) (kops_weak (kwk_sl (d := 55) rfl rfl xo) ?_)
  refine kops_s rfl (kops_s rfl (kops_f tf52_2 rfl (kops_eff rfl (zaa rfl) (zaj rfl ti22 rfl rfl rfl rfl rfl rfl xf xf) (kops_s rfl (kops_f tf52_3 rfl (kops_eff rfl (zaa rfl) (zaj rfl ti3 rfl rfl rfl rfl rfl rfl xf xf) (kops_nil (zai ?_))))))))
  (refine kw_ret ?_; repeat (first | refine zbc ?_ | refine zbe ?_))
  exact ⟨.inr rfl, try_res (st := srA d l (some c, sp))⟩
 have hlt : c.length < l.length := Nat.lt_of_le_of_ne hle (fun h => h51 (Int.ofNat_inj.2 h))
 rw [if_neg (Nat.ne_of_lt hlt)] at HI
 have hmm := (ql c.length hlt).1
 have hxl : (l.map eSh)[c.length]? = some (eSh (gti l c.length)) := zbb hlt
 refine kw_region (kops_s rfl (kops_s rfl (kops_f tf52_1 rfl (kops_op rfl rfl (zaa rfl) (zaq rfl ta23 rfl rfl rfl rfl rfl) (kops_s rfl (kops_op rfl rfl (zaa rfl) (zal rfl ts23 ti43 rfl rfl rfl hxl rfl) (kops_f tf43_2 rfl (kops_l ta3 rfl (kops_op rfl rfl (zaa rfl) (zax rfl rfl rfl (IntWalk.i64_in _ xd)) (kops_s rfl (kops_nil (zai (kw_block ?_)))))))))))))
 have FO : ∀ i : Nat, (List.range (i + 1)).foldl (fun st (n : Nat) => tryE d l f (c ++ [(n : Int)]) (sp + n * (gti l c.length).cost) st) st = tryE d l f (c ++ [(i : Int)]) (sp + i * (gti l c.length).cost) ((List.range i).foldl (fun st (n : Nat) => tryE d l f (c ++ [(n : Int)]) (sp + n * (gti l c.length).cost) st) st) := fun i => by rw [List.range_succ, List.foldl_append]; rfl
 have F0 : (List.range 0).foldl (fun st (n : Nat) => tryE d l f (c ++ [(n : Int)]) (sp + n * (gti l c.length).cost) st) st = st := rfl
 generalize hGF : (fun i : Nat => (List.range i).foldl (fun st (n : Nat) => tryE d l f (c ++ [(n : Int)]) (sp + n * (gti l c.length).cost) st) st) = GF
 have FO2 : ∀ i, GF (i + 1) = tryE d l f (c ++ [(i : Int)]) (sp + i * (gti l c.length).cost) (GF i) := fun i => by rw [← hGF]; exact FO i
 have F02 : GF 0 = st := by rw [← hGF]; rfl
 have HI2 : R = GF ((gti l c.length).most + 1).toNat := by rw [HI, ← hGF]
 clear HI FO F0 hGF
 refine kw_loops (S := Nat) (fun i => [(0, .ptr 0 4 0 0), (1, a), (2, eI sp), (6, eI (c.length : Nat)), (69, eI ((gti l c.length).most + 1)), (70, eI i)]) (fun i => [.row 4 [srA d l (GF i)]]) (fun i => (i : Int) ≤ (gti l c.length).most + 1 ∧ StO l (GF i)) (fun i => ((gti l c.length).most + 1 - i).toNat) 0
  (kwk_st [0] rfl xf ⟨⟨_, rfl, by rw [F02]; exact sr_ren⟩, trivial⟩ ⟨.ptr 0 0 4 0 0 rfl, .lo _ hLoa, .lo _ (.s _), .lo _ (.s _), .lo _ (.s _), .lo _ (.s _), trivial⟩) ⟨by omega, by rw [F02]; exact hst⟩ (fun i hi => ?_)
 obtain ⟨hi, hsi⟩ := hi
 refine kw_seq (kw_region ?_)
 refine kops_opP rfl rfl (zaa rfl) (za2 rfl rfl rfl) (fun h71 => ?_) (fun h71 => ?_)
 all_goals refine kops_nil (kw_seq ?_)
 all_goals (first | refine kw_true rfl ?_ | refine kw_false rfl ?_)
 all_goals (repeat (first | refine kw_seq ?_ | refine kw_skip ?_ | refine kw_block ?_))
 ·
  have hmb := mul_bd (a := (gti l c.length).cost) (b := (i : Int)) xd xd xd xd
  rw [Int.mul_comm] at hmb
  have hsp : 0 ≤ sp + i * (gti l c.length).cost ∧ sp + i * (gti l c.length).cost ≤ 20000 * ((c ++ [(i : Int)]).length : Nat) := by
   have hz : (c ++ [(i : Int)]).length = c.length + 1 := by simp
   rw [hz]; omega
  have hT := IH (c ++ [(i : Int)]) (eL eI (c ++ [(i : Int)])) (sp + i * (gti l c.length).cost) (GF i) (by simp at hm ⊢; omega) (hc.snoc hlt xd) hsp.1 hsp.2 hsi (fun _ => by omega) (.inr ⟨by simp, rfl⟩)
  rw [← FO2 i] at hT
  have hsn : StO l (GF (i + 1)) := by rw [FO2 i]; exact tryE_ok hv f _ _ _ (hc.snoc hlt xd) hsp.1 hsp.2 hsi
  replace hT := sr_frame hT [.dead, .fz 1 (c.map eI ++ [eI i])] (noMp1 _ rfl)
  have hcs : AV.sl (c.map eI ++ [eI i]) = eL eI (c ++ [(i : Int)]) := by simp [eL]
  refine kw_region (kops_s rfl (kops_s rfl (kops_nil (zai ?_))))
  refine kw_draw hmix ?_
  refine kdraw_ex ?_
  refine ex_s rfl (zay rfl rfl (zaa rfl) (fun _ => (does_mv (.inl rfl) (rfl : _ = a))) ?_)
  refine zc9 rfl rfl (zaa rfl) ((zbs rfl rfl (hcl _) (zae rfl zap))) (fun _ h => zdo h) ?_
  refine ex_s rfl (zay rfl rfl (zaa rfl) (fun _ => (lit1_sF rfl ts22 ti3 rfl rfl rfl rfl)) ?_)
  refine zc9 rfl rfl (zaa rfl) (zbq rfl ts22 ti3 rfl (by decide) rfl rfl (by simp) rfl (.sl _ (by intro e he; simp at he; subst he; rfl)) (by unfold maxLen; first | (simp; done) | (simp; omega)) (by first | (simp; done) | (simp; omega))) (fun _ h => zct h) ?_
  refine ex_s rfl (ex_s rfl (ex_s rfl (ex_s rfl (ex_f tf52_1 rfl (zbv rfl rfl (zaa rfl) (zbr rfl ta23 rfl rfl rfl rfl rfl) (ex_s rfl (zay rfl rfl (zaa rfl) (fun _ => (zal rfl ts23 ti43 rfl rfl rfl hxl rfl)) (ex_f tf43_1 rfl (ex_l ta3 rfl (zay rfl rfl (zaa rfl) (fun _ => (does_mul rfl rfl rfl (IntWalk.i64_in _ xd))) (zay rfl rfl (zaa rfl) (fun _ => (zax rfl rfl rfl (IntWalk.i64_in _ xd))) ?_)))))))))))
  refine zc9 (W := [0, 2]) rfl rfl (zaa rfl) (does_froz (d := 78) (id := 2) rfl rfl xo (zbs rfl rfl hT (zae rfl (zae (Eq.trans rfl hcs) (zae rfl zap))))) (fun id h => by match id, h with | 0, h => simp at h | 1, _ => rfl | 2, h => simp at h | (n+3), _ => rfl) ?_
  refine zcf xi ?_
  refine zbl (zai (kw_region (kops_op rfl rfl (zaa rfl) (zax rfl rfl rfl (IntWalk.i64_in _ xd)) (kops_s rfl (kops_nil (zai ?_))))))
  exact ⟨i + 1, ⟨by omega, hsn⟩, by omega, kwk_st [0] rfl xf ⟨⟨_, rfl, sr_ren⟩, trivial⟩ ⟨.ptr 0 0 4 0 0 rfl, .lo _ hLoa, .lo _ (.s _), .lo _ (.s _), .lo _ (.s _), .lo _ (.s _), trivial⟩⟩
 ·
  have ei : i = ((gti l c.length).most + 1).toNat := by omega
  subst ei
  rw [← HI2]
  (refine kw_exit ?_; repeat (first | refine zcr ?_ | refine zbt ?_ | refine zbk rfl ?_ | refine zbl ?_ | refine zai ?_ | refine kw_seq ?_ | refine kw_skip ?_ | refine kw_block ?_))
  exact ⟨.inl rfl, try_res⟩
end K1
end Go.Proofs.YtllkbjcemecmjaaGreat.Aw
end
section
namespace Go.Proofs.YtllkbjcemecmjaaGreat.Aw
def allC : List Sft → List (List Int)
 | [] => [[]]
 | s :: l => (List.range (s.most + 1).toNat).flatMap fun (n : Nat) => (allC l).map fun e => (n : Int) :: e
def upd (d : List Int) (l : List Sft) (st : Option (List Int) × Int) (c : List Int) : Option (List Int) × Int :=
 if shE d l c < 0 ∧ (st.1 = none ∨ prcP l c l.length < st.2) then (some c, prcP l c l.length) else st
theorem mem_allC : ∀ (l : List Sft) (c : List Int), c ∈ allC l ↔ c.length = l.length ∧ ∀ k, k < l.length → 0 ≤ gti c k ∧ gti c k ≤ (gti l k).most
 | [], c => by
  simp only [allC, List.mem_singleton]
  constructor
  ·
   rintro rfl; exact ⟨rfl, fun k hk => by simp at hk⟩
  ·
   rintro ⟨h, _⟩; exact List.length_eq_zero_iff.1 h
 | s :: l, c => by
  simp only [allC, List.mem_flatMap, List.mem_map, List.mem_range]
  constructor
  ·
   rintro ⟨n, hn, e, he, rfl⟩
   obtain ⟨h1, h2⟩ := (mem_allC l e).1 he
   refine ⟨by simp [h1], fun k hk => ?_⟩
   cases k with
   | zero => rw [gti_zero, gti_zero]; omega
   | succ k => rw [zdi, zdi]; exact h2 k (by simpa using hk)
  ·
   rintro ⟨h1, h2⟩
   cases c with
   | nil => simp at h1
   | cons x e =>
    have h0 := h2 0 xo
    rw [gti_zero, gti_zero] at h0
    refine ⟨x.toNat, by omega, e, (mem_allC l e).2 ⟨by simpa using h1, fun k hk => ?_⟩, ?_⟩
    ·
     have := h2 (k + 1) (by simp; omega)
     rwa [zdi, zdi] at this
    ·
     rw [Int.toNat_of_nonneg h0.1]
theorem cntB_allC {l : List Sft} {c : List Int} : cntB l c = true ↔ c ∈ allC l := by
 rw [mem_allC]
 constructor
 ·
  exact fun h => cntB_iff h
 ·
  rintro ⟨h1, h2⟩
  unfold cntB
  rw [Bool.and_eq_true, decide_eq_true_eq]
  refine ⟨h1, List.all_eq_true.2 fun k hk => ?_⟩
  rw [List.mem_range] at hk
  rw [decide_eq_true_eq]
  exact h2 k xd
theorem foldl_same {α β : Type} {f : β → α → β} {b : β} : ∀ {l : List α}, (∀ x ∈ l, f b x = b) → l.foldl f b = b
 | [], _ => rfl
 | x :: l, h => by
  rw [List.foldl_cons, h x xo]
  exact foldl_same fun y hy => h y (by simp [hy])
theorem gti_app1 {c e : List Int} {k : Nat} (h : k < c.length) : gti (c ++ e) k = gti c k := by unfold gti; rw [List.getElem?_append_left h]
theorem gti_app2 {c e : List Int} {k : Nat} (h : c.length ≤ k) : gti (c ++ e) k = gti e (k - c.length) := by unfold gti; rw [List.getElem?_append_right h]
theorem gti_dropS {α : Type} [Inhabited α] {l : List α} {k j : Nat} : gti (l.drop k) j = gti l (k + j) := by unfold gti; rw [List.getElem?_drop]
theorem prcP_pre {l : List Sft} {c e : List Int} : ∀ n, n ≤ c.length → prcP l (c ++ e) n = prcP l c n
 | 0, _ => rfl
 | n + 1, h => by
  show prcP l (c ++ e) n + (gti l n).cost * gti (c ++ e) n = prcP l c n + (gti l n).cost * gti c n
  rw [prcP_pre n xd, gti_app1 xd]
theorem prcP_mono {d : List Int} {l : List Sft} (hv : zce d l = true) {c : List Int} (h0 : ∀ k, k < l.length → 0 ≤ gti c k) : ∀ n m, n ≤ m → m ≤ l.length → prcP l c n ≤ prcP l c m
 | n, 0, h, _ => by rw [Nat.le_zero.1 h]; exact Int.le_refl _
 | n, m + 1, h, hm => by
  by_cases e : n = m + 1
  ·
   rw [e]; exact Int.le_refl _
  ·
   have h1 := prcP_mono hv h0 n m xd xd
   have h2 := Int.mul_nonneg ((zb4 hv).2.2 m xd).1.2.1 (h0 m xd)
   show prcP l c n ≤ prcP l c m + (gti l m).cost * gti c m
   omega
theorem cvP_mono {l : List Sft} {c c' : List Int} (h : ∀ k, k < l.length → gti c k ≤ gti c' k) (p : Nat) : ∀ n, n ≤ l.length → cvP l c n p ≤ cvP l c' n p
 | 0, _ => Int.le_refl _
 | n + 1, hn => by
  have h1 := cvP_mono h p n xd
  have h2 := h n xd
  show cvP l c n p + _ ≤ cvP l c' n p + _
  split <;> omega
theorem shF_mono {d : List Int} {l : List Sft} {c c' : List Int} (h : ∀ p, cvP l c l.length p ≤ cvP l c' l.length p) : ∀ n k, shF d l c n k < 0 → shF d l c' n k < 0
 | 0, k, _ => by rw [shF]; decide
 | n + 1, k, h1 => by
  rw [shF] at h1 ⊢
  split at h1
  ·
   omega
  ·
   rename_i h2
   have := h k
   rw [if_neg xd]
   exact shF_mono h n (k + 1) h1
theorem shE_mono {d : List Int} {l : List Sft} {c c' : List Int} (h : ∀ k, k < l.length → gti c k ≤ gti c' k) (h1 : shE d l c < 0) : shE d l c' < 0 :=
 shF_mono (fun p => cvP_mono h p l.length (Nat.le_refl _)) d.length 0 h1
theorem drop_cons {l : List Sft} {k : Nat} (h : k < l.length) : l.drop k = gti l k :: l.drop (k + 1) := by
 rw [List.drop_eq_getElem_cons h]
 have := zdh (l := l) h
 rw [List.getElem?_eq_getElem h] at this
 rw [Option.some.inj this]
theorem tryE_fold {d : List Int} {l : List Sft} (hv : zce d l = true) : ∀ (f : Nat) (c : List Int) (sp : Int) (st : Option (List Int) × Int), l.length - c.length < f → CN l c → sp = prcP l c c.length →
  tryE d l f c sp st = ((allC (l.drop c.length)).map fun e => c ++ e).foldl (upd d l) st
 | 0, c, sp, st, h, _, _ => by omega
 | f + 1, c, sp, st, hf, hc, hsp => by
  have hle := hc.le
  have hcomp : ∀ x ∈ (allC (l.drop c.length)).map (fun e => c ++ e), x.length = l.length ∧ (∀ k, k < l.length → 0 ≤ gti x k ∧ gti x k ≤ gti (c ++ (zcs l).drop c.length) k) ∧ sp ≤ prcP l x l.length := by
   intro x hx
   obtain ⟨e, he, rfl⟩ := List.mem_map.1 hx
   obtain ⟨h1, h2⟩ := (mem_allC _ e).1 he
   rw [List.length_drop] at h1
   have hb : ∀ k, k < l.length → 0 ≤ gti (c ++ e) k ∧ gti (c ++ e) k ≤ gti (c ++ (zcs l).drop c.length) k := fun k hk => by
    by_cases hkc : k < c.length
    ·
     rw [gti_app1 hkc, gti_app1 hkc]; exact ⟨(hc.bd k hkc).1, Int.le_refl _⟩
    ·
     have h3 := h2 (k - c.length) (by rw [List.length_drop]; omega)
     rw [gti_dropS, show c.length + (k - c.length) = k by omega] at h3
     rw [gti_app2 xd, gti_app2 xd, gti_dropS, show c.length + (k - c.length) = k by omega, mostL_gti hk]
     exact h3
   refine ⟨by rw [List.length_append, h1]; omega, hb, ?_⟩
   rw [hsp, ← prcP_pre (e := e) c.length (Nat.le_refl _)]
   exact prcP_mono hv (fun k hk => (hb k hk).1) _ _ hle (Nat.le_refl _)
  unfold tryE
  split
  ·
   rename_i h
   refine (foldl_same fun x hx => ?_).symm
   have h1 := (hcomp x hx).2.2
   unfold upd
   rw [if_neg]
   rintro ⟨_, h2 | h2⟩
   ·
    rw [h2] at h; simp at h
   ·
    omega
  ·
   rename_i hp
   split
   ·
    rename_i h
    refine (foldl_same fun x hx => ?_).symm
    unfold upd
    rw [if_neg]
    rintro ⟨h2, _⟩
    have := shE_mono (fun k hk => ((hcomp x hx).2.1 k hk).2) h2
    omega
   ·
    rename_i h
    split
    ·
     rename_i e
     rw [e, List.drop_length]
     have hd : (zcs l).drop c.length = [] := by rw [e]; exact List.drop_of_length_le (by rw [mostL_len]; exact Nat.le_refl _)
     rw [hd, List.append_nil] at h
     simp only [allC, List.map_cons, List.map_nil, List.append_nil, List.foldl_cons, List.foldl_nil]
     rw [e] at hsp
     unfold upd
     rw [if_pos, hsp]
     refine ⟨by omega, ?_⟩
     cases hs : st.1 with
     | none => exact .inl rfl
     | some b =>
      right
      have : ¬ (st.2 ≤ sp) := fun h2 => hp ⟨by rw [hs]; rfl, h2⟩
      omega
    ·
     rename_i e
     have hlt : c.length < l.length := by omega
     rw [drop_cons hlt]
     simp only [allC, List.map_flatMap, List.map_map, List.foldl_flatMap]
     have key : ∀ (N : List Nat) (st : Option (List Int) × Int), (∀ n ∈ N, (n : Int) ≤ (gti l c.length).most) → N.foldl (fun st (n : Nat) => tryE d l f (c ++ [(n : Int)]) (sp + n * (gti l c.length).cost) st) st = N.foldl (fun st (n : Nat) => ((allC (l.drop (c.length + 1))).map ((fun e => c ++ e) ∘ fun e => (n : Int) :: e)).foldl (upd d l) st) st := by
      intro N
      induction N with
      | nil => intro st _; rfl
      | cons n N ih =>
       intro st hN
       rw [List.foldl_cons, List.foldl_cons]
       have hn := hN n xo
       rw [tryE_fold hv f (c ++ [(n : Int)]) _ st (by simp; omega) (hc.snoc hlt hn) (by
        rw [List.length_append]
        show _ = prcP l (c ++ [(n : Int)]) c.length + (gti l c.length).cost * gti (c ++ [(n : Int)]) c.length
        rw [prcP_pre _ (Nat.le_refl _), gti_app2 (Nat.le_refl _), Nat.sub_self, gti_zero, hsp, Int.mul_comm])]
       rw [ih _ (fun m hm => hN m (by simp [hm]))]
       have e1 : (c ++ [(n : Int)]).length = c.length + 1 := by simp
       have e2 : (fun e => c ++ [(n : Int)] ++ e) = ((fun e => c ++ e) ∘ fun e => (n : Int) :: e) := by
        funext e
        simp
       rw [e1, e2]
     exact key _ st (fun n hn => by rw [List.mem_range] at hn; omega)
def FoldR (d : List Int) (l : List Sft) (L : List (List Int)) (r : Option (List Int) × Int) : Prop :=
 match r.1 with
 | none => ∀ c ∈ L, ¬ shE d l c < 0
 | some b => b ∈ L ∧ shE d l b < 0 ∧ r.2 = prcP l b l.length ∧ ∀ c ∈ L, shE d l c < 0 → r.2 ≤ prcP l c l.length
theorem fold_ok (d : List Int) (l : List Sft) : ∀ (L M : List (List Int)) (st : Option (List Int) × Int), FoldR d l M st → FoldR d l (M ++ L) (L.foldl (upd d l) st)
 | [], M, st, h => by rw [List.append_nil]; exact h
 | c :: L, M, st, h => by
  rw [List.foldl_cons]
  have h1 : FoldR d l (M ++ [c]) (upd d l st c) := by
   unfold upd
   split
   ·
    rename_i hc
    refine ⟨by simp, hc.1, rfl, fun x hx hs => ?_⟩
    simp only [List.mem_append, List.mem_singleton] at hx
    rcases hx with hx | rfl
    ·
     unfold FoldR at h
     cases hb : st.1 with
     | none => rw [hb] at h; exact absurd hs (h x hx)
     | some b =>
      rw [hb] at h
      rcases hc.2 with h2 | h2
      ·
       rw [hb] at h2; cases h2
      ·
       have := h.2.2.2 x hx hs
       show prcP l c l.length ≤ _
       omega
    ·
     exact Int.le_refl _
   ·
    rename_i hc
    unfold FoldR at h ⊢
    cases hb : st.1 with
    | none =>
     rw [hb] at h hc
     intro x hx
     simp only [List.mem_append, List.mem_singleton] at hx
     rcases hx with hx | rfl
     ·
      exact h x hx
     ·
      exact fun hs => hc ⟨hs, .inl rfl⟩
    | some b =>
     rw [hb] at h hc
     obtain ⟨g1, g2, g3, g4⟩ := h
     refine ⟨by simp [g1], g2, g3, fun x hx hs => ?_⟩
     simp only [List.mem_append, List.mem_singleton] at hx
     rcases hx with hx | rfl
     ·
      exact g4 x hx hs
     ·
      have : ¬ prcP l x l.length < st.2 := fun h => hc ⟨hs, .inr h⟩
      omega
  have := fold_ok d l L (M ++ [c]) _ h1
  rwa [List.append_assoc] at this
def srcE (d : List Int) (l : List Sft) : Option (List Int) × Int := tryE d l (l.length + 1) [] 0 (none, 0)
theorem CN.nil {l : List Sft} : CN l [] := ⟨Nat.zero_le _, fun k hk => by simp at hk⟩
theorem srcE_fold {d : List Int} {l : List Sft} (hv : zce d l = true) : srcE d l = (allC l).foldl (upd d l) (none, 0) := by
 unfold srcE
 rw [tryE_fold hv (l.length + 1) [] 0 (none, 0) xo CN.nil rfl]
 congr 1
 show (allC (l.drop 0)).map (fun e => [] ++ e) = allC l
 simp
theorem srcE_ok {d : List Int} {l : List Sft} (hv : zce d l = true) : FoldR d l (allC l) (srcE d l) := by
 rw [srcE_fold hv]
 exact fold_ok d l (allC l) [] (none, 0) (fun c hc => by simp at hc)
theorem mostL_allC {d : List Int} {l : List Sft} (hv : zce d l = true) : zcs l ∈ allC l := by
 rw [mem_allC]
 refine ⟨mostL_len l, fun k hk => ?_⟩
 rw [mostL_gti hk]
 have := ((zb4 hv).2.2 k hk).1
 omega
theorem srcE_some {d : List Int} {l : List Sft} (hv : zce d l = true) (h : shE d l (zcs l) < 0) : ∃ c, (srcE d l).1 = some c := by
 have h1 := srcE_ok hv
 unfold FoldR at h1
 cases hs : (srcE d l).1 with
 | none => rw [hs] at h1; exact absurd h (h1 _ (mostL_allC hv))
 | some c => exact ⟨c, rfl⟩
theorem srcE_none {d : List Int} {l : List Sft} (hv : zce d l = true) (h : ¬ shE d l (zcs l) < 0) : (srcE d l).1 = none := by
 have h1 := srcE_ok hv
 unfold FoldR at h1
 cases hs : (srcE d l).1 with
 | none => rfl
 | some c =>
  rw [hs] at h1
  refine absurd (shE_mono (fun k hk => ?_) h1.2.1) h
  rw [mostL_gti hk]
  exact (((mem_allC l c).1 h1.1).2 k hk).2
theorem srcE_StO {d : List Int} {l : List Sft} (hv : zce d l = true) : StO l (srcE d l) := tryE_ok hv _ _ _ _ CN.nil (Int.le_refl _) xo ⟨fun b hb => (by cases hb), by show (0 : Int) ≤ 0; decide, by show (0 : Int) ≤ 240000; decide⟩
def prodF (l : List Sft) : Nat → Int
 | 0 => 1
 | i + 1 => prodF l i * ((gti l i).most + 1)
def numF (l : List Sft) (L : Int) : Nat → Int
 | 0 => 1
 | i + 1 => min (L + 1) (numF l L i * ((gti l i).most + 1))
def allF (l : List Sft) : Nat → Int
 | 0 => 1
 | i + 1 => min (allF l i * ((gti l i).most + 1)) 1048577
theorem prodF_pos {l : List Sft} (h : ∀ k, k < l.length → 0 ≤ (gti l k).most) : ∀ i, i ≤ l.length → 1 ≤ prodF l i
 | 0, _ => by show (1 : Int) ≤ 1; decide
 | i + 1, hi => by
  have h1 := prodF_pos h i xd
  have h2 := h i xd
  show 1 ≤ prodF l i * ((gti l i).most + 1)
  have := Int.mul_le_mul h1 (show 1 ≤ (gti l i).most + 1 by omega) xd xd
  omega
theorem numF_eq {l : List Sft} (h : ∀ k, k < l.length → 0 ≤ (gti l k).most) {L : Int} (hL : 0 ≤ L) : ∀ i, i ≤ l.length → numF l L i = min (L + 1) (prodF l i)
 | 0, _ => by show (1 : Int) = min (L + 1) 1; omega
 | i + 1, hi => by
  have h1 := prodF_pos h i xd
  have h2 := h i xd
  show min (L + 1) (numF l L i * ((gti l i).most + 1)) = min (L + 1) (prodF l i * ((gti l i).most + 1))
  rw [numF_eq h hL i xd]
  by_cases e : prodF l i ≤ L + 1
  ·
   rw [Int.min_eq_right e]
  ·
   rw [Int.min_eq_left (by omega : L + 1 ≤ prodF l i)]
   have k1 := Int.mul_le_mul (show L + 1 ≤ L + 1 by omega) (show 1 ≤ (gti l i).most + 1 by omega) xd xd
   have k2 := Int.mul_le_mul (show L + 1 ≤ prodF l i by omega) (show 1 ≤ (gti l i).most + 1 by omega) xd xd
   rw [Int.min_eq_left xd, Int.min_eq_left xd]
theorem allF_eq {l : List Sft} (h : ∀ k, k < l.length → 0 ≤ (gti l k).most) : ∀ i, i ≤ l.length → allF l i = numF l 1048576 i
 | 0, _ => rfl
 | i + 1, hi => by
  show min (allF l i * ((gti l i).most + 1)) 1048577 = min (1048576 + 1) (numF l 1048576 i * ((gti l i).most + 1))
  rw [allF_eq h i xd, Int.min_comm]; rfl
end Go.Proofs.YtllkbjcemecmjaaGreat.Aw
end
section
namespace Go.Proofs.YtllkbjcemecmjaaGreat.Aw
def rstC (s : Sft) (l : List Sft) (x : Int) : List (List Int) := (List.range' (x.toNat + 1) (s.most.toNat - x.toNat)).flatMap fun (n : Nat) => (allC l).map fun e => (n : Int) :: e
def aftC : List Sft → List Int → List (List Int)
 | s :: l, x :: c => (aftC l c).map (fun e => x :: e) ++ rstC s l x
 | _, _ => []
theorem rstC_step {s : Sft} {l : List Sft} {x : Int} (h0 : 0 ≤ x) (h : x < s.most) : rstC s l x = (allC l).map (fun e => (x + 1) :: e) ++ rstC s l (x + 1) := by
 unfold rstC
 obtain ⟨k, hk⟩ : ∃ k, s.most.toNat - x.toNat = k + 1 := ⟨s.most.toNat - x.toNat - 1, by omega⟩
 rw [hk, List.range'_succ, List.flatMap_cons]
 have e1 : ((x.toNat + 1 : Nat) : Int) = x + 1 := by omega
 have e2 : (x + 1).toNat = x.toNat + 1 := by omega
 have e3 : s.most.toNat - (x.toNat + 1) = k := by omega
 rw [e1, e2, e3]
theorem rstC_end {s : Sft} {l : List Sft} {x : Int} (h : s.most ≤ x) : rstC s l x = [] := by
 unfold rstC
 rw [show s.most.toNat - x.toNat = 0 by omega]; rfl
theorem zeroI_cons (n : Nat) : zcv (n + 1) = 0 :: zcv n := rfl
theorem allC_first : ∀ (l : List Sft), (∀ k, k < l.length → 0 ≤ (gti l k).most) → allC l = zcv l.length :: aftC l (zcv l.length)
 | [], _ => rfl
 | s :: l, h => by
  have h0 : 0 ≤ s.most := h 0 xo
  have ih := allC_first l (fun k hk => by have := h (k + 1) (by simp; omega); rwa [zdi] at this)
  rw [List.length_cons, zeroI_cons]
  show (List.range (s.most + 1).toNat).flatMap _ = (0 :: zcv l.length) :: ((aftC l (zcv l.length)).map (fun e => 0 :: e) ++ rstC s l 0)
  obtain ⟨k, hk⟩ : ∃ k, (s.most + 1).toNat = k + 1 := ⟨s.most.toNat, by omega⟩
  rw [hk, List.range_eq_range', List.range'_succ, List.flatMap_cons]
  unfold rstC
  have e2 : s.most.toNat - (0 : Int).toNat = k := by omega
  rw [e2]
  have e3 : (allC l).map (fun e => ((0 : Nat) : Int) :: e) = (0 :: zcv l.length) :: (aftC l (zcv l.length)).map (fun e => 0 :: e) := by
   conv => lhs; rw [ih]
   rfl
  rw [e3]; rfl
theorem aftC_last : ∀ (l : List Sft) (c : List Int), c.length = l.length → (∀ m, m < l.length → (gti l m).most ≤ gti c m) → aftC l c = []
 | [], c, h, _ => by cases c <;> rfl
 | s :: l, [], h, _ => by simp at h
 | s :: l, x :: c, h, h1 => by
  have hx : s.most ≤ x := h1 0 xo
  have ih := aftC_last l c (by simpa using h) (fun m hm => by have := h1 (m + 1) (by simp; omega); rwa [zdi, zdi] at this)
  show (aftC l c).map _ ++ rstC s l x = []
  rw [ih, rstC_end hx]; rfl
def nxtC (n i : Nat) (c : List Int) : List Int := c.take i ++ (gti c i + 1) :: zcv (n - i - 1)
theorem aftC_next : ∀ (l : List Sft) (c : List Int) (i : Nat), (∀ k, k < l.length → 0 ≤ (gti l k).most) → c.length = l.length → (∀ m, m < l.length → 0 ≤ gti c m) → i < l.length → gti c i < (gti l i).most → (∀ m, i < m → m < l.length → (gti l m).most ≤ gti c m) →
  aftC l c = nxtC l.length i c :: aftC l (nxtC l.length i c)
 | [], c, i, _, h, _, hi, _, _ => by simp at hi
 | s :: l, [], i, _, h, _, hi, _, _ => by simp at h
 | s :: l, x :: c, 0, hm, h, hn, hi, h1, h2 => by
  have hx : x < s.most := h1
  have hx0 : 0 ≤ x := hn 0 xo
  have e1 : aftC l c = [] := aftC_last l c (by simpa using h) (fun m hm' => by have := h2 (m + 1) xd (by simp; omega); rwa [zdi, zdi] at this)
  have e2 : nxtC (s :: l).length 0 (x :: c) = (x + 1) :: zcv l.length := by simp [nxtC, gti_zero]
  rw [e2]
  show (aftC l c).map (fun e => x :: e) ++ rstC s l x = ((x + 1) :: zcv l.length) :: ((aftC l (zcv l.length)).map (fun e => (x + 1) :: e) ++ rstC s l (x + 1))
  rw [e1, rstC_step hx0 hx]
  have ih := allC_first l (fun k hk => by have := hm (k + 1) (by simp; omega); rwa [zdi] at this)
  conv => lhs; rw [ih]
  rfl
 | s :: l, x :: c, i + 1, hm, h, hn, hi, h1, h2 => by
  rw [zdi, zdi] at h1
  have ih := aftC_next l c i (fun k hk => by have := hm (k + 1) (by simp; omega); rwa [zdi] at this) (by simpa using h) (fun m hm' => by have := hn (m + 1) (by simp; omega); rwa [zdi] at this) (by simpa using hi) h1 (fun m hi' hm' => by have := h2 (m + 1) xd (by simp; omega); rwa [zdi, zdi] at this)
  have e2 : nxtC (s :: l).length (i + 1) (x :: c) = x :: nxtC l.length i c := by
   unfold nxtC
   rw [zdi, List.take_succ_cons, List.length_cons, show l.length + 1 - (i + 1) - 1 = l.length - i - 1 by omega]; rfl
  rw [e2]
  show (aftC l c).map (fun e => x :: e) ++ rstC s l x = (x :: nxtC l.length i c) :: ((aftC l (nxtC l.length i c)).map (fun e => x :: e) ++ rstC s l x)
  rw [ih]; rfl
def zfrom (n j : Nat) (c : List Int) : List Int := c.take j ++ zcv (n - j)
theorem zfrom_len {n j : Nat} {c : List Int} (h : c.length = n) (hj : j ≤ n) : (zfrom n j c).length = n := by simp [zfrom, zcv]; omega
theorem zfrom_gti {n j i : Nat} {c : List Int} (h : c.length = n) (hi : i < j) (hj : j ≤ n) : gti (zfrom n j c) i = gti c i := by
 unfold zfrom gti
 rw [List.getElem?_append_left (by simp; omega), List.getElem?_take_of_lt hi]
theorem zfrom_all {n : Nat} {c : List Int} (h : c.length = n) : zfrom n n c = c := by
 unfold zfrom zcv
 rw [Nat.sub_self, List.take_of_length_le xd]; simp
theorem zfrom_step {n j : Nat} {c : List Int} (h : c.length = n) (hj : j + 1 ≤ n) : (zfrom n (j + 1) c).set j 0 = zfrom n j c := by
 unfold zfrom
 have e : c.take (j + 1) = c.take j ++ [gti c j] := zcq xd
 rw [e, List.append_assoc, List.set_append_right _ _ (by simp; omega), List.length_take, Nat.min_eq_left xd, Nat.sub_self]
 show c.take j ++ 0 :: zcv (n - (j + 1)) = c.take j ++ zcv (n - j)
 rw [show n - j = (n - (j + 1)) + 1 by omega, zeroI_cons]
theorem zfrom_next {n j : Nat} {c : List Int} (h : c.length = n) (hj : j + 1 ≤ n) : (zfrom n (j + 1) c).set j (gti c j + 1) = nxtC n j c := by
 unfold zfrom nxtC
 have e : c.take (j + 1) = c.take j ++ [gti c j] := zcq xd
 rw [e, List.append_assoc, List.set_append_right _ _ (by simp; omega), List.length_take, Nat.min_eq_left xd, Nat.sub_self, show n - (j + 1) = n - j - 1 by omega]
 rfl
theorem nxtC_mem {l : List Sft} {c : List Int} {i : Nat} (hm : ∀ k, k < l.length → 0 ≤ (gti l k).most) (hc : c ∈ allC l) (hi : i < l.length) (h1 : gti c i < (gti l i).most) : nxtC l.length i c ∈ allC l := by
 rw [mem_allC] at hc ⊢
 obtain ⟨g1, g2⟩ := hc
 refine ⟨by simp [nxtC, zcv]; omega, fun k hk => ?_⟩
 have h0 := g2 k hk
 have hi0 := g2 i hi
 by_cases e1 : k < i
 ·
  have : gti (nxtC l.length i c) k = gti c k := by
   unfold nxtC gti
   rw [List.getElem?_append_left (by simp; omega), List.getElem?_take_of_lt e1]
  rw [this]; exact h0
 ·
  by_cases e2 : k = i
  ·
   subst e2
   have : gti (nxtC l.length k c) k = gti c k + 1 := by
    unfold nxtC
    show ((c.take k ++ (gti c k + 1) :: zcv (l.length - k - 1))[k]?).getD default = _
    rw [List.getElem?_append_right (by simp; omega), List.length_take, Nat.min_eq_left xd, Nat.sub_self]; rfl
   rw [this]; omega
  ·
   have : gti (nxtC l.length i c) k = 0 := by
    unfold nxtC
    show ((c.take i ++ (gti c i + 1) :: zcv (l.length - i - 1))[k]?).getD default = _
    rw [List.getElem?_append_right (by simp; omega), List.length_take, Nat.min_eq_left xd]
    obtain ⟨q, hq⟩ : ∃ q, k - i = q + 1 := ⟨k - i - 1, by omega⟩
    rw [hq, List.getElem?_cons_succ]
    unfold zcv
    rw [List.getElem?_replicate, if_pos xd]; rfl
   rw [this]; exact ⟨by omega, hm k hk⟩
end Go.Proofs.YtllkbjcemecmjaaGreat.Aw
end
section
namespace Go.Proofs.YtllkbjcemecmjaaGreat.Aw
open Go Go.RowKit Go.Proofs
variable {P : Program} [IsP P]
theorem eBr_zero : eBr zBr = .agg [eI 0, eI 0, .sl [], .sl []] := by unfold zBr; rw [zdk]; rfl
namespace K1
theorem prv_res {F : Frm} {st : AV} {x y : AV} {ok : Bool} {c0 c1 c2 c3 : AV} (h4 : F.get 4 = .ptr 1 4 0 0) (h5 : F.get 5 = eB ok) (hw : Wn (.agg [c0, c1, c2, c3]) y) (hx : x = .tup [y, eB ok]) :
  ∃ X xs, [Ob.row 4 [st], .row 4 [.agg [c0, c1, c2, c3]]] = [.row 4 [st]] ++ X ∧ ResL P F [Ob.row 4 [st], .row 4 [.agg [c0, c1, c2, c3]]] [.cell 4 32, .tmp 5] xs ∧ Wn (oneOf xs) x :=
 ⟨_, _, rfl, .cons _ _ _ _ (.cells 4 _ 1 4 0 _ _ _ _ _ _ ta32 ti32 h4 rfl rfl rfl rfl) (.cons _ _ _ _ (.tmp 5 _ h5) .nil), by rw [hx]; exact (WnL.cons hw (WnL.cons (.refl _) WnL.nil)).tup⟩
end K1
theorem lo_Bx (lo hi : List Int) : Lo 0 (eBx lo hi) := .agg _ (zah (zan fun _ => .s _) (zah (zan fun _ => .s _) zak))
theorem lo_pvA {d : List Int} {l : List Sft} {a b : Int} {k : Nat} : Lo k (pvA d l a b) := lo_up (.agg _ (zah (zan fun _ => .s _) (zah (zan lo_Sh) (zah (.s _) (zah (.s _) zak)))))
theorem pv_frame {f : FuncId} {r : AV} {d : List Int} {l : List Sft} {a b b' : Int} {lo hi : List Int} (h : CallE P f [.ptr 0 4 0 0, eBx lo hi] [.row 4 [pvA d l a b]] r [.row 4 [pvA d l a b']]) (X : List Ob) (hX : ∀ ob ∈ X, NoMp ob) : CallE P f [.ptr 0 4 0 0, eBx lo hi] (.row 4 [pvA d l a b] :: X) r (.row 4 [pvA d l a b'] :: X) :=
 h.frame1 X hX trivial trivial (zah (.ptr _ _ _ _ xf) (zah (lo_up (lo_Bx lo hi)) zak)) (by intro c hc; simp only [List.mem_singleton] at hc; subst hc; exact lo_pvA)
theorem shF_lt (d : List Int) (l : List Sft) (c : List Int) : ∀ n k, shF d l c n k < ((k + n : Nat) : Int)
 | 0, k => by rw [shF]; omega
 | n + 1, k => by
  rw [shF]; split
  ·
   omega
  ·
   have := shF_lt d l c n (k + 1); omega
theorem shE_lt (d : List Int) (l : List Sft) (c : List Int) : shE d l c < d.length := by have := shF_lt d l c d.length 0; unfold shE; omega
def zBrA : AV := .agg [eI 0, eI 0, .s (.slice none 0 0), .s (.slice none 0 0)]
namespace K1
set_option maxHeartbeats 16000000 in
theorem prove_call (d : List Int) (l : List Sft) (cost : Int) (hv : zce d l = true) (hk : 0 ≤ cost ∧ cost ≤ 1000000) : ∀ (f : Nat) (n : Int) (lo hi : List Int), boxM lo hi l.length < f → BX l lo hi → 0 ≤ n → n ≤ 20000 →
  CallE P 20 [.ptr 0 4 0 0, eBx lo hi] [.row 4 [pvA d l cost n]] (.tup [eBr (prvT d l cost f n lo hi).1, eB (prvT d l cost f n lo hi).2.1]) [.row 4 [pvA d l cost (prvT d l cost f n lo hi).2.2]] := by
 intro f
 induction f with
 | zero => intro n lo hi h; omega
 | succ f IH =>
 intro n lo hi hm hb h0 h1
 obtain ⟨⟨q1, q2, q3⟩, qd, ql⟩ := zb4 hv
 have hll := hb.l1
 have hlh := hb.l2
 have hml := multipliers_call (P := P) d l cost (n - 1) lo hi hv hb.l1 hb.l2 ⟨q1, q2⟩ hk
 have hsi := simple_call (P := P) d l cost (n - 1) lo hi hv ⟨hb.l2, q3, hb.b2⟩ ⟨q1, q2⟩ hk (shE_lt d l hi)
 have hp1 := proves_pf (P := P) d l lo hi (mltE d l cost lo hi).1 cost hv hb.l1 hb.l2 hk.1 hk.2
 have hp2 := proves_pf (P := P) d l lo hi (simE d l cost hi) cost hv hb.l1 hb.l2 hk.1 hk.2
 have HI : prvT d l cost (f + 1) n lo hi = prvT d l cost (f + 1) n lo hi := rfl
 conv at HI => rhs; unfold prvT
 generalize prvT d l cost (f + 1) n lo hi = R at HI ⊢
 generalize mltE d l cost lo hi = ml at HI hml hp1
 generalize hvb : prvB d l lo hi (simE d l cost hi) cost = vb at HI hp2
 generalize simE d l cost hi = sm at HI hsi hp2 hvb
 generalize hva : prvB d l lo hi ml.1 cost = va at HI hp1
 obtain ⟨y, ok⟩ := ml
 replace hml := pv_frame hml [.row 4 [zBrA]] (noMp1 _ rfl)
 replace hsi := pv_frame hsi [.row 4 [zBrA]] (noMp1 _ rfl)
 refine callE_fnW rfl rfl (by intro ob h; simp only [List.mem_singleton] at h; subst h; intro c hc; simp only [List.mem_singleton] at hc; subst hc; exact lo_pvA) (lo_up (.tup _ (zah (lo_Br _) (zah (.s _) zak)))) (by rw [IsP.eq (P := P)]; exact Tryz.func20) rfl rfl (Nat.le_of_ble_eq_true rfl) ?_
 simp only [argF]
 refine kw_seq (kw_region (kops_op rfl rfl (zaa rfl) (zb3 rfl rfl rfl rfl) (kops_op rfl rfl (zaa rfl) (za1 rfl ti32 rfl rfl) (kops_s rfl (kops_nil (kw_seq (kw_seq ?_)))))))
 refine kw_weak (kwk_froz (id := 1) rfl) ?_
 refine kw_weak (kwk_ref (d := 3) rfl rfl rfl) ?_
 refine kw_weak (F' := [(0, .ptr 0 4 0 0), (3, .ref (eBx lo hi).cells), (4, .ptr 1 4 0 0)]) (σ' := [.row 4 [pvA d l cost n], .row 4 [zBrA]]) (kwk_st [0, 2] rfl xf ⟨⟨_, rfl, zdt⟩, ⟨_, rfl, .rowE xb rfl⟩, trivial⟩ ⟨.ptr 0 0 4 0 0 rfl, .lo _ (.ref _ (lo_Bx lo hi).cells), .ptr 2 1 4 0 0 rfl, trivial⟩) ?_
 refine kw_region (kops_s rfl (kops_s rfl (kops_f tf56_3 rfl (kops_op rfl rfl (zaa rfl) (zaq rfl ta3 rfl rfl rfl rfl rfl) (kops_op rfl rfl (zaa rfl) (zdx rfl rfl rfl (IntWalk.i64_in _ xd)) (kops_s rfl (kops_f tf56_3 rfl (kops_eff rfl (zaa rfl) (zaj rfl ti3 rfl rfl rfl rfl rfl rfl xf xf) (kops_nil (kw_seq (kw_region (kops_s rfl (kops_s rfl (kops_f tf56_3 rfl (kops_op rfl rfl (zaa rfl) (zaq rfl ta3 rfl rfl rfl rfl rfl) ?_)))))))))))))))
 refine kops_opP rfl rfl (zaa rfl) (za2 rfl rfl rfl) (fun h29 => ?_) (fun h29 => ?_)
 all_goals refine kops_nil (zai ?_)
 all_goals (first | refine kw_true rfl ?_ | refine kw_false rfl ?_)
 all_goals (repeat (first | refine kw_seq ?_ | refine kw_skip ?_))
 ·
  rw [if_pos h29] at HI
  refine kw_region (kops_op rfl rfl (zaa rfl) (za9 rfl ti32 tp32 rfl rfl) (kops_eff rfl (zaa rfl) (zaj rfl ti32 rfl rfl rfl rfl rfl rfl xf xf) (kops_s rfl (kops_nil (zai ?_)))))
  (refine kw_ret ?_; repeat (first | refine zbc ?_ | refine zbe ?_))
  subst HI
  exact ⟨.inr rfl, prv_res (st := pvA d l cost (n - 1)) rfl rfl (WnL.cons (.refl _) (WnL.cons (.refl _) (WnL.cons .nil (WnL.cons .nil WnL.nil)))).agg (congrArg (fun z => AV.tup [z, eB false]) eBr_zero)⟩
 rw [if_neg h29] at HI
 have hw1 := wideF_bd lo hi l.length
 have leafA : ∀ y : List Fr, AV.tup [.agg [eI 0, eI 0, .sl [], eL eF y], eB true] = .tup [eBr (.mk 0 0 [] y), eB true] := fun y => by rw [zdk]; rfl
 refine kw_region (kops_s rfl (kops_w ta60 ti60 rfl (kops_op rfl rfl (zaa rfl) (zbs rfl rfl hml (zae rfl (zae rfl zap))) (kops_s rfl (kops_s rfl (kops_s rfl (kops_s rfl (kops_s rfl (kops_nil (kw_seq ?_))))))))))
 by_cases hc : ok = true ∧ va = true
 ·
  obtain ⟨rfl, rfl⟩ := hc
  rw [if_pos ⟨rfl, rfl⟩] at HI
  refine kw_draw hmix ?_
  refine kdraw_ex ?_
  refine ex_s rfl (ex_s rfl (ex_s rfl (ex_s rfl (ex_f tf56_0 rfl (zbv rfl rfl (zat rfl rfl rfl) (zbr rfl ta22 rfl rfl rfl rfl rfl) (ex_s rfl (ex_s rfl (ex_f tf56_1 rfl (zbv rfl rfl (zat rfl rfl rfl) (zbr rfl ta23 rfl rfl rfl rfl rfl) (ex_w ta60 ti60 rfl (ex_s rfl (ex_s rfl (ex_s rfl (ex_f tf56_2 rfl (zbv rfl rfl (zat rfl rfl rfl) (zbr rfl ta3 rfl rfl rfl rfl rfl) (zay rfl rfl (zat rfl rfl rfl) (fun _ => (zam rfl rfl (hp1) (zae rfl (zae rfl (zae rfl (zae rfl (zae rfl zap))))))) (ex_s rfl ?_)))))))))))))))))
  refine zcf xi ?_
  refine zai (kw_true rfl (kw_seq (kw_region (kops_s rfl (kops_op rfl rfl (zaa rfl) (za9 rfl ti32 tp32 rfl rfl) (kops_eff rfl (zaa rfl) (zaj rfl ti32 rfl rfl rfl rfl rfl rfl xf xf) (kops_s rfl (kops_nil (zai ?_)))))))))
  (refine kw_ret ?_; repeat (first | refine zbc ?_ | refine zbe ?_))
  subst HI
  exact ⟨.inr rfl, prv_res (st := pvA d l cost (n - 1)) rfl rfl (WnL.cons (.refl _) (WnL.cons (.refl _) (WnL.cons .nil (WnL.cons (.refl _) WnL.nil)))).agg (leafA y).symm⟩
 rw [if_neg hc] at HI
 refine kw_join [(0, .ptr 0 4 0 0), (3, .ref (eBx lo hi).cells), (4, .ptr 1 4 0 0)] [.row 4 [pvA d l cost (n - 1)], .row 4 [zBrA]] ?_ ?_
 ·
  have hsk : (ok = false) ∨ (ok = true ∧ va = false) := by cases ok <;> cases va <;> simp_all
  rcases hsk with rfl | ⟨rfl, rfl⟩
  all_goals
   all_goals refine kw_draw hmix ?_
   all_goals refine kdraw_ex ?_
   all_goals refine ex_s rfl (ex_s rfl ?_)
   all_goals (first | refine ex_s rfl ?_ | refine ex_z rfl ?_)
   all_goals (first | refine ex_s rfl ?_ | refine ex_z rfl ?_)
   all_goals (first | refine ex_f tf56_0 rfl ?_ | refine ex_z rfl ?_)
   all_goals (first | refine zbv rfl rfl (zat rfl rfl rfl) (zbr rfl ta22 rfl rfl rfl rfl rfl) ?_ | refine ex_z rfl ?_)
   all_goals (first | refine ex_s rfl ?_ | refine ex_z rfl ?_)
   all_goals (first | refine ex_s rfl ?_ | refine ex_z rfl ?_)
   all_goals (first | refine ex_f tf56_1 rfl ?_ | refine ex_z rfl ?_)
   all_goals (first | refine zbv rfl rfl (zat rfl rfl rfl) (zbr rfl ta23 rfl rfl rfl rfl rfl) ?_ | refine ex_z rfl ?_)
   all_goals (first | refine ex_w ta60 ti60 rfl ?_ | refine ex_z rfl ?_)
   all_goals (first | refine ex_s rfl ?_ | refine ex_z rfl ?_)
   all_goals (first | refine ex_s rfl ?_ | refine ex_z rfl ?_)
   all_goals (first | refine ex_s rfl ?_ | refine ex_z rfl ?_)
   all_goals (first | refine ex_f tf56_2 rfl ?_ | refine ex_z rfl ?_)
   all_goals (first | refine zbv rfl rfl (zat rfl rfl rfl) (zbr rfl ta3 rfl rfl rfl rfl rfl) ?_ | refine ex_z rfl ?_)
   all_goals (first | refine zay rfl rfl (zat rfl rfl rfl) (fun _ => (zam rfl rfl (hp1) (zae rfl (zae rfl (zae rfl (zae rfl (zae rfl zap))))))) ?_ | refine ex_z rfl ?_)
   all_goals refine ex_s rfl ?_
   all_goals refine zcf xi ?_
   all_goals refine zai ?_
   refine kw_false rfl (kw_skip (zai ?_))
   exact kwk_st [0, 1] rfl xf ⟨⟨_, rfl, zdt⟩, ⟨_, rfl, .rowE xb rfl⟩, trivial⟩ ⟨.ptr 0 0 4 0 0 rfl, .lo _ (.ref _ (lo_Bx lo hi).cells), .ptr 1 1 4 0 0 rfl, trivial⟩
 refine kw_seq (kw_seq (kw_region (kops_s rfl (kops_w ta60 ti60 rfl (kops_op rfl rfl (zaa rfl) (zbs rfl rfl hsi (zae rfl (zae rfl zap))) (kops_s rfl (kops_nil (kw_seq ?_))))))))
 refine kw_draw hmix ?_
 refine kdraw_ex ?_
 refine ex_s rfl (ex_s rfl (ex_f tf56_0 rfl (zbv rfl rfl (zaa rfl) (zbr rfl ta22 rfl rfl rfl rfl rfl) (ex_s rfl (ex_s rfl (ex_f tf56_1 rfl (zbv rfl rfl (zaa rfl) (zbr rfl ta23 rfl rfl rfl rfl rfl) (ex_w ta60 ti60 rfl (ex_s rfl (ex_s rfl (ex_s rfl (ex_f tf56_2 rfl (zbv rfl rfl (zaa rfl) (zbr rfl ta3 rfl rfl rfl rfl rfl) (zay rfl rfl (zaa rfl) (fun _ => (zam rfl rfl (hp2) (zae rfl (zae rfl (zae rfl (zae rfl (zae rfl zap))))))) ?_))))))))))))))
 refine zcf xi ?_
 refine zai ?_
 cases vb with
 | true =>
  rw [if_pos rfl] at HI
  refine kw_true rfl (kw_seq (kw_region (kops_s rfl (kops_op rfl rfl (zaa rfl) (za9 rfl ti32 tp32 rfl rfl) (kops_eff rfl (zaa rfl) (zaj rfl ti32 rfl rfl rfl rfl rfl rfl xf xf) (kops_s rfl (kops_nil (zai ?_))))))))
  (refine kw_ret ?_; repeat (first | refine zbc ?_ | refine zbe ?_))
  subst HI
  exact ⟨.inr rfl, prv_res (st := pvA d l cost (n - 1)) rfl rfl (WnL.cons (.refl _) (WnL.cons (.refl _) (WnL.cons .nil (WnL.cons (.refl _) WnL.nil)))).agg (leafA sm).symm⟩
 | false =>
  rw [if_neg xo] at HI
  refine kw_false rfl (kw_skip (kw_seq (kw_region (kops_s rfl (kops_nil (kw_seq (kw_seq (kw_region (kops_s rfl (kops_s rfl (kops_f tf56_1 rfl (kops_op rfl rfl (zaa rfl) (zaq rfl ta23 rfl rfl rfl rfl rfl) (kops_op rfl rfl (zaa rfl) (zao rfl ts23 rfl) (kops_s rfl (kops_nil (zai (kw_block ?_)))))))))))))))))
  refine kw_loops (S := Nat) (fun i => [(0, .ptr 0 4 0 0), (3, .ref (eBx lo hi).cells), (4, .ptr 1 4 0 0), (9, eI (zdm lo hi i)), (81, eI l.length), (82, eI i)]) (fun i => [.row 4 [pvA d l cost (n - 1)], .row 4 [zBrA]]) (fun i => i ≤ l.length) (fun i => l.length - i) 0
   (kwk_st [0, 1] rfl xf ⟨⟨_, rfl, zdt⟩, ⟨_, rfl, .rowE xb rfl⟩, trivial⟩ ⟨.ptr 0 0 4 0 0 rfl, .lo _ (.ref _ (lo_Bx lo hi).cells), .ptr 1 1 4 0 0 rfl, .lo _ (.s _), .lo _ (.s _), .lo _ (.s _), trivial⟩) (Nat.zero_le _) (fun i hi' => ?_)
  refine kw_seq (kw_region ?_)
  refine kops_opP rfl rfl (zaa rfl) (za2 rfl rfl rfl) (fun h83 => ?_) (fun h83 => ?_)
  all_goals refine kops_nil (kw_seq ?_)
  all_goals (first | refine kw_true rfl ?_ | refine kw_false rfl ?_)
  all_goals (repeat (first | refine kw_seq ?_ | refine kw_skip ?_ | refine kw_block ?_))
  ·
   have hlt : i < l.length := by omega
   have hwd := wideF_bd lo hi i
   have hxl : (lo.map eI)[i]? = some (eI (gti lo i)) := zbb xd
   have hxh : (hi.map eI)[i]? = some (eI (gti hi i)) := zbb xd
   have hbl := hb.b1 i hlt
   have hbh := hb.b2 i hlt
   have hstep : zdm lo hi (i + 1) = if 0 < gti hi i - gti lo i ∧ (zdm lo hi i < 0 ∨ gti hi (zdm lo hi i).toNat - gti lo (zdm lo hi i).toNat < gti hi i - gti lo i) then (i : Int) else zdm lo hi i := rfl
   refine kw_region (kops_s rfl (kops_s rfl (kops_nil (kw_seq ?_))))
   refine kw_draw hmix ?_
   refine kdraw_ex ?_
   refine ex_f tf60_1 rfl (ex_l ta22 rfl (ex_s rfl (zay rfl rfl (zaa rfl) (fun _ => (zal rfl ts22 ti3 rfl rfl rfl hxh rfl)) (ex_l ta3 rfl (ex_f tf60_0 rfl (ex_l ta22 rfl (ex_s rfl (zay rfl rfl (zaa rfl) (fun _ => (zal rfl ts22 ti3 rfl rfl rfl hxl rfl)) (ex_l ta3 rfl (zay rfl rfl (zaa rfl) (fun _ => (zdx rfl rfl rfl (IntWalk.i64_in _ xd))) (ex_s rfl ?_)))))))))))
   refine zcf xi ?_
   refine kw_seq ?_
   by_cases c1 : 0 < gti hi i - gti lo i
   ·
    by_cases c2 : zdm lo hi i < 0
    ·
     rw [if_pos ⟨c1, .inl c2⟩] at hstep
     refine kw_draw hmix ?_
     refine kdraw_ex ?_
     refine ex_s rfl (zay rfl rfl (zaa rfl) (fun _ => (zdc c1 (zb0 rfl rfl rfl))) (ex_s rfl (ex_s rfl (zay rfl rfl (zat rfl rfl rfl) (fun _ => (zdc c2 (za2 rfl rfl rfl))) (ex_s rfl (ex_z rfl (ex_z rfl (ex_z rfl (ex_z rfl (ex_z rfl (ex_z rfl (ex_z rfl (ex_z rfl (ex_z rfl (ex_z rfl (ex_z rfl (ex_z rfl (ex_z rfl (ex_s rfl (ex_s rfl ?_))))))))))))))))))))
     refine zcf xi ?_
     refine zai (kw_true rfl (kw_region (kops_s rfl (kops_s rfl (kops_nil (zbl (zai (kw_region (kops_op rfl rfl (zaa rfl) (zax rfl rfl rfl (IntWalk.i64_in _ xd)) (kops_s rfl (kops_nil (zai ?_))))))))))))
     exact ⟨i + 1, by omega, by omega, kwk_st [0, 1] rfl xf ⟨⟨_, rfl, zdt⟩, ⟨_, rfl, .rowE xb rfl⟩, trivial⟩ ⟨.ptr 0 0 4 0 0 rfl, .lo _ (.ref _ (lo_Bx lo hi).cells), .ptr 1 1 4 0 0 rfl, by rw [hstep]; exact .lo _ (.s _), .lo _ (.s _), .lo _ (.s _), trivial⟩⟩
    ·
     obtain ⟨m, hmm⟩ : ∃ m : Nat, zdm lo hi i = m := ⟨(zdm lo hi i).toNat, by omega⟩
     have hml2 : m < l.length := by omega
     have hyl : (lo.map eI)[m]? = some (eI (gti lo m)) := zbb xd
     have hyh : (hi.map eI)[m]? = some (eI (gti hi m)) := zbb xd
     have hcl := hb.b1 m hml2
     have hch := hb.b2 m hml2
     rw [hmm, Int.toNat_natCast] at hstep
     rw [hmm] at c2
     simp only [hmm]
     by_cases c3 : gti hi m - gti lo m < gti hi i - gti lo i
     ·
      rw [if_pos ⟨c1, .inr c3⟩] at hstep
      refine kw_draw hmix ?_
      refine kdraw_ex ?_
      refine ex_s rfl (zay rfl rfl (zaa rfl) (fun _ => (zdc c1 (zb0 rfl rfl rfl))) (ex_s rfl (ex_s rfl (zay rfl rfl (zat rfl rfl rfl) (fun _ => (dec_f c2 (za2 rfl rfl rfl))) (ex_s rfl (ex_s rfl (ex_f tf60_1 rfl (ex_l ta22 rfl (ex_s rfl (zay rfl rfl (zat rfl rfl rfl) (fun _ => (zal rfl ts22 ti3 rfl rfl rfl hyh rfl)) (ex_l ta3 rfl (ex_f tf60_0 rfl (ex_l ta22 rfl (ex_s rfl (zay rfl rfl (zat rfl rfl rfl) (fun _ => (zal rfl ts22 ti3 rfl rfl rfl hyl rfl)) (ex_l ta3 rfl (zay rfl rfl (zat rfl rfl rfl) (fun _ => (zdx rfl rfl rfl (IntWalk.i64_in _ xd))) ?_)))))))))))))))))
      refine zay rfl rfl (zat rfl rfl rfl) (fun _ => (zdc c3 (zb0 rfl rfl rfl))) (ex_s rfl (ex_s rfl ?_))
      refine zcf xi ?_
      refine zai (kw_true rfl (kw_region (kops_s rfl (kops_s rfl (kops_nil (zbl (zai (kw_region (kops_op rfl rfl (zaa rfl) (zax rfl rfl rfl (IntWalk.i64_in _ xd)) (kops_s rfl (kops_nil (zai ?_))))))))))))
      exact ⟨i + 1, by omega, by omega, kwk_st [0, 1] rfl xf ⟨⟨_, rfl, zdt⟩, ⟨_, rfl, .rowE xb rfl⟩, trivial⟩ ⟨.ptr 0 0 4 0 0 rfl, .lo _ (.ref _ (lo_Bx lo hi).cells), .ptr 1 1 4 0 0 rfl, by rw [hstep]; exact .lo _ (.s _), .lo _ (.s _), .lo _ (.s _), trivial⟩⟩
     ·
      rw [if_neg xd] at hstep
      refine kw_draw hmix ?_
      refine kdraw_ex ?_
      refine ex_s rfl (zay rfl rfl (zaa rfl) (fun _ => (zdc c1 (zb0 rfl rfl rfl))) (ex_s rfl (ex_s rfl (zay rfl rfl (zat rfl rfl rfl) (fun _ => (dec_f c2 (za2 rfl rfl rfl))) (ex_s rfl (ex_s rfl (ex_f tf60_1 rfl (ex_l ta22 rfl (ex_s rfl (zay rfl rfl (zat rfl rfl rfl) (fun _ => (zal rfl ts22 ti3 rfl rfl rfl hyh rfl)) (ex_l ta3 rfl (ex_f tf60_0 rfl (ex_l ta22 rfl (ex_s rfl (zay rfl rfl (zat rfl rfl rfl) (fun _ => (zal rfl ts22 ti3 rfl rfl rfl hyl rfl)) (ex_l ta3 rfl (zay rfl rfl (zat rfl rfl rfl) (fun _ => (zdx rfl rfl rfl (IntWalk.i64_in _ xd))) ?_)))))))))))))))))
      refine zay rfl rfl (zat rfl rfl rfl) (fun _ => (dec_f c3 (zb0 rfl rfl rfl))) (ex_s rfl (ex_s rfl ?_))
      refine zcf xi ?_
      refine zai (kw_false rfl (kw_skip (zbl (zai (kw_region (kops_op rfl rfl (zaa rfl) (zax rfl rfl rfl (IntWalk.i64_in _ xd)) (kops_s rfl (kops_nil (zai ?_)))))))))
      exact ⟨i + 1, by omega, by omega, kwk_st [0, 1] rfl xf ⟨⟨_, rfl, zdt⟩, ⟨_, rfl, .rowE xb rfl⟩, trivial⟩ ⟨.ptr 0 0 4 0 0 rfl, .lo _ (.ref _ (lo_Bx lo hi).cells), .ptr 1 1 4 0 0 rfl, by rw [hstep]; exact .lo _ (.s _), .lo _ (.s _), .lo _ (.s _), trivial⟩⟩
   ·
    rw [if_neg xd] at hstep
    refine kw_draw hmix ?_
    refine kdraw_ex ?_
    refine ex_s rfl (zay rfl rfl (zaa rfl) (fun _ => (dec_f c1 (zb0 rfl rfl rfl))) (ex_s rfl (ex_z rfl (ex_z rfl (ex_z rfl (zcg rfl rfl (zbi rfl rfl rfl) (zcg rfl rfl (zbi rfl rfl rfl) (zcg rfl rfl (zbi rfl rfl rfl) (zcg rfl rfl (zbi rfl rfl rfl) (zcg rfl rfl (zbi rfl rfl rfl) (zcg rfl rfl (zbi rfl rfl rfl) (zcg rfl rfl (zbi rfl rfl rfl) (zcg rfl rfl (zbi rfl rfl rfl) (zcg rfl rfl (zbi rfl rfl rfl) (zcg rfl rfl (zbi rfl rfl rfl) (zcg rfl rfl (zbi rfl rfl rfl) (zcg rfl rfl (zbi rfl rfl rfl) ?_)))))))))))))))))
    refine zcg rfl rfl (zbi rfl rfl rfl) (ex_z rfl (ex_s rfl ?_))
    refine zcf xi ?_
    refine zai (kw_false rfl (kw_skip (zbl (zai (kw_region (kops_op rfl rfl (zaa rfl) (zax rfl rfl rfl (IntWalk.i64_in _ xd)) (kops_s rfl (kops_nil (zai ?_)))))))))
    exact ⟨i + 1, by omega, by omega, kwk_st [0, 1] rfl xf ⟨⟨_, rfl, zdt⟩, ⟨_, rfl, .rowE xb rfl⟩, trivial⟩ ⟨.ptr 0 0 4 0 0 rfl, .lo _ (.ref _ (lo_Bx lo hi).cells), .ptr 1 1 4 0 0 rfl, by rw [hstep]; exact .lo _ (.s _), .lo _ (.s _), .lo _ (.s _), trivial⟩⟩
  ·
   have ei : i = l.length := by omega
   subst ei
   (refine kw_exit ?_; repeat (first | refine zcr ?_ | refine zbt ?_ | refine zbk rfl ?_ | refine zbl ?_ | refine zai ?_ | refine kw_seq ?_ | refine kw_skip ?_ | refine kw_block ?_))
   refine kw_region (kops_s rfl ?_)
   refine kops_opP rfl rfl (zaa rfl) (za2 rfl rfl rfl) (fun h120 => ?_) (fun h120 => ?_)
   all_goals refine kops_nil (zai ?_)
   all_goals (first | refine kw_true rfl ?_ | refine kw_false rfl ?_)
   all_goals (repeat (first | refine kw_seq ?_ | refine kw_skip ?_))
   ·
    rw [if_pos h120] at HI
    refine kw_region (kops_op rfl rfl (zaa rfl) (za9 rfl ti32 tp32 rfl rfl) (kops_eff rfl (zaa rfl) (zaj rfl ti32 rfl rfl rfl rfl rfl rfl xf xf) (kops_s rfl (kops_nil (zai ?_)))))
    (refine kw_ret ?_; repeat (first | refine zbc ?_ | refine zbe ?_))
    subst HI
    exact ⟨.inr rfl, prv_res (st := pvA d l cost (n - 1)) rfl rfl (WnL.cons (.refl _) (WnL.cons (.refl _) (WnL.cons .nil (WnL.cons .nil WnL.nil)))).agg (congrArg (fun z => AV.tup [z, eB false]) eBr_zero)⟩
   rw [if_neg h120] at HI
   obtain ⟨k, hkk⟩ : ∃ k : Nat, zdm lo hi l.length = k := ⟨(zdm lo hi l.length).toNat, by omega⟩
   rw [hkk] at HI hw1
   simp only [Int.toNat_natCast] at HI hw1
   simp only [hkk]
   have hkl : k < l.length := by omega
   have hxl : (lo.map eI)[k]? = some (eI (gti lo k)) := zbb xd
   have hxh : (hi.map eI)[k]? = some (eI (gti hi k)) := zbb xd
   have hbl := hb.b1 k hkl
   have hbh := hb.b2 k hkl
   obtain ⟨t, ht⟩ : ∃ t, (gti lo k + gti hi k) / 2 = t := ⟨_, rfl⟩
   have ht2 : (gti lo k + gti hi k).tdiv 2 = t := by rw [Int.tdiv_eq_ediv_of_nonneg xd]; exact ht
   rw [ht] at HI
   have hhv := halves_pf (P := P) lo hi k t xd xd xd xd xd
   have hA := IH (n - 1) lo (setI hi k t) (by have := boxM_hi (lo := lo) (hi := hi) (n := l.length) (k := k) (t := t) hkl xd xd xd; omega) (hb.hi hkl xd xd) xd xd
   have hAb := prvT_bd d l cost f (n - 1) lo (setI hi k t) xd
   generalize prvT d l cost f (n - 1) lo (setI hi k t) = ra at HI hA hAb
   obtain ⟨⟨s1, t1, L1, y1⟩, ok1, n1⟩ := ra
   rw [zdk] at hA
   replace hA := pv_frame hA [.row 4 [zBrA]] (noMp1 _ rfl)
   refine kw_draw hmix ?_
   refine kdraw_ex ?_
   refine ex_f tf60_0 rfl (ex_l ta22 rfl (ex_s rfl (zay rfl rfl (zaa rfl) (fun _ => (zal rfl ts22 ti3 rfl rfl rfl hxl rfl)) (ex_l ta3 rfl (ex_f tf60_1 rfl (ex_l ta22 rfl (ex_s rfl (zay rfl rfl (zaa rfl) (fun _ => (zal rfl ts22 ti3 rfl rfl rfl hxh rfl)) (ex_l ta3 rfl (zay rfl rfl (zaa rfl) (fun _ => (zax rfl rfl rfl (IntWalk.i64_in _ xd))) (zay rfl rfl (zaa rfl) (fun _ => (does_quo rfl rfl rfl xd (IntWalk.i64_in _ xd))) (ex_s rfl ?_))))))))))))
   refine zcf xi ?_
   refine kw_seq ?_
   rw [ht2]
   refine kw_region (kops_w ta60 ti60 rfl (kops_s rfl (kops_s rfl (kops_op rfl rfl (zaa rfl) (zam rfl rfl (hhv) (zae rfl (zae rfl (zae rfl zap)))) (kops_s rfl (kops_s rfl (kops_s rfl (kops_op rfl rfl (zaa rfl) (za1 rfl ti60 rfl rfl) (kops_op rfl rfl (zaa rfl) (za1 rfl ti60 rfl rfl) (kops_eff rfl (zaa rfl) (zaj rfl ti60 rfl rfl rfl rfl rfl rfl xf xf) (kops_eff rfl (zaa rfl) (zaj rfl ti60 rfl rfl rfl rfl rfl rfl xf xf) (kops_nil (kw_seq ?_)))))))))))))
   refine kw_weak (kwk_froz (id := 2) rfl) ?_
   refine kw_weak (kwk_ref (d := 13) rfl rfl rfl) ?_
   refine kw_weak (kwk_froz (id := 3) rfl) ?_
   refine kw_weak (kwk_ref (d := 14) rfl rfl rfl) ?_
   refine kw_weak (F' := [(0, .ptr 0 4 0 0), (4, .ptr 1 4 0 0), (9, eI k), (12, eI t), (13, .ref (eBx lo (setI hi k t)).cells), (14, .ref (eBx (setI lo k (t + 1)) hi).cells)]) (σ' := [.row 4 [pvA d l cost (n - 1)], .row 4 [zBrA]]) (kwk_st [0, 1] rfl xf ⟨⟨_, rfl, zdt⟩, ⟨_, rfl, .rowE xb rfl⟩, trivial⟩ ⟨.ptr 0 0 4 0 0 rfl, .ptr 1 1 4 0 0 rfl, .lo _ (.s _), .lo _ (.s _), .lo _ (.ref _ (lo_Bx _ _).cells), .lo _ (.ref _ (lo_Bx _ _).cells), trivial⟩) ?_
   have hbr : ∀ s t L y, Lo 0 (.ref [eI s, eI t, eL eBr L, eL eF y]) := fun s t L y => by have := lo_Br (.mk s t L y); rw [zdk] at this; exact .ref _ this.cells
   cases ok1 with
   | false =>
    rw [if_pos rfl] at HI
    refine kw_region (kops_s rfl (kops_w ta60 ti60 rfl (kops_op rfl rfl (zaa rfl) (zbs rfl rfl hA (zae rfl (zae rfl zap))) (kops_s rfl (kops_s rfl (kops_s rfl (kops_op rfl rfl (zaa rfl) (za1 rfl ti32 rfl rfl) (kops_eff rfl (zaa rfl) (zaj rfl ti32 rfl rfl rfl rfl rfl rfl xf xf) (kops_s rfl (kops_nil (kw_seq (kw_seq ?_))))))))))))
    refine kw_weak (kwk_froz (id := 2) rfl) ?_
    refine kw_weak (kwk_ref (d := 15) rfl rfl rfl) ?_
    refine kw_weak (F' := [(0, .ptr 0 4 0 0), (4, .ptr 1 4 0 0), (16, eB false)]) (σ' := [.row 4 [pvA d l cost n1], .row 4 [zBrA]]) (kwk_st [0, 1] rfl xf ⟨⟨_, rfl, zdt⟩, ⟨_, rfl, .rowE xb rfl⟩, trivial⟩ ⟨.ptr 0 0 4 0 0 rfl, .ptr 1 1 4 0 0 rfl, .lo _ (.s _), trivial⟩) ?_
    refine kw_region (kops_s rfl (kops_op rfl rfl (zaa rfl) (zbj rfl rfl) (kops_nil (zai (kw_true rfl (kw_seq (kw_region (kops_op rfl rfl (zaa rfl) (za9 rfl ti32 tp32 rfl rfl) (kops_eff rfl (zaa rfl) (zaj rfl ti32 rfl rfl rfl rfl rfl rfl xf xf) (kops_s rfl (kops_nil (zai ?_))))))))))))
    (refine kw_ret ?_; repeat (first | refine zbc ?_ | refine zbe ?_))
    subst HI
    exact ⟨.inr rfl, prv_res (st := pvA d l cost n1) rfl rfl (WnL.cons (.refl _) (WnL.cons (.refl _) (WnL.cons .nil (WnL.cons .nil WnL.nil)))).agg (congrArg (fun z => AV.tup [z, eB false]) eBr_zero)⟩
   | true =>
    rw [if_neg xo] at HI
    dsimp only at HI hAb hA
    have hn1 : 0 ≤ n1 ∧ n1 ≤ 20000 := by have := hAb.2.2 rfl; omega
    have hB := IH n1 (setI lo k (t + 1)) hi (by have := boxM_lo (lo := lo) (hi := hi) (n := l.length) (k := k) (t := t + 1) hkl xd xd xd; omega) (hb.lo hkl xd xd) hn1.1 hn1.2
    generalize prvT d l cost f n1 (setI lo k (t + 1)) hi = rb at HI hB
    obtain ⟨⟨s2, t2, L2, y2⟩, ok2, n2⟩ := rb
    rw [zdk] at hB
    replace hB := pv_frame hB [.row 4 [zBrA]] (noMp1 _ rfl)
    refine kw_region (kops_s rfl (kops_w ta60 ti60 rfl (kops_op rfl rfl (zaa rfl) (zbs rfl rfl hA (zae rfl (zae rfl zap))) (kops_s rfl (kops_s rfl (kops_s rfl (kops_op rfl rfl (zaa rfl) (za1 rfl ti32 rfl rfl) (kops_eff rfl (zaa rfl) (zaj rfl ti32 rfl rfl rfl rfl rfl rfl xf xf) (kops_s rfl (kops_nil (kw_seq (kw_seq ?_))))))))))))
    refine kw_weak (kwk_froz (id := 2) rfl) ?_
    refine kw_weak (kwk_ref (d := 15) rfl rfl rfl) ?_
    refine kw_weak (F' := [(0, .ptr 0 4 0 0), (4, .ptr 1 4 0 0), (9, eI k), (12, eI t), (14, .ref (eBx (setI lo k (t + 1)) hi).cells), (15, .ref [eI s1, eI t1, eL eBr L1, eL eF y1]), (16, eB true)]) (σ' := [.row 4 [pvA d l cost n1], .row 4 [zBrA]]) (kwk_st [0, 1] rfl xf ⟨⟨_, rfl, zdt⟩, ⟨_, rfl, .rowE xb rfl⟩, trivial⟩ ⟨.ptr 0 0 4 0 0 rfl, .ptr 1 1 4 0 0 rfl, .lo _ (.s _), .lo _ (.s _), .lo _ (.ref _ (lo_Bx _ _).cells), .lo _ (hbr _ _ _ _), .lo _ (.s _), trivial⟩) ?_
    refine kw_region (kops_s rfl (kops_op rfl rfl (zaa rfl) (zbj rfl rfl) (kops_nil (zai (kw_false rfl (kw_skip (kw_seq (kw_region (kops_s rfl (kops_w ta60 ti60 rfl (kops_op rfl rfl (zaa rfl) (zbs rfl rfl hB (zae rfl (zae rfl zap))) (kops_s rfl (kops_s rfl (kops_s rfl (kops_op rfl rfl (zaa rfl) (za1 rfl ti32 rfl rfl) (kops_eff rfl (zaa rfl) (zaj rfl ti32 rfl rfl rfl rfl rfl rfl xf xf) (kops_s rfl (kops_nil (kw_seq ?_)))))))))))))))))))
    refine kw_weak (kwk_froz (id := 2) rfl) ?_
    refine kw_weak (kwk_ref (d := 17) rfl rfl rfl) ?_
    refine kw_weak (F' := [(0, .ptr 0 4 0 0), (4, .ptr 1 4 0 0), (9, eI k), (12, eI t), (15, .ref [eI s1, eI t1, eL eBr L1, eL eF y1]), (16, eB ok2), (17, .ref [eI s2, eI t2, eL eBr L2, eL eF y2])]) (σ' := [.row 4 [pvA d l cost n2], .row 4 [zBrA]]) (kwk_st [0, 1] rfl xf ⟨⟨_, rfl, zdt⟩, ⟨_, rfl, .rowE xb rfl⟩, trivial⟩ ⟨.ptr 0 0 4 0 0 rfl, .ptr 1 1 4 0 0 rfl, .lo _ (.s _), .lo _ (.s _), .lo _ (hbr _ _ _ _), .lo _ (.s _), .lo _ (hbr _ _ _ _), trivial⟩) ?_
    refine kw_region (kops_s rfl (kops_s rfl (kops_w ta32 ti32 rfl (kops_w ta32 ti32 rfl (kops_op rfl rfl (zaa rfl) (does_lit rfl ts29 ti32 rfl rfl xf xf xf rfl rfl) ?_)))))
    refine kops_weak (kwk_froz (id := 2) rfl) (kops_weak (kwk_sl (d := 160) rfl rfl rfl) ?_)
    refine kops_op rfl rfl (zaa rfl) (za9 rfl ti32 tp32 rfl rfl) (kops_s rfl (kops_eff rfl (zaa rfl) (zaj rfl ti32 rfl rfl rfl rfl rfl rfl xf xf) (kops_s rfl (kops_nil (zai ?_)))))
    have hLo2 : ∀ e ∈ [AV.agg [eI k, eI t, .sl [.agg [eI s1, eI t1, eL eBr L1, eL eF y1], .agg [eI s2, eI t2, eL eBr L2, eL eF y2]], .s (.slice none 0 0)]], ∀ c ∈ e.cells, Lo 0 c := by
     refine zaw (.agg _ (zah (.s _) (zah (.s _) (zah (.sl _ (zah ?_ (zah ?_ zak))) (zah (.s _) zak))))) zaz
     ·
      have := lo_Br (.mk s1 t1 L1 y1); rw [zdk] at this; exact this
     ·
      have := lo_Br (.mk s2 t2 L2 y2); rw [zdk] at this; exact this
    refine kw_weak (F' := [(4, .ptr 1 4 0 0), (5, eB ok2)]) (σ' := [.row 4 [pvA d l cost n2], .row 4 [.agg [eI k, eI t, .sl [.agg [eI s1, eI t1, eL eBr L1, eL eF y1], .agg [eI s2, eI t2, eL eBr L2, eL eF y2]], .s (.slice none 0 0)]]]) (kwk_st [0, 1] rfl xf ⟨⟨_, rfl, zdt⟩, ⟨_, rfl, .rowE hLo2 rfl⟩, trivial⟩ ⟨.ptr 1 1 4 0 0 rfl, .lo _ (.s _), trivial⟩) ?_
    (refine kw_ret ?_; repeat (first | refine zbc ?_ | refine zbe ?_))
    subst HI
    exact ⟨.inr rfl, prv_res (st := pvA d l cost n2) (y := .agg [eI k, eI t, .sl [.agg [eI s1, eI t1, eL eBr L1, eL eF y1], .agg [eI s2, eI t2, eL eBr L2, eL eF y2]], .sl []]) rfl rfl (WnL.cons (.refl _) (WnL.cons (.refl _) (WnL.cons (.refl _) (WnL.cons .nil WnL.nil)))).agg (by dsimp only; rw [zdk]; try simp only [eL, List.map_cons, List.map_nil, zdk])⟩
end K1
end Go.Proofs.YtllkbjcemecmjaaGreat.Aw
end
