import Derived.Test.YtllkbjcemecmjaaGreatJB9
import Derived.Test.YtllkbjcemecmjaaGreatJB6
import Derived.Test.YtllkbjcemecmjaaGreatJB5
set_option linter.unusedSimpArgs false
set_option linter.unusedVariables false
set_option linter.unusedSectionVars false
section
namespace Go.Proofs.YtllkbjcemecmjaaGreat.Aw
open Go Go.RowKit Go.Proofs
variable {P : Program} [IsP P]
theorem valsF_len {t : Tb} {n : Nat} : ∀ i, (valsF t n i).length = n
 | 0 => by simp [valsF]
 | i + 1 => by unfold valsF; split <;> simp [valsF_len i]
theorem note_e (t : Tb) (e : Int) (R : List Ob) (hR : 2 ≤ R.length) (x : Fr) (e' : Int) : CallE P 105 [.ptr 0 5 0 0, eF x, eI e'] (.row 5 [tbC t e] :: R) (eF x) (.row 5 [tbC t (if e = 0 then e' else e)] :: R) :=
 note_call (P := P) (c0 := AV.own 1 1 t.rows.length) (c1 := eL eF t.cost) (c2 := AV.own 2 1 t.bas.length) (c3 := eI t.last) (e := e) (R := R) x e' (tbC_lo xd)
theorem sneg_pf (a : Fr) (h : -1073741824 ≤ a.n ∧ a.n ≤ 1073741824) : Pure P 95 [eF a] (eF (fneg a)) := by
 rw [show eF (fneg a) = .agg [eI (0 - a.n), eI a.d] by simp [eF, fneg]]
 refine zcl (by rw [IsP.eq (P := P)]; exact Tryz.func95) rfl rfl rfl rfl rfl xa (.agg _ (zah (.s _) (zah (.s _) zak))) (by simp only [argF]; rfl) ?_
 refine zag (zab (zaf rfl rfl (zaa rfl) (zb3 rfl rfl rfl rfl) ?_))
 refine za6 (zbm (id := 0) rfl) (za6 (zcb (d := 1) rfl rfl rfl) ?_)
 refine zaf rfl rfl (zaa rfl) (za1 rfl ti45 rfl rfl) (zad (zag (zab (zbz tf45_0 rfl (zbu ta3 rfl (zaf rfl rfl (zaa rfl) (does_neg rfl rfl (IntWalk.i64_in _ xd)) (zbz tf45_1 rfl (zbu ta3 rfl (zaf rfl rfl (zaa rfl) (za9 rfl ti45 tp45 rfl rfl) (zba rfl (zaa rfl) (zaj rfl ti45 rfl rfl rfl rfl rfl rfl xf xf) (zad (zai ?_))))))))))))
 (refine za7 ?_; repeat (first | refine zbc ?_ | refine zbe ?_))
 exact post_c (N := 0) (.inr rfl) ta45 ti45 rfl rfl rfl rfl rfl (.refl _)
theorem subE_bd (a b : Fr) : -1073741824 ≤ (subE a b).fr.n ∧ (subE a b).fr.n ≤ 1073741824 := by
 unfold subE
 split
 ·
  rename_i h
  rw [Bool.and_eq_true] at h
  cases hs : fsub a b with
  | none => exact ⟨by decide, by decide⟩
  | some c =>
   have ha := (Fr.okB_iff _).1 h.1
   have hb := (Fr.okB_iff _).1 h.2
   have hc : c.ok := mkF_ok (by have := Int.mul_pos (d_pos ha) (d_pos (fneg_ok hb)); omega) hs
   exact ⟨hc.1, hc.2.1⟩
 ·
  exact ⟨by decide, by decide⟩
namespace K4
set_option maxHeartbeats 4000000 in
theorem values_call {m N : Nat} (z : Zc) (t : Tb) (ht : TbSh m N t) (n : Nat) (hn : 1 ≤ n ∧ n ≤ 12) :
  CallE P 94 [.ptr 0 5 0 0, eI n] (stE z t 0) (eL eF (valsE t n)) (stE z t 0) := by
 have hrl := ht.rl
 have hbl := ht.bl
 have hsm := ht.sm
 have hz := zeros_po (P := P) n xd
 have hz0 : zbf n = valsF t n 0 := rfl
 rw [hz0] at hz
 refine callE_fn1 (Nat.le_refl _) (by rw [IsP.eq (P := P)]; exact Tryz.func94) rfl rfl (Nat.le_of_ble_eq_true rfl) rfl ?_
 simp only [argF]
 refine kw_seq (kw_region (kops_s rfl (kops_nil (kw_seq (kw_region (kops_s rfl (kops_op rfl rfl (zaa rfl) (does_callO rfl rfl (hz) (zae rfl zap)) (kops_s rfl (kops_nil (kw_seq (kw_seq (kw_region (kops_s rfl (kops_s rfl (kops_f zdl rfl (kops_op rfl rfl (zaa rfl) (zaq rfl ta22 rfl rfl rfl rfl rfl) (kops_op rfl rfl (zaa rfl) (zc7 rfl ts22 rfl) (kops_s rfl (kops_nil (zai (kw_block ?_)))))))))))))))))))))
 refine kw_loops (S := Nat) (fun i => [(0, .ptr 0 5 0 0), (1, eI n), (5, .own 4 2 n), (14, .own 2 1 t.bas.length), (15, eI t.bas.length), (16, eI i)]) (fun i => [.row 5 [tbC t 0], .row 1 (t.rows.map (eL eF)), .row 1 (t.bas.map eI), .row z.n z.cs, .row 2 ((valsF t n i).map eF)]) (fun i => i ≤ m) (fun i => m - i) 0
  (kwk_st [0, 1, 2, 3, 4] rfl rfl rfl rfl xf ⟨⟨_, rfl, tb_ren rfl rfl⟩, ⟨_, rfl, .rowE (zde t) rfl⟩, ⟨_, rfl, .rowE (bas_lo t) rfl⟩, ⟨_, rfl, .rowE z.lo rfl⟩, ⟨_, rfl, .rowE xb rfl⟩, trivial⟩ ⟨.ptr 0 0 5 0 0 rfl, .lo _ (.s _), .own 4 4 2 _ _ rfl (by rw [List.length_map]; exact valsF_len 0), .own 2 2 1 _ _ rfl rfl, .lo _ (.s _), .lo _ (.s _), trivial⟩) (Nat.zero_le _) (fun i hi => ?_)
 refine kw_seq (kw_region ?_)
 refine kops_opP rfl rfl (zaa rfl) (za2 rfl rfl rfl) (fun h17 => ?_) (fun h17 => ?_)
 all_goals refine kops_nil (kw_seq ?_)
 all_goals (first | refine kw_true rfl ?_ | refine kw_false rfl ?_)
 all_goals (repeat (first | refine kw_seq ?_ | refine kw_skip ?_ | refine kw_block ?_))
 ·
  have hlt : i < m := by omega
  have hbi := ht.bs i hlt
  have hrow := ht.row hlt
  have hxb : (t.bas.map eI)[i]? = some (eI (gti t.bas i)) := zbb xd
  have hxr : (t.rows.map (eL eF))[i]? = some (eL eF (gti t.rows i)) := zbb xd
  have hxN : ((gti t.rows i).map eF)[N]? = some (eF (gti (gti t.rows i) N)) := zbb xd
  have hkN : (((gti t.rows i).length : Nat) : Int) - 1 = ((N : Nat) : Int) := by omega
  have hvl := valsF_len (t := t) (n := n) i
  refine kw_region (kops_s rfl (kops_op rfl rfl (zaa rfl) (za0 rfl ts22 ti3 rfl rfl rfl xd) (kops_op rfl rfl (zaa rfl) (zaq rfl ta3 rfl rfl rfl hxb rfl) (kops_s rfl (kops_s rfl (kops_nil (kw_seq (kw_region (kops_s rfl (kops_s rfl ?_))))))))))
  refine kops_opP rfl rfl (zaa rfl) (za2 rfl rfl rfl) (fun h23 => ?_) (fun h23 => ?_)
  all_goals refine kops_nil (zai ?_)
  all_goals (first | refine kw_true rfl ?_ | refine kw_false rfl ?_)
  all_goals (repeat (first | refine kw_seq ?_ | refine zai ?_ | refine kw_skip ?_ | refine zbl ?_))
  ·
   obtain ⟨b, hb⟩ : ∃ b : Nat, gti t.bas i = b := ⟨(gti t.bas i).toNat, by omega⟩
   have hbn : b < n := by omega
   have hxo : ((valsF t n i).map eF)[b]? = some (eF (gti (valsF t n i) b)) := zbb xd
   refine kw_region (kops_s rfl (kops_s rfl (kops_f zc6 rfl (kops_op rfl rfl (zaa rfl) (zaq rfl ta86 rfl rfl rfl rfl rfl) (kops_s rfl (kops_op rfl rfl (zaa rfl) (za0 rfl ts86 ti30 rfl rfl rfl xd) (kops_op rfl rfl (zaa rfl) (zaq rfl ta30 rfl rfl rfl hxr rfl) (kops_s rfl (kops_nil (zai (kw_region (kops_s rfl (kops_s rfl (kops_s rfl (kops_s rfl (kops_op rfl rfl (zaa rfl) (zao rfl ts30 rfl) (kops_op rfl rfl (zaa rfl) (zdx rfl rfl rfl (IntWalk.i64_in _ xd)) (kops_op rfl rfl (zaa rfl) (zal rfl ts30 ti45 rfl rfl hkN hxN rfl) ?_))))))))))))))))))
   refine kops_w ta45 ti45 rfl (kops_op rfl rfl (zaa rfl) (za0 rfl ts30 ti45 rfl rfl hb hbn) (kops_eff rfl (zaa rfl) (zaj rfl ti45 rfl rfl rfl hxo rfl rfl xf xf) (kops_nil (zbl (zai (kw_region (kops_op rfl rfl (zaa rfl) (zax rfl rfl rfl (IntWalk.i64_in _ xd)) (kops_s rfl (kops_nil (zai ?_))))))))))
   have hv : valsF t n (i + 1) = (valsF t n i).set b (gti (gti t.rows i) N) := by
    rw [valsF, if_pos h23, hb, show (gti t.rows i).length - 1 = N by omega]; rfl
   exact ⟨i + 1, by omega, by omega, kwk_st [0, 1, 2, 3, 4] rfl rfl rfl rfl xf ⟨⟨_, rfl, tb_ren rfl rfl⟩, ⟨_, rfl, .rowE (zde t) rfl⟩, ⟨_, rfl, .rowE (bas_lo t) rfl⟩, ⟨_, rfl, .rowE z.lo rfl⟩, ⟨_, rfl, .rowE xb (by rw [hv, List.map_set]; rfl)⟩, trivial⟩ ⟨.ptr 0 0 5 0 0 rfl, .lo _ (.s _), .own 4 4 2 _ _ rfl rfl, .own 2 2 1 _ _ rfl rfl, .lo _ (.s _), .lo _ (.s _), trivial⟩⟩
  ·
   refine kw_region (kops_op rfl rfl (zaa rfl) (zax rfl rfl rfl (IntWalk.i64_in _ xd)) (kops_s rfl (kops_nil (zai ?_))))
   have hv : valsF t n (i + 1) = valsF t n i := by rw [valsF, if_neg h23]
   exact ⟨i + 1, by omega, by omega, kwk_st [0, 1, 2, 3, 4] rfl rfl rfl rfl xf ⟨⟨_, rfl, tb_ren rfl rfl⟩, ⟨_, rfl, .rowE (zde t) rfl⟩, ⟨_, rfl, .rowE (bas_lo t) rfl⟩, ⟨_, rfl, .rowE z.lo rfl⟩, ⟨_, rfl, .rowE xb (by rw [hv])⟩, trivial⟩ ⟨.ptr 0 0 5 0 0 rfl, .lo _ (.s _), .own 4 4 2 _ _ rfl rfl, .own 2 2 1 _ _ rfl rfl, .lo _ (.s _), .lo _ (.s _), trivial⟩⟩
 ·
  have e : i = t.bas.length := by omega
  subst e
  (refine kw_exit ?_; repeat (first | refine zcr ?_ | refine zbt ?_ | refine zbk rfl ?_ | refine zbl ?_ | refine zai ?_ | refine kw_seq ?_ | refine kw_skip ?_ | refine kw_block ?_))
  refine kw_weak (kwk_froz (id := 4) rfl) ?_
  refine kw_weak (kwk_sl (d := 5) rfl rfl (by rw [List.length_map, valsF_len])) ?_
  refine kw_region (kops_s rfl (kops_s rfl (kops_nil (zai ?_))))
  refine kw_weak (kwk_cut (σ := stE z t 0) (F' := [(4, .sl ((valsE t n).map eF))]) (by simp [stE]) (stE_lo _ _ _) ⟨⟨rfl, lo_up xa⟩, trivial⟩) ?_
  (refine kw_ret ?_; repeat (first | refine zbc ?_ | refine zbe ?_))
  exact ⟨.inr rfl, rfl, rfl⟩
set_option maxHeartbeats 4000000 in
theorem priced_call {m N : Nat} (z : Zc) (c0 : AV) (t : Tb) (cost : List Fr) (ht : TbSh m N { t with cost := cost }) (he : t.e = 0) :
  CallE P 86 [.ptr 0 5 0 0, eL eF cost] [.row 5 [.agg [.own 1 1 t.rows.length, c0, .own 2 1 t.bas.length, eI t.last, eI 0]], .row 1 (t.rows.map (eL eF)), .row 1 (t.bas.map eI), .row z.n z.cs] (.tup []) (stE z (prcE cost t) (prcE cost t).e) := by
 have hbl := ht.bl
 have hsm := ht.sm
 have HI : prcE cost t = prcF m 0 { t with cost := cost } := by unfold prcE; rw [show t.bas.length = m from hbl]
 generalize prcE cost t = R at HI ⊢
 refine callE_fn0 (Nat.le_refl _) (by rw [IsP.eq (P := P)]; exact Tryz.func86) rfl rfl (Nat.le_of_ble_eq_true rfl) rfl ?_
 simp only [argF]
 refine kw_seq (kw_region (kops_s rfl (kops_s rfl (kops_s rfl (kops_f tf138_1 rfl (kops_eff rfl (zaa rfl) (zaj rfl ti30 rfl rfl rfl rfl rfl rfl xf xf) (kops_nil (kw_seq (kw_stEq (σ' := stE z { t with cost := cost } 0) rfl ?_)))))))))
 generalize hT : ({ t with cost := cost } : Tb) = T at HI ht hbl ⊢
 have hTe : T.e = 0 := by subst hT; exact he
 refine kw_region (kops_s rfl (kops_s rfl (kops_f zdl rfl (kops_op rfl rfl (zaa rfl) (zaq rfl ta22 rfl rfl rfl rfl rfl) (kops_op rfl rfl (zaa rfl) (zc7 rfl ts22 rfl) (kops_s rfl (kops_nil (zai (kw_block ?_)))))))))
 refine kw_stEq (σ' := stE z T T.e) (by rw [hTe]) ?_
 refine kw_loops (S := Nat × Tb) (fun s => [(0, .ptr 0 5 0 0), (13, .own 2 1 T.bas.length), (14, eI T.bas.length), (15, eI s.1)]) (fun s => [.row 5 [tbC s.2 s.2.e], .row 1 (s.2.rows.map (eL eF)), .row 1 (s.2.bas.map eI), .row z.n z.cs]) (fun s => s.1 ≤ m ∧ s.2.bas = T.bas ∧ (s.2.e = 0 → TbSh m N s.2) ∧ R = prcF (m - s.1) s.1 s.2) (fun s => m - s.1) (0, T)
  (kwk_sub ⟨rfl, rfl, rfl, rfl, trivial⟩) ⟨Nat.zero_le _, rfl, fun _ => ht, HI⟩ (fun s hs => ?_)
 obtain ⟨i, s⟩ := s
 obtain ⟨hi, hsb, hsh, HJ⟩ := hs
 dsimp only at hi hsb hsh HJ ⊢
 clear HI hT hTe ht he
 have hsbl : s.bas.length = m := by rw [hsb]; exact hbl
 refine kw_seq (kw_region ?_)
 refine kops_opP rfl rfl (zaa rfl) (za2 rfl rfl rfl) (fun h16 => ?_) (fun h16 => ?_)
 all_goals refine kops_nil (kw_seq ?_)
 all_goals (first | refine kw_true rfl ?_ | refine kw_false rfl ?_)
 all_goals (repeat (first | refine kw_seq ?_ | refine kw_skip ?_ | refine kw_block ?_))
 ·
  have hlt : i < m := by omega
  have hxb : (s.bas.map eI)[i]? = some (eI (gti s.bas i)) := zbb xd
  rw [show m - i = (m - (i + 1)) + 1 by omega] at HJ
  unfold prcF at HJ
  refine kw_region (kops_s rfl (kops_op rfl rfl (zaa rfl) (za0 rfl ts22 ti3 rfl rfl rfl xd) (kops_op rfl rfl (zaa rfl) (zaq rfl ta3 rfl rfl rfl hxb rfl) (kops_s rfl (kops_s rfl (kops_nil (kw_seq (kw_seq (kw_region (kops_s rfl (kops_s rfl (kops_f zdu rfl (kops_op rfl rfl (zaa rfl) (zaq rfl ta33 rfl rfl rfl rfl rfl) ?_)))))))))))))
  refine kops_opP rfl rfl (zaa rfl) (zbp rfl rfl rfl) (fun h24 => ?_) (fun h24 => ?_)
  all_goals refine kops_nil (zai ?_)
  all_goals (first | refine kw_true rfl ?_ | refine kw_false rfl ?_)
  all_goals (repeat (first | refine kw_seq ?_ | refine kw_skip ?_))
  ·
   rw [if_pos h24] at HJ
   (refine kw_ret ?_; repeat (first | refine zbc ?_ | refine zbe ?_))
   subst HJ
   exact ⟨.inr rfl, rfl⟩
  ·
   rw [if_neg h24] at HJ
   have h0 : s.e = 0 := Decidable.not_not.1 h24
   have hs := hsh h0
   have hrl := hs.rl
   have hbi := hs.bs i hlt
   have hrow := hs.row hlt
   have hcl := hs.cl
   obtain ⟨b, hb⟩ : ∃ b : Nat, gti s.bas i = b := ⟨(gti s.bas i).toNat, by omega⟩
   have hxc : (s.cost.map eF)[b]? = some (eF (gti s.cost b)) := zbb xd
   have hxr : (s.rows.map (eL eF))[i]? = some (eL eF (gti s.rows i)) := zbb xd
   rw [show (gti s.bas i).toNat = b by rw [hb]; rfl] at HJ
   dsimp only at HJ
   rw [h0]
   refine kw_region (kops_s rfl (kops_s rfl (kops_f tf138_1 rfl (kops_op rfl rfl (zaa rfl) (zaq rfl ta30 rfl rfl rfl rfl rfl) (kops_s rfl (kops_op rfl rfl (zaa rfl) (zal rfl ts30 ti45 rfl rfl hb hxc rfl) (kops_f tf45_0 rfl (kops_l ta3 rfl ?_))))))))
   refine kops_opP rfl rfl (zaa rfl) (zbp rfl rfl rfl) (fun h33 => ?_) (fun h33 => ?_)
   all_goals refine kops_nil (zai ?_)
   all_goals (first | refine kw_true rfl ?_ | refine kw_false rfl ?_)
   all_goals (repeat (first | refine zai ?_ | refine kw_skip ?_ | refine zbl ?_))
   ·
    rw [if_neg h33] at HJ
    have hls := less_call (P := P) z s s.cost (gti s.rows i) (gti s.cost b) xd xd
    have hll := less_len (by_ := gti s.cost b) s.cost (gti s.rows i)
    generalize zdr (gti s.cost b) s.cost (gti s.rows i) = L at HJ hls hll
    refine kw_draw hmix ?_
    refine edraw_lastT rfl xi ?_
    simp only [List.dropLast]
    refine edraw_f0 (invT s) (invT_app) ?_
    refine zbh rfl rfl (zaa rfl) (fun _ => (mv_ptr (.inl rfl) rfl)) ⟨rfl, ⟨_, rfl⟩⟩ ?_
    refine zbh rfl rfl (zaa rfl) (fun _ => (mv_ptr (.inl rfl) rfl)) ⟨rfl, ⟨_, rfl⟩⟩ ?_
    refine zbh rfl rfl (zaa rfl) (fun _ => (mv_ptr (.inl rfl) rfl)) ⟨rfl, ⟨_, rfl⟩⟩ ?_
    refine zbh rfl rfl (zaa rfl) (fun _ => (zcy rfl rfl)) ⟨rfl, ⟨_, rfl⟩⟩ ?_
    refine zbh rfl rfl (zaa rfl) (fun _ => (zb7 rfl tf138_1 xf rfl)) ⟨rfl, ⟨_, rfl⟩⟩ ?_
    refine fx_inv rfl rfl (zaa rfl) (fun σ2 h => by obtain ⟨_, h⟩ := h; exact zaq rfl ta30 rfl h rfl rfl rfl) ⟨rfl, ⟨_, rfl⟩⟩ ?_
    refine zbh rfl rfl (zaa rfl) (fun _ => (mv_ptr (.inl rfl) rfl)) ⟨rfl, ⟨_, rfl⟩⟩ ?_
    refine zbh rfl rfl (zaa rfl) (fun _ => (zcy rfl rfl)) ⟨rfl, ⟨_, rfl⟩⟩ ?_
    refine zbh rfl rfl (zaa rfl) (fun _ => (zb7 rfl zc6 xf rfl)) ⟨rfl, ⟨_, rfl⟩⟩ ?_
    refine fx_inv rfl rfl (zaa rfl) (fun σ2 h => by obtain ⟨_, h⟩ := h; exact zaq rfl ta86 rfl h rfl rfl rfl) ⟨rfl, ⟨_, rfl⟩⟩ ?_
    refine zbh rfl rfl (zaa rfl) (fun _ => (mv_s (.inl rfl) rfl)) ⟨rfl, ⟨_, rfl⟩⟩ ?_
    refine zbh rfl rfl (zaa rfl) (fun _ => (za0 rfl ts86 ti30 rfl rfl rfl xd)) ⟨rfl, ⟨_, rfl⟩⟩ ?_
    refine fx_look rfl rfl (zaa rfl) (zbr rfl ta30 rfl rfl rfl hxr rfl) ⟨rfl, ⟨_, rfl⟩⟩ (by intro id h; simp at h; subst h; exact Nat.le_of_ble_eq_true rfl) ?_
    refine zbh rfl rfl (zaa rfl) (fun _ => (mv_ptr (.inl rfl) rfl)) ⟨rfl, ⟨_, rfl⟩⟩ ?_
    refine zbh rfl rfl (zaa rfl) (fun _ => (zcy rfl rfl)) ⟨rfl, ⟨_, rfl⟩⟩ ?_
    refine zbh rfl rfl (zaa rfl) (fun _ => (zb7 rfl tf138_1 xf rfl)) ⟨rfl, ⟨_, rfl⟩⟩ ?_
    refine fx_inv rfl rfl (zaa rfl) (fun σ2 h => by obtain ⟨_, h⟩ := h; exact zaq rfl ta30 rfl h rfl rfl rfl) ⟨rfl, ⟨_, rfl⟩⟩ ?_
    refine zbh rfl rfl (zaa rfl) (fun _ => (mv_s (.inl rfl) rfl)) ⟨rfl, ⟨_, rfl⟩⟩ ?_
    refine zbh rfl rfl (zaa rfl) (fun _ => (zal rfl ts30 ti45 rfl rfl hb hxc rfl)) ⟨rfl, ⟨_, rfl⟩⟩ ?_
    refine zbh rfl rfl (zaa rfl) (fun _ => (zck rfl ta45 ti45 rfl rfl)) ⟨rfl, ⟨_, rfl⟩⟩ ?_
    refine fx_m0 rfl rfl rfl (zaa rfl) (zbs rfl rfl (hls) (zae rfl (zae rfl (zae rfl (zae rfl zap))))) ⟨rfl, ⟨_, rfl⟩⟩ ?_
    refine zbh rfl rfl (zaa rfl) (fun _ => (zcy rfl rfl)) ⟨rfl, ⟨_, rfl⟩⟩ ?_
    refine zbh rfl rfl (zaa rfl) (fun _ => (zb7 rfl tf138_1 xf rfl)) ⟨rfl, ⟨_, rfl⟩⟩ ?_
    refine fx_nil ⟨rfl, ⟨_, rfl⟩⟩ xi (.inr ⟨rfl, Nat.le_refl _⟩) ?_
    simp only [if_true, Bool.false_eq_true, if_false, List.append_nil, List.cons_append, List.nil_append]
    refine zai (eops_eff rfl (zaa rfl) (zaj rfl ti30 rfl rfl rfl rfl rfl rfl xf xf) (zdj (zbl (zai (kw_region (kops_op rfl rfl (zaa rfl) (zax rfl rfl rfl (IntWalk.i64_in _ xd)) (kops_s rfl (kops_nil (zai ?_)))))))))
    exact ⟨(i + 1, { s with cost := L.1, e := L.2 }), ⟨by show i + 1 ≤ m; omega, hsb, fun h => ⟨hs.rl, hs.rw_, (hll h).trans hcl, hs.bl, hs.bs, hsm⟩, HJ⟩, by show m - (i + 1) < m - i; omega, kwk_sub ⟨rfl, rfl, rfl, rfl, trivial⟩⟩
   ·
    rw [if_pos xd] at HJ
    refine kw_stEq (σ' := stE z s s.e) (by rw [h0]; rfl) ?_
    refine kw_region (kops_op rfl rfl (zaa rfl) (zax rfl rfl rfl (IntWalk.i64_in _ xd)) (kops_s rfl (kops_nil (zai ?_))))
    exact ⟨(i + 1, s), ⟨by show i + 1 ≤ m; omega, hsb, hsh, HJ⟩, by show m - (i + 1) < m - i; omega, kwk_sub ⟨rfl, rfl, rfl, rfl, trivial⟩⟩
 ·
  have e : i = m := by omega
  subst e
  rw [Nat.sub_self] at HJ
  unfold prcF at HJ
  subst HJ
  (refine kw_exit ?_; repeat (first | refine zcr ?_ | refine zbt ?_ | refine zbk rfl ?_ | refine zbl ?_ | refine zai ?_ | refine kw_seq ?_ | refine kw_skip ?_ | refine kw_block ?_))
  exact ⟨.inl rfl, rfl⟩
end K4
end Go.Proofs.YtllkbjcemecmjaaGreat.Aw
end
section
namespace Go.Proofs.YtllkbjcemecmjaaGreat.Aw
open Go Go.RowKit Go.Proofs
variable {P : Program} [IsP P]
namespace K4
set_option maxHeartbeats 4000000 in
theorem mult_call {m N : Nat} (z : Zc) (t : Tb) (ht : TbSh m N t) (turned : List Bool) (htl : turned.length = m) (cost : Int) (hla : 0 ≤ t.last ∧ t.last + m ≤ N) :
  CallE P 90 [.ptr 0 5 0 0, eL eB turned, eI cost] (stE z t t.e) (eL eF (mulTE t turned cost).1) (stE z t (mulTE t turned cost).2) := by
 have hsm := ht.sm
 have hcl := ht.cl
 have HI : mulTE t turned cost = ([] ++ (mulF t turned cost m 0 t.e).1, (mulF t turned cost m 0 t.e).2) := by unfold mulTE; rw [htl]; rfl
 generalize mulTE t turned cost = R at HI ⊢
 refine callE_fn1 (Nat.le_refl _) (by rw [IsP.eq (P := P)]; exact Tryz.func90) rfl rfl (Nat.le_of_ble_eq_true rfl) rfl ?_
 simp only [argF]
 refine kw_seq (kw_region (kops_s rfl (kops_nil (kw_seq (kw_region (kops_s rfl (kops_nil (kw_seq (kw_seq ?_)))))))))
 refine kw_weak (kwk_own (d := 7) 2 rfl (.inr rfl)) ?_
 refine kw_region (kops_s rfl (kops_op rfl rfl (zaa rfl) (zao rfl ts131 rfl) (kops_s rfl (kops_nil (zai (kw_block ?_))))))
 refine kw_loops (S := Nat × List Fr × Int) (fun s => [(0, .ptr 0 5 0 0), (2, eI cost), (7, .own 4 2 s.1), (11, eL eB turned), (12, eI turned.length), (13, eI s.1)]) (fun s => [.row 5 [tbC t s.2.2], .row 1 (t.rows.map (eL eF)), .row 1 (t.bas.map eI), .row z.n z.cs, .row 2 (s.2.1.map eF)]) (fun s => s.1 ≤ m ∧ s.2.1.length = s.1 ∧ R = (s.2.1 ++ (mulF t turned cost (m - s.1) s.1 s.2.2).1, (mulF t turned cost (m - s.1) s.1 s.2.2).2)) (fun s => m - s.1) (0, [], t.e)
  (kwk_st [0, 1, 2, 3, 4] rfl rfl rfl rfl xf ⟨⟨_, rfl, tb_ren rfl rfl⟩, ⟨_, rfl, .rowE (zde t) rfl⟩, ⟨_, rfl, .rowE (bas_lo t) rfl⟩, ⟨_, rfl, .rowE z.lo rfl⟩, ⟨_, rfl, .rowE (zaz) rfl⟩, trivial⟩ ⟨.ptr 0 0 5 0 0 rfl, .lo _ (.s _), .own 4 4 2 _ _ rfl rfl, .lo _ (zan fun _ => .s _), .lo _ (.s _), .lo _ (.s _), trivial⟩) ⟨Nat.zero_le _, rfl, HI⟩ (fun s hs => ?_)
 obtain ⟨i, pre, e⟩ := s
 obtain ⟨hi, hp, HJ⟩ := hs
 dsimp only at hi hp HJ ⊢
 clear HI
 refine kw_seq (kw_region ?_)
 refine kops_opP rfl rfl (zaa rfl) (za2 rfl rfl rfl) (fun h14 => ?_) (fun h14 => ?_)
 all_goals refine kops_nil (kw_seq ?_)
 all_goals (first | refine kw_true rfl ?_ | refine kw_false rfl ?_)
 all_goals (repeat (first | refine kw_seq ?_ | refine kw_skip ?_ | refine kw_block ?_))
 ·
  have hlt : i < m := by omega
  have hpl : (pre.map eF).length = i := by simp [hp]
  rw [show m - i = (m - (i + 1)) + 1 by omega] at HJ
  unfold mulF at HJ
  have hxt : (turned.map eB)[i]? = some (eB (gti turned i)) := zbb xd
  have hxl : (t.cost.map eF)[t.last.toNat + i]? = some (eF (gti t.cost (t.last.toNat + i))) := zbb xd
  have hkl : t.last + (i : Int) = ((t.last.toNat + i : Nat) : Int) := by omega
  have hbd := subE_bd (Fr.of cost) (gti t.cost (t.last.toNat + i))
  have hny := fun R hR => note_e (P := P) t e R hR (subE (Fr.of cost) (gti t.cost (t.last.toNat + i))).fr (subE (Fr.of cost) (gti t.cost (t.last.toNat + i))).e
  refine kw_region (kops_s rfl (kops_op rfl rfl (zaa rfl) (zal rfl ts131 ti4 rfl rfl rfl (zbb xd) rfl) (kops_l ta4 rfl (kops_s rfl (kops_s rfl (kops_nil (kw_seq ?_)))))))
  refine kw_draw hmix ?_
  refine edraw_lastT rfl xi ?_
  simp only [List.dropLast]
  refine edraw_fx 19 (.row 2 [.agg [eI 0, eI 0]]) (fun _ => True) (fun _ _ => trivial) ?_
  refine zbh rfl rfl (zaa rfl) (fun _ => (mv_ptr (.inl rfl) rfl)) ⟨rfl, trivial⟩ ?_
  refine zbh rfl rfl (zaa rfl) (fun _ => (mv_s (.inl rfl) rfl)) ⟨rfl, trivial⟩ ?_
  refine zbh rfl rfl (zaa rfl) (fun _ => (zam rfl rfl ((swhole_pf cost)) (zae rfl zap))) ⟨rfl, trivial⟩ ?_
  refine zbh rfl rfl (zaa rfl) (fun _ => (mv_ptr (.inl rfl) rfl)) ⟨rfl, trivial⟩ ?_
  refine zbh rfl rfl (zaa rfl) (fun _ => (zcy rfl rfl)) ⟨rfl, trivial⟩ ?_
  refine zbh rfl rfl (zaa rfl) (fun _ => (zb7 rfl tf138_1 xf rfl)) ⟨rfl, trivial⟩ ?_
  refine fx_look rfl rfl (zaa rfl) (zbr rfl ta30 rfl rfl rfl rfl rfl) ⟨rfl, trivial⟩ (by intro id h; simp at h; subst h; exact Nat.le_of_ble_eq_true rfl) ?_
  refine zbh rfl rfl (zaa rfl) (fun _ => (mv_ptr (.inl rfl) rfl)) ⟨rfl, trivial⟩ ?_
  refine zbh rfl rfl (zaa rfl) (fun _ => (zcy rfl rfl)) ⟨rfl, trivial⟩ ?_
  refine zbh rfl rfl (zaa rfl) (fun _ => (zb7 rfl tf138_3 xf rfl)) ⟨rfl, trivial⟩ ?_
  refine fx_look rfl rfl (zaa rfl) (zbr rfl ta3 rfl rfl rfl rfl rfl) ⟨rfl, trivial⟩ (by intro id h; simp at h; subst h; exact Nat.le_of_ble_eq_true rfl) ?_
  refine zbh rfl rfl (zaa rfl) (fun _ => (mv_s (.inl rfl) rfl)) ⟨rfl, trivial⟩ ?_
  refine zbh rfl rfl (zaa rfl) (fun _ => (zax rfl rfl rfl (IntWalk.i64_in _ xd))) ⟨rfl, trivial⟩ ?_
  refine zbh rfl rfl (zaa rfl) (fun _ => (zal rfl ts30 ti45 rfl rfl hkl hxl rfl)) ⟨rfl, trivial⟩ ?_
  refine zbh rfl rfl (zaa rfl) (fun _ => (zck rfl ta45 ti45 rfl rfl)) ⟨rfl, trivial⟩ ?_
  refine zbh rfl rfl (zaa rfl) (fun _ => (zam rfl rfl ((fSub_pf (Fr.of cost) (gti t.cost (t.last.toNat + i)))) (zae rfl (zae rfl zap)))) ⟨rfl, trivial⟩ ?_
  refine zbh rfl rfl (zaa rfl) (fun _ => (zcz rfl rfl rfl)) ⟨rfl, trivial⟩ ?_
  refine zbh rfl rfl (zaa rfl) (fun _ => (zcz rfl rfl rfl)) ⟨rfl, trivial⟩ ?_
  refine fx_n0 rfl rfl (zaa rfl) (fun X => zbs rfl rfl (hny _ (by simp <;> omega)) (zae rfl (zae rfl (zae rfl zap)))) ⟨rfl, trivial⟩ ?_
  refine fx_flt rfl rfl (zaa rfl) (does_alloc_flt (fun σ => (za1 rfl ti45 rfl rfl))) ⟨rfl, trivial⟩ ?_
  refine fx_nil ⟨rfl, trivial⟩ xi (.inl ⟨rfl, rfl⟩) ?_
  simp only [if_true, Bool.false_eq_true, if_false, List.append_nil, List.cons_append, List.nil_append]
  refine zai (eops_eff rfl (zaa rfl) (zaj rfl ti45 rfl rfl rfl rfl rfl rfl xf xf) (zdj (kw_seq (kw_seq ?_))))
  generalize subE (Fr.of cost) (gti t.cost (t.last.toNat + i)) = y at HJ hbd hny ⊢
  have hng := sneg_pf (P := P) y.fr hbd
  refine kw_region (kops_s rfl (kops_nil (zai ?_)))
  cases htu : gti turned i with
  | true =>
   rw [htu] at HJ
   refine kw_true rfl (kw_region (kops_op rfl rfl (zaa rfl) (za8 rfl ta45 ti45 rfl rfl rfl rfl rfl) (kops_op rfl rfl (zaa rfl) (zam rfl rfl (hng) (zae rfl zap)) (kops_eff rfl (zaa rfl) (zaj rfl ti45 rfl rfl rfl rfl rfl rfl xf xf) (kops_nil (zai (kw_region (kops_s rfl (kops_op rfl rfl (zaa rfl) (za8 rfl ta45 ti45 rfl rfl rfl rfl rfl) (kops_op rfl rfl (zaa rfl) (zco rfl ts30 ti45 rfl rfl xf xf rfl rfl rfl (.agg _ (zah (.s _) (zah (.s _) zak)))) ?_))))))))))
   refine kops_op rfl rfl (zaa rfl) (zbq rfl ts30 ti45 rfl xf rfl rfl xk rfl xe xg xg) ?_
   refine kops_s rfl (kops_nil (zbl (zai (kw_region (kops_op rfl rfl (zaa rfl) (zax rfl rfl rfl (IntWalk.i64_in _ xd)) (kops_s rfl (kops_nil (zai ?_))))))))
   exact ⟨(i + 1, pre ++ [fneg y.fr], if e = 0 then y.e else e), ⟨by show i + 1 ≤ m; omega, by simp [hp], by rw [HJ]; simp⟩, by show m - (i + 1) < m - i; omega, kwk_st [0, 1, 2, 3, 6] rfl rfl rfl rfl xf ⟨⟨_, rfl, tb_ren rfl rfl⟩, ⟨_, rfl, .rowE (zde t) rfl⟩, ⟨_, rfl, .rowE (bas_lo t) rfl⟩, ⟨_, rfl, .rowE z.lo rfl⟩, ⟨_, rfl, .rowE xb (by rw [List.map_append]; rfl)⟩, trivial⟩ ⟨.ptr 0 0 5 0 0 rfl, .lo _ (.s _), .own 6 4 2 _ _ rfl (by simp [hp]), .lo _ (zan fun _ => .s _), .lo _ (.s _), .lo _ (.s _), trivial⟩⟩
  | false =>
   rw [htu] at HJ
   refine kw_false rfl (kw_skip (zai (kw_region (kops_s rfl (kops_op rfl rfl (zaa rfl) (za8 rfl ta45 ti45 rfl rfl rfl rfl rfl) (kops_op rfl rfl (zaa rfl) (zco rfl ts30 ti45 rfl rfl xf xf rfl rfl rfl (.agg _ (zah (.s _) (zah (.s _) zak)))) ?_))))))
   refine kops_op rfl rfl (zaa rfl) (zbq rfl ts30 ti45 rfl xf rfl rfl xk rfl xe xg xg) ?_
   refine kops_s rfl (kops_nil (zbl (zai (kw_region (kops_op rfl rfl (zaa rfl) (zax rfl rfl rfl (IntWalk.i64_in _ xd)) (kops_s rfl (kops_nil (zai ?_))))))))
   exact ⟨(i + 1, pre ++ [y.fr], if e = 0 then y.e else e), ⟨by show i + 1 ≤ m; omega, by simp [hp], by rw [HJ]; simp⟩, by show m - (i + 1) < m - i; omega, kwk_st [0, 1, 2, 3, 6] rfl rfl rfl rfl xf ⟨⟨_, rfl, tb_ren rfl rfl⟩, ⟨_, rfl, .rowE (zde t) rfl⟩, ⟨_, rfl, .rowE (bas_lo t) rfl⟩, ⟨_, rfl, .rowE z.lo rfl⟩, ⟨_, rfl, .rowE xb (by rw [List.map_append]; rfl)⟩, trivial⟩ ⟨.ptr 0 0 5 0 0 rfl, .lo _ (.s _), .own 6 4 2 _ _ rfl (by simp [hp]), .lo _ (zan fun _ => .s _), .lo _ (.s _), .lo _ (.s _), trivial⟩⟩
 ·
  have ei : i = m := by omega
  subst ei
  rw [Nat.sub_self] at HJ
  unfold mulF at HJ
  (refine kw_exit ?_; repeat (first | refine zcr ?_ | refine zbt ?_ | refine zbk rfl ?_ | refine zbl ?_ | refine zai ?_ | refine kw_seq ?_ | refine kw_skip ?_ | refine kw_block ?_))
  refine kw_weak (kwk_froz (id := 4) rfl) ?_
  refine kw_weak (kwk_sl (d := 7) rfl rfl (by simp [hp])) ?_
  refine kw_region (kops_s rfl (kops_s rfl (kops_nil (zai ?_))))
  refine kw_weak (kwk_cut (σ := stE z t e) (F' := [(6, .sl (pre.map eF))]) (by simp [stE]) (stE_lo _ _ _) ⟨⟨rfl, lo_up xa⟩, trivial⟩) ?_
  (refine kw_ret ?_; repeat (first | refine zbc ?_ | refine zbe ?_))
  subst HJ
  exact ⟨.inr rfl, by simp [Frm.get, eL], rfl⟩
end K4
end Go.Proofs.YtllkbjcemecmjaaGreat.Aw
end
section
namespace Go.Proofs.YtllkbjcemecmjaaGreat.Aw
open Go.RowKit Go.Proofs
variable {P : Program} [IsP P]
theorem indexI_pf (l : List Int) (p : Int) : Pure P 83 [eL eI l, eI p] (eI (zc2 (fun x => decide (x = p)) l)) := by
 refine zcl (by rw [IsP.eq (P := P)]; exact Tryz.func83) rfl rfl rfl rfl rfl xa (.s _) (by simp only [argF]; rfl) ?_
 refine zag ?_
 refine zda (d := 0) rfl (fun hmx => ?_)
 unfold maxLen at hmx
 refine zab (zac rfl (zad (zag (zag (zab (zac rfl (zaf rfl rfl (zaa rfl) (zao rfl ts22 rfl) (zac rfl (zad (zai (zas ?_)))))))))))
 refine zb1 (S := Nat) (fun k => [(0, eL eI l), (1, eI p), (7, eI l.length), (8, eI k)]) (fun _ => []) (fun k => k ≤ l.length ∧ ∀ j, j < k → gti l j ≠ p) (fun k => l.length - k) 0 (wk_sub _ ⟨rfl, rfl, rfl, rfl, trivial⟩) ⟨by omega, fun j hj => by omega⟩ (fun k hk => ?_)
 obtain ⟨hk, hall⟩ := hk
 have hno : ∀ j a, j < k → l[j]? = some a → decide (a = p) = false := fun j a hj ha => by
  have := hall j hj
  unfold gti at this
  rw [ha] at this
  exact decide_eq_false this
 refine zag (zab ?_)
 refine za3 rfl rfl (zaa rfl) (za2 rfl rfl rfl) (fun h9 => ?_) (fun h9 => ?_)
 all_goals refine zad (zag ?_)
 all_goals (first | refine za5 rfl ?_ | refine zau rfl ?_)
 all_goals (repeat (first | refine zag ?_ | refine zar ?_ | refine zas ?_))
 ·
  have hlt : k < l.length := by omega
  refine zab (zac rfl (zac rfl (zad (zag (zab (zac rfl (zac rfl (zac rfl (zaf rfl rfl (zaa rfl) (zal rfl ts22 ti3 rfl rfl rfl (zbb xd) rfl) (zbu ta3 rfl ?_))))))))))
  refine za3 rfl rfl (zaa rfl) (zbn rfl rfl rfl) (fun h16 => ?_) (fun h16 => ?_)
  all_goals refine zad (zai ?_)
  all_goals (first | refine za5 rfl ?_ | refine zau rfl ?_)
  all_goals (repeat (first | refine zag ?_ | refine zai ?_ | refine zar ?_ | refine zbl ?_))
  ·
   refine zab (zac rfl (zac rfl (zad (zai ?_))))
   (refine za7 ?_; repeat (first | refine zbc ?_ | refine zbe ?_))
   exact zb6 (.inr rfl) rfl (congrArg eI (firstAt_some (zdh hlt) (decide_eq_true h16.symm) hno).symm)
  ·
   refine zab (zaf rfl rfl (zaa rfl) (zax rfl rfl rfl (IntWalk.i64_in _ xd)) (zac rfl (zad (zai ?_))))
   refine ⟨k + 1, ⟨by omega, fun j hj => ?_⟩, by omega, wk_sub _ ⟨rfl, rfl, rfl, rfl, trivial⟩⟩
   by_cases e : j = k
   ·
    subst e; exact fun h => h16 h.symm
   ·
    exact hall j xd
 ·
  have e : k = l.length := by omega
  subst e
  (refine zb9 ?_; repeat (first | refine zcr ?_ | refine zbt ?_ | refine zbk rfl ?_ | refine zbl ?_ | refine zai ?_ | refine zag ?_ | refine zar ?_ | refine zas ?_))
  refine zab (zac rfl (zad (zai ?_)))
  (refine za7 ?_; repeat (first | refine zbc ?_ | refine zbe ?_))
  exact zb6 (.inr rfl) rfl (congrArg eI (firstAt_none hno).symm)
theorem containsI_pf (l : List Int) (p : Int) : Pure P 64 [eL eI l, eI p] (eB (inB l p)) := by
 have hi := indexI_pf (P := P) l p
 have ha : decide (0 ≤ zc2 (fun x => decide (x = p)) l) = inB l p := firstAt_any _ _
 generalize zc2 (fun x => decide (x = p)) l = k at hi ha
 refine zcl (by rw [IsP.eq (P := P)]; exact Tryz.func64) rfl rfl rfl rfl rfl xa (.s _) (by simp only [argF]; rfl) ?_
 refine zag (zab (zac rfl (zad (zag (zab (zac rfl (zac rfl (zaf rfl rfl (zaa rfl) (zam rfl rfl (hi) (zae rfl (zae rfl zap))) (zaf rfl rfl (zaa rfl) (zcp rfl rfl rfl) (zac rfl (zad (zai ?_))))))))))))
 (refine za7 ?_; repeat (first | refine zbc ?_ | refine zbe ?_))
 exact zb6 (.inr rfl) rfl (congrArg eB ha)
def unitL (n : Nat) (f : Nat → Bool) : List Fr := (List.range n).map fun i => Fr.of (if f i = true then 1 else 0)
theorem unitL_len (n : Nat) (f : Nat → Bool) : (unitL n f).length = n := by simp [unitL]
theorem unitL_gti {n : Nat} {f : Nat → Bool} {k : Nat} (h : k < n) : gti (unitL n f) k = Fr.of (if f k = true then 1 else 0) := by
 have h1 : (unitL n f)[k]? = some (Fr.of (if f k = true then 1 else 0)) := by
  unfold unitL
  rw [List.getElem?_map, List.getElem?_range h]; rfl
 unfold gti
 rw [h1]; rfl
set_option maxHeartbeats 1000000 in
theorem unit_pf (n : Nat) (hn : n ≤ 12) (f : FuncId) (caps : List AV) (p : Nat → Bool) (hlc : Lo 0 (.fn f caps)) (hf : ∀ i, i < n → Pure P f ([eI i] ++ caps) (eB (p i))) : Pure P 62 [eI n, .fn f caps] (eL eF (unitL n p)) := by
 refine zcl (by rw [IsP.eq (P := P)]; exact Tryz.func62) rfl rfl rfl rfl rfl (zah (.s _) (zah hlc zak)) xa (by simp only [argF]; rfl) ?_
 refine zag (zab (zac rfl (zad (zag (zab (zaf rfl rfl (zaa rfl) (does_lit0 rfl rfl ts30 ti45) (zac rfl (zad (zag (zag (zab (zac rfl (zac rfl (zad (zai (zas ?_))))))))))))))))
 refine zbg (wk_own (d := 5) 2 rfl (.inl rfl)) ?_
 refine zb1 (S := Nat) (fun k => [(1, .fn f caps), (8, eI n), (9, eI k), (5, .own 0 2 k)]) (fun k => [.row 2 (((unitL n p).take k).map eF)]) (fun k => k ≤ n) (fun k => n - k) 0 (zb8 [0] xf ⟨⟨_, rfl, .rowE (zaz) rfl⟩, trivial⟩ ⟨.lo _ hlc, .lo _ (.s _), .lo _ (.s _), .own 0 0 2 _ _ rfl rfl, trivial⟩) (Nat.zero_le _) (fun k hk => ?_)
 have hcl := unitL_len n p
 refine zag (zab ?_)
 refine za3 rfl rfl (zaa rfl) (za2 rfl rfl rfl) (fun h10 => ?_) (fun h10 => ?_)
 all_goals refine zad (zag ?_)
 all_goals (first | refine za5 rfl ?_ | refine zau rfl ?_)
 all_goals (repeat (first | refine zag ?_ | refine zar ?_ | refine zas ?_))
 ·
  have hlt : k < n := by omega
  have htk : (((unitL n p).take k).map eF).length = k := by simp; omega
  have hrow : ((unitL n p).take (k + 1)).map eF = ((unitL n p).take k).map eF ++ [eF (Fr.of (if p k = true then 1 else 0))] := by
   rw [zcq xd, List.map_append, unitL_gti hlt]; rfl
  have hp := hf k hlt
  generalize p k = z at hp hrow
  refine zab (zac rfl (zac rfl (zad (zag ?_))))
  cases z with
  | true =>
   refine zab (zac rfl (zac rfl (zaf rfl rfl (zaa rfl) (zam rfl rfl (hp) (zae rfl zap)) (zad (zai (za5 rfl ?_))))))
   rw [if_pos rfl] at hrow
   refine zab (zac rfl (zaf rfl rfl (zaa rfl) (zam rfl rfl ((whole_pf _)) (zae rfl zap)) (zaf rfl rfl (zaa rfl) (zco rfl ts30 ti45 rfl rfl xf xf rfl rfl rfl (.agg _ (zah (.s _) (zah (.s _) zak)))) ?_)))
   refine zaf rfl rfl (zaa rfl) (zbq rfl ts30 ti45 rfl xf rfl rfl xk rfl xe xg xg) ?_
   refine zac rfl (zad (zbl (zai (zab (zaf rfl rfl (zaa rfl) (zax rfl rfl rfl (IntWalk.i64_in _ xd)) (zac rfl (zad (zai ?_))))))))
   exact ⟨k + 1, by omega, by omega, zb8 [1] xf ⟨⟨_, rfl, .rowE xb (Eq.trans (b := ((unitL n p).take k).map eF ++ [eF (Fr.of 1)]) rfl hrow.symm)⟩, trivial⟩ ⟨.lo _ hlc, .lo _ (.s _), .lo _ (.s _), .own 1 0 2 _ _ rfl (by simp; omega), trivial⟩⟩
  | false =>
   refine zab (zac rfl (zac rfl (zaf rfl rfl (zaa rfl) (zam rfl rfl (hp) (zae rfl zap)) (zad (zai (zau rfl ?_))))))
   rw [if_neg xo] at hrow
   refine zab (zac rfl (zaf rfl rfl (zaa rfl) (zam rfl rfl ((whole_pf _)) (zae rfl zap)) (zaf rfl rfl (zaa rfl) (zco rfl ts30 ti45 rfl rfl xf xf rfl rfl rfl (.agg _ (zah (.s _) (zah (.s _) zak)))) ?_)))
   refine zaf rfl rfl (zaa rfl) (zbq rfl ts30 ti45 rfl xf rfl rfl xk rfl xe xg xg) ?_
   refine zac rfl (zad (zbl (zai (zab (zaf rfl rfl (zaa rfl) (zax rfl rfl rfl (IntWalk.i64_in _ xd)) (zac rfl (zad (zai ?_))))))))
   exact ⟨k + 1, by omega, by omega, zb8 [1] xf ⟨⟨_, rfl, .rowE xb (Eq.trans (b := ((unitL n p).take k).map eF ++ [eF (Fr.of 0)]) rfl hrow.symm)⟩, trivial⟩ ⟨.lo _ hlc, .lo _ (.s _), .lo _ (.s _), .own 1 0 2 _ _ rfl (by simp; omega), trivial⟩⟩
 ·
  (refine zb9 ?_; repeat (first | refine zcr ?_ | refine zbt ?_ | refine zbk rfl ?_ | refine zbl ?_ | refine zai ?_ | refine zag ?_ | refine zar ?_ | refine zas ?_))
  refine zab (zac rfl (zac rfl (zad (zai ?_))))
  (refine za7 ?_; repeat (first | refine zbc ?_ | refine zbe ?_))
  have e : (unitL n p).take k = unitL n p := List.take_of_length_le xd
  refine post1f (.inr rfl) rfl ?_
  rw [e]
  exact .own _ _ _ _ _ rfl rfl (by simp; omega)
theorem prog2_pf (l : List Sft) (k i : Nat) (hi : i < l.length) : Pure P 63 [eI i, .ref [eL eSh l], .ref [eI k]] (eB (inB (gti l i).pd k)) := by
 have hc := containsI_pf (P := P) (gti l i).pd k
 refine zcl (by rw [IsP.eq (P := P)]; exact Tryz.func63) rfl rfl rfl rfl rfl xc (.s _) (by simp only [argF]; rfl) ?_
 refine zag (zab (zac rfl (zad (zag ?_))))
 refine zb2 hmix ?_
 refine zc1 ?_
 refine ex_l ta23 rfl (ex_s rfl (zay rfl rfl (zaa rfl) (fun _ => (zal rfl ts23 ti43 rfl rfl rfl (zbb xd) rfl)) (ex_f tf43_0 rfl (ex_l ta22 rfl (ex_l ta3 rfl (zay rfl rfl (zaa rfl) (fun _ => (zam rfl rfl (hc) (zae rfl (zae rfl zap)))) (ex_s rfl ?_)))))))
 refine zcf xi ?_
 refine zai ?_
 (refine za7 ?_; repeat (first | refine zbc ?_ | refine zbe ?_))
 exact zb6 (.inr rfl) rfl rfl
theorem prog3_pf (k i : Nat) : Pure P 65 [eI i, .ref [eI k]] (eB (decide (i = k))) := by
 refine zcl (by rw [IsP.eq (P := P)]; exact Tryz.func65) rfl rfl rfl rfl rfl xc (.s _) (by simp only [argF]; rfl) ?_
 refine zag (zab (zac rfl (zad (zag (zab (zac rfl (zbu ta3 rfl (zaf rfl rfl (zaa rfl) (zbn rfl rfl rfl) (zac rfl (zad (zai ?_)))))))))))
 (refine za7 ?_; repeat (first | refine zbc ?_ | refine zbe ?_))
 exact zb6 (.inr rfl) rfl (congrArg eB (by by_cases h : i = k <;> simp [h]; omega))
theorem prog4_pf (k i : Nat) : Pure P 66 [eI i, .ref [eI k]] (eB (decide (i = k))) := by
 refine zcl (by rw [IsP.eq (P := P)]; exact Tryz.func66) rfl rfl rfl rfl rfl xc (.s _) (by simp only [argF]; rfl) ?_
 refine zag (zab (zac rfl (zad (zag (zab (zac rfl (zbu ta3 rfl (zaf rfl rfl (zaa rfl) (zbn rfl rfl rfl) (zac rfl (zad (zai ?_)))))))))))
 (refine za7 ?_; repeat (first | refine zbc ?_ | refine zbe ?_))
 exact zb6 (.inr rfl) rfl (congrArg eB (by by_cases h : i = k <;> simp [h]; omega))
theorem edraw_ex {N : Nat} {l : List Oper} {F : Frm} {σ : List Ob} {Q : Exit → Frm → List Ob → Prop} (h : EX P N l.toArray l [] l F σ (fun F' σ' => Q .normal F' σ')) : EDraw P N l F σ Q := by
 obtain ⟨F', σ', out, ks, sts, h1, h2, h3⟩ := h
 exact edraw_steps h1 (by simpa using h2) h3
def pgS (a b c d : Nat) (C : List Fr) (A : List (List Fr)) (R : List Int) (B : List Fr) : AV := .agg [.own a 2 (C.map eF).length, .own b 1 (A.map (eL eF)).length, .own c 1 (R.map eI).length, .own d 2 (B.map eF).length]
set_option maxHeartbeats 2000000 in
theorem prog1_call (n : Nat) (hn : n ≤ 12) (l : List Sft) (hl : l.length = n) (C : List Fr) (A : List (List Fr)) (R : List Int) (B : List Fr) (hA : A.length ≤ 60) (hR : R.length ≤ 60) (hB : B.length ≤ 60) (X Y : Ob) (f : FuncId) (caps : List AV) (p : Nat → Bool) (hlc : Lo 0 (.fn f caps)) (hf : ∀ i, i < n → Pure P f ([eI i] ++ caps) (eB (p i))) (rel v : Int) :
  CallE P 61 [.fn f caps, eI rel, eI v, .ptr 0 4 0 0, .ref [eL eSh l]] [.row 4 [pgS 1 2 3 4 C A R B], .row 2 (C.map eF), .row 1 (A.map (eL eF)), .row 1 (R.map eI), .row 2 (B.map eF), X, Y] (.tup [])
   [.row 4 [pgS 1 7 8 9 C (A ++ [unitL n p]) (R ++ [rel]) (B ++ [Fr.of v])], .row 2 (C.map eF), .dead, .dead, .dead, X, Y, .row 1 ((A ++ [unitL n p]).map (eL eF)), .row 1 ((R ++ [rel]).map eI), .row 2 ((B ++ [Fr.of v]).map eF)] := by
 subst hl
 have hu := unit_pf (P := P) l.length hn f caps p hlc hf
 generalize unitL l.length p = u at hu ⊢
 have e1 : (A ++ [u]).map (eL eF) = A.map (eL eF) ++ [eL eF u] := by simp
 have e2 : (R ++ [rel]).map eI = R.map eI ++ [eI rel] := by simp
 have e3 : (B ++ [Fr.of v]).map eF = B.map eF ++ [eF (Fr.of v)] := by simp
 have l1 : (A.map (eL eF) ++ [eL eF u]).length = (A.map (eL eF)).length + 1 := by simp
 have l2 : (R.map eI ++ [eI rel]).length = (R.map eI).length + 1 := by simp
 have l3 : (B.map eF ++ [eF (Fr.of v)]).length = (B.map eF).length + 1 := by simp
 unfold pgS
 rw [e1, e2, e3, l1, l2, l3]
 refine callE_fn (by rw [IsP.eq (P := P)]; exact Tryz.func61) rfl rfl (Nat.le_of_ble_eq_true rfl) ?_
 simp only [argF]
 refine ew_seq ?_
 refine ew_draw hmix ?_
 refine edraw_ex ?_
 refine ex_f tf88_1 rfl (zbv rfl rfl (zaa rfl) (zbr rfl ta86 rfl rfl rfl rfl rfl) (ex_l ta23 rfl (zay rfl rfl (zaa rfl) (fun _ => (zao rfl ts23 rfl)) (ex_s rfl (zay rfl rfl (zaa rfl) (fun _ => (zam rfl rfl (hu) (zae rfl (zae rfl zap)))) ?_)))))
 refine zay rfl rfl (zaa rfl) (fun _ => (lit1_slF rfl ts86 ti30 rfl rfl rfl rfl xa)) ?_
 refine zc9 rfl rfl (zaa rfl) (zbq rfl ts86 ti30 rfl xf rfl rfl xk rfl xe xg xg) (fun _ h => zct h) ?_
 refine ex_f tf88_1 rfl ?_
 refine zci rfl (zaa rfl) (zaj rfl ti86 rfl rfl rfl rfl rfl rfl xf xf) (fun _ h => zbw h) ?_
 refine zcf xi ?_
 refine ew_seq (ew_region (eops_f tf88_2 rfl (eops_op rfl rfl (zaa rfl) (zaq rfl ta22 rfl rfl rfl rfl rfl) (eops_s rfl (eops_op rfl rfl (zaa rfl) (lit1_sF rfl ts22 ti3 rfl rfl rfl rfl) ?_)))))
 refine eops_op rfl rfl (zaa rfl) (zbq rfl ts22 ti3 rfl xf rfl rfl xk rfl xe xg xg) ?_
 refine eops_f tf88_2 rfl (eops_eff rfl (zaa rfl) (zaj rfl ti22 rfl rfl rfl rfl rfl rfl xf xf) (zdj (zai ?_)))
 refine ew_draw hmix ?_
 refine edraw_ex ?_
 refine ex_f tf88_3 rfl (zbv rfl rfl (zaa rfl) (zbr rfl ta30 rfl rfl rfl rfl rfl) (ex_s rfl (zay rfl rfl (zaa rfl) (fun _ => (zam rfl rfl ((whole_pf _)) (zae rfl zap))) (zay rfl rfl (zaa rfl) (fun _ => (zco rfl ts30 ti45 rfl rfl xf xf rfl rfl rfl (.agg _ (zah (.s _) (zah (.s _) zak))))) ?_))))
 refine zc9 rfl rfl (zaa rfl) (zbq rfl ts30 ti45 rfl xf rfl rfl xk rfl xe xg xg) (fun _ h => zct h) ?_
 refine ex_f tf88_3 rfl ?_
 refine zci rfl (zaa rfl) (zaj rfl ti30 rfl rfl rfl rfl rfl rfl xf xf) (fun _ h => zbw h) ?_
 refine zcf xi ?_
 exact ⟨.inl rfl, rfl, _, .nil, rfl⟩
end Go.Proofs.YtllkbjcemecmjaaGreat.Aw
end
section
namespace Go.Proofs.YtllkbjcemecmjaaGreat.Aw
open Go.RowKit Go.Proofs
variable {P : Program} [IsP P]
abbrev Tr := List Fr × Int × Int
def tA (T : List Tr) : List (List Fr) := T.map Prod.fst
def tR (T : List Tr) : List Int := T.map fun t => t.2.1
def tB (T : List Tr) : List Fr := T.map fun t => Fr.of t.2.2
theorem tA_snoc (T : List Tr) (u : List Fr) (r v : Int) : tA (T ++ [(u, r, v)]) = tA T ++ [u] := by simp [tA]
theorem tR_snoc (T : List Tr) (u : List Fr) (r v : Int) : tR (T ++ [(u, r, v)]) = tR T ++ [r] := by simp [tR]
theorem tB_snoc (T : List Tr) (u : List Fr) (r v : Int) : tB (T ++ [(u, r, v)]) = tB T ++ [Fr.of v] := by simp [tB]
def uD (l : List Sft) (k : Nat) : List Fr := unitL l.length fun i => inB (gti l i).pd k
def uK (l : List Sft) (k : Nat) : List Fr := unitL l.length fun i => decide (i = k)
def t1 (d : List Int) (l : List Sft) : Nat → List Tr
 | 0 => []
 | n + 1 => t1 d l n ++ if 0 < gti d n then [(uD l n, 2, gti d n)] else []
def pe1 (d : List Int) : Nat → List Int
 | 0 => []
 | n + 1 => pe1 d n ++ if 0 < gti d n then [(n : Int)] else []
def t2 (d : List Int) (l : List Sft) (lo hi : List Int) : Nat → List Tr
 | 0 => t1 d l d.length
 | n + 1 => (t2 d l lo hi n ++ [(uK l n, 1, gti hi n)]) ++ if 0 < gti lo n then [(uK l n, 2, gti lo n)] else []
theorem t1_len (d : List Int) (l : List Sft) : ∀ n, (t1 d l n).length ≤ n
 | 0 => by simp [t1]
 | n + 1 => by
  have := t1_len d l n
  unfold t1
  split <;> simp <;> omega
theorem t2_len (d : List Int) (l : List Sft) (lo hi : List Int) : ∀ n, (t2 d l lo hi n).length ≤ d.length + 2 * n
 | 0 => by have := t1_len d l d.length; simpa [t2] using this
 | n + 1 => by
  have := t2_len d l lo hi n
  unfold t2
  split <;> simp <;> omega
theorem pe1_len (d : List Int) : ∀ n, (pe1 d n).length ≤ n
 | 0 => by simp [pe1]
 | n + 1 => by
  have := pe1_len d n
  unfold pe1
  split <;> simp <;> omega
def costL (l : List Sft) : List Fr := l.map fun s => Fr.of s.cost
theorem costL_len (l : List Sft) : (costL l).length = l.length := by simp [costL]
theorem costL_gti {l : List Sft} {k : Nat} (h : k < l.length) : gti (costL l) k = Fr.of (gti l k).cost := by
 have h1 : (costL l)[k]? = some (Fr.of (gti l k).cost) := by
  unfold costL
  rw [List.getElem?_map, zdh h]; rfl
 unfold gti at *
 rw [h1]; rfl
def prgE (d : List Int) (l : List Sft) (lo hi : List Int) : LP := ⟨costL l, tA (t2 d l lo hi l.length), tR (t2 d l lo hi l.length), tB (t2 d l lo hi l.length)⟩
theorem post_cs {N : Nat} {F : Frm} {σ : List Ob} {ad u : Nat} {ty : TypeId} {id sz k n bt : Nat} {z : Option Value} {ob : Ob} {cs : List AV} {e1 r1 y r2 : AV} {e : Exit} (he : e = .normal ∨ e = .ret) (ha : zc8 P ty = some true) (hi : zb5 P ty = some (z, n, bt)) (hp : F.get ad = .ptr id sz k 0) (hs : σ[id]? = some ob) (ho : rowOf ob = some (sz, cs)) (hk : cs[k]? = some e1) (hn : e1.cells.length = n) (hu : F.get u = y) (hr1 : Fini σ (.agg e1.cells) r1) (hr2 : Fini σ y r2) : APost P [.cell ad ty, .tmp u] (.tup [r1, r2]) e F σ :=
 ⟨he, [.agg e1.cells, y], .cons _ _ _ _ (.cells ad ty id sz k n bt z ob cs e1 ha hi hp hs ho hk hn) (.cons _ _ _ _ (.tmp u y hu) .nil), .tup _ _ rfl (zbd.cons hr1 (zbd.cons hr2 zbd.nil)).2⟩
def zP : AV := .agg [.s (.slice none 0 0), .s (.slice none 0 0), .s (.slice none 0 0), .s (.slice none 0 0)]
theorem zP_lo : ∀ e ∈ [zP], ∀ c ∈ e.cells, Lo 0 c := by
 intro e he c hc
 simp at he; subst he
 simp [zP, AV.cells] at hc; subst hc; exact .s _
def stP (C : List Fr) (T : List Tr) (pe : List Int) : List Ob := [.row 4 [pgS 1 2 3 4 C (tA T) (tR T) (tB T)], .row 2 (C.map eF), .row 1 ((tA T).map (eL eF)), .row 1 ((tR T).map eI), .row 2 ((tB T).map eF), .row 4 [zP], .row 1 (pe.map eI)]
def stQ (C : List Fr) (T : List Tr) (pe : List Int) : List Ob := [.row 4 [pgS 1 7 8 9 C (tA T) (tR T) (tB T)], .row 2 (C.map eF), .dead, .dead, .dead, .row 4 [zP], .row 1 (pe.map eI), .row 1 ((tA T).map (eL eF)), .row 1 ((tR T).map eI), .row 2 ((tB T).map eF)]
theorem prog1T (l : List Sft) (hl : l.length ≤ 12) (C : List Fr) (T : List Tr) (hT : T.length ≤ 60) (pe : List Int) (f : FuncId) (caps : List AV) (p : Nat → Bool) (hlc : Lo 0 (.fn f caps)) (hf : ∀ i, i < l.length → Pure P f ([eI i] ++ caps) (eB (p i))) (rel v : Int) :
  CallE P 61 [.fn f caps, eI rel, eI v, .ptr 0 4 0 0, .ref [eL eSh l]] (stP C T pe) (.tup []) (stQ C (T ++ [(unitL l.length p, rel, v)]) pe) := by
 have h := prog1_call (P := P) l.length hl l rfl C (tA T) (tR T) (tB T) (by simpa [tA] using hT) (by simpa [tR] using hT) (by simpa [tB] using hT) (.row 4 [zP]) (.row 1 (pe.map eI)) f caps p hlc hf rel v
 unfold stQ stP
 rw [tA_snoc, tR_snoc, tB_snoc]
 exact h
set_option maxHeartbeats 8000000 in
theorem program_pf (d : List Int) (l : List Sft) (lo hi : List Int) (hv : zce d l = true) (hlo : lo.length = l.length) (hhi : hi.length = l.length) : Pure P 47 [eL eI d, eL eSh l, eBx lo hi] (.tup [eP (prgE d l lo hi), eL eI (pe1 d d.length)]) := by
 obtain ⟨⟨q1, q2, q3⟩, qd, ql⟩ := zb4 hv
 have hlL : Lo 0 (.ref [eL eSh l]) := xc
 refine zcl (by rw [IsP.eq (P := P)]; exact Tryz.func47) rfl rfl rfl rfl rfl xa xc (by simp only [argF]; rfl) ?_
 refine zag (zab (zaf rfl rfl (zaa rfl) (zb3 rfl rfl rfl rfl) ?_))
 refine za6 (zbm (id := 0) rfl) (za6 (zcb (d := 4) rfl rfl rfl) ?_)
 refine zaf rfl rfl (zaa rfl) (zb3 rfl rfl rfl rfl) ?_
 refine za6 (zbm (id := 1) rfl) (za6 (zcb (d := 5) rfl rfl rfl) ?_)
 refine zaf rfl rfl (zaa rfl) (za1 rfl ti88 rfl rfl) (zac rfl (zad (zag (zab (zaf rfl rfl (zaa rfl) (za1 rfl ti88 rfl rfl) (zad (zag (zab (zac rfl (zad (zag (zag (zab (zbu ta23 rfl (zaf rfl rfl (zaa rfl) (zao rfl ts23 rfl) (zac rfl (zad (zai (zas ?_)))))))))))))))))))
 refine zbg (wk_ownC (id := 3) (sz2 := 2) (e' := .agg [.own 4 2 0, .s (.slice none 0 0), .s (.slice none 0 0), .s (.slice none 0 0)]) (pre := []) (post := [.s (.slice none 0 0), .s (.slice none 0 0), .s (.slice none 0 0)]) rfl rfl rfl) ?_
 refine zbg (wk_ownC (id := 3) (sz2 := 1) (e' := .agg [.own 4 2 0, .own 5 1 0, .s (.slice none 0 0), .s (.slice none 0 0)]) (pre := [.own 4 2 0]) (post := [.s (.slice none 0 0), .s (.slice none 0 0)]) rfl rfl rfl) ?_
 refine zbg (wk_ownC (id := 3) (sz2 := 1) (e' := .agg [.own 4 2 0, .own 5 1 0, .own 6 1 0, .s (.slice none 0 0)]) (pre := [.own 4 2 0, .own 5 1 0]) (post := [.s (.slice none 0 0)]) rfl rfl rfl) ?_
 refine zbg (wk_ownC (id := 3) (sz2 := 2) (e' := .agg [.own 4 2 0, .own 5 1 0, .own 6 1 0, .own 7 2 0]) (pre := [.own 4 2 0, .own 5 1 0, .own 6 1 0]) (post := []) rfl rfl rfl) ?_
 refine zbg (wk_own (d := 9) 1 rfl (.inr rfl)) ?_
 refine zb1 (S := Nat) (fun k => [(0, eL eI d), (4, .ref [eL eSh l]), (5, .ref (eBx lo hi).cells), (6, .ptr 5 4 0 0), (8, .ptr 0 4 0 0), (9, .own 6 1 0), (16, eL eSh l), (17, eI l.length), (18, eI k)]) (fun k => stP ((costL l).take k) [] []) (fun k => k ≤ l.length) (fun k => l.length - k) 0
  (zb8 [3, 4, 5, 6, 7, 2, 8] xf ⟨⟨_, rfl, zc5 (.cons (.own _ _ _ _ _ rfl rfl) (.cons (.own _ _ _ _ _ rfl rfl) (.cons (.own _ _ _ _ _ rfl rfl) (.cons (.own _ _ _ _ _ rfl rfl) .nil))))⟩, ⟨_, rfl, .rowE (zaz) rfl⟩, ⟨_, rfl, .rowE (zaz) rfl⟩, ⟨_, rfl, .rowE (zaz) rfl⟩, ⟨_, rfl, .rowE (zaz) rfl⟩, ⟨_, rfl, .rowE zP_lo rfl⟩, ⟨_, rfl, .rowE (zaz) rfl⟩, trivial⟩ ⟨.lo _ (zan fun _ => .s _), .lo _ hlL, .lo _ xc, .ptr 2 5 4 0 0 rfl, .ptr 3 0 4 0 0 rfl, .own 8 6 1 _ _ rfl rfl, .lo _ xa, .lo _ (.s _), .lo _ (.s _), trivial⟩) (Nat.zero_le _) (fun k hk => ?_)
 have hcl := costL_len l
 refine zag (zab ?_)
 refine za3 rfl rfl (zaa rfl) (za2 rfl rfl rfl) (fun h19 => ?_) (fun h19 => ?_)
 all_goals refine zad (zag ?_)
 all_goals (first | refine za5 rfl ?_ | refine zau rfl ?_)
 all_goals (repeat (first | refine zag ?_ | refine zar ?_ | refine zas ?_))
 ·
  have hlt : k < l.length := by omega
  have htk : (((costL l).take k).map eF).length = k := by simp; omega
  have hrow : ((costL l).take (k + 1)).map eF = ((costL l).take k).map eF ++ [eF (Fr.of (gti l k).cost)] := by
   rw [zcq xd, List.map_append, costL_gti hlt]; rfl
  have hrl : (((costL l).take (k + 1)).map eF).length = (((costL l).take k).map eF).length + 1 := by rw [hrow]; simp
  refine zab (zaf rfl rfl (zaa rfl) (zal rfl ts23 ti43 rfl rfl rfl (zbb xd) rfl) (zcx ta43 ti43 rfl (zaf rfl rfl (zaa rfl) (za1 rfl ti43 rfl rfl) (zba rfl (zaa rfl) (zaj rfl ti43 rfl rfl rfl rfl rfl rfl xf xf) (zad (zai ?_))))))
  refine zbg (zbm (id := 7) rfl) ?_
  refine zbg (zcb (d := 11) rfl rfl rfl) ?_
  refine zb2 hmix ?_
  refine zc1 ?_
  refine ex_f tf88_0 rfl (zbv rfl rfl (zaa rfl) (zbr rfl ta30 rfl rfl rfl rfl rfl) (ex_f tf43_1 rfl (ex_l ta3 rfl (zay rfl rfl (zaa rfl) (fun _ => (zam rfl rfl ((whole_pf _)) (zae rfl zap))) (zay rfl rfl (zaa rfl) (fun _ => (zco rfl ts30 ti45 rfl rfl xf xf rfl rfl rfl (.agg _ (zah (.s _) (zah (.s _) zak))))) ?_)))))
  refine zc9 rfl rfl (zaa rfl) (zbq rfl ts30 ti45 rfl xf rfl rfl xk rfl xe xg xg) (fun _ h => zct h) ?_
  refine ex_f tf88_0 rfl ?_
  refine zci rfl (zaa rfl) (zaj rfl ti30 rfl rfl rfl rfl rfl rfl xf xf) (fun _ h => zbw h) ?_
  refine zcf xi ?_
  refine zbl (zai (zab (zaf rfl rfl (zaa rfl) (zax rfl rfl rfl (IntWalk.i64_in _ xd)) (zac rfl (zad (zai ?_))))))
  exact ⟨k + 1, by omega, by omega, zb8 [0, 8, 2, 3, 4, 5, 6] xf ⟨⟨_, rfl, zc5 (.cons (.own _ _ _ _ _ rfl hrl.symm) (.cons (.own _ _ _ _ _ rfl rfl) (.cons (.own _ _ _ _ _ rfl rfl) (.cons (.own _ _ _ _ _ rfl rfl) .nil))))⟩, ⟨_, rfl, .rowE xb (Eq.trans (b := ((costL l).take k).map eF ++ [eF (Fr.of (gti l k).cost)]) rfl hrow.symm)⟩, ⟨_, rfl, .rowE (zaz) rfl⟩, ⟨_, rfl, .rowE (zaz) rfl⟩, ⟨_, rfl, .rowE (zaz) rfl⟩, ⟨_, rfl, .rowE zP_lo rfl⟩, ⟨_, rfl, .rowE (zaz) rfl⟩, trivial⟩ ⟨.lo _ (zan fun _ => .s _), .lo _ hlL, .lo _ xc, .ptr 5 5 4 0 0 rfl, .ptr 0 0 4 0 0 rfl, .own 6 6 1 _ _ rfl rfl, .lo _ xa, .lo _ (.s _), .lo _ (.s _), trivial⟩⟩
 (refine zb9 ?_; repeat (first | refine zcr ?_ | refine zbt ?_ | refine zbk rfl ?_ | refine zbl ?_ | refine zai ?_ | refine zag ?_ | refine zar ?_ | refine zas ?_))
 have e : (costL l).take k = costL l := List.take_of_length_le xd
 rw [e]
 refine zab (zaf rfl rfl (zaa rfl) (does_func rfl rfl) (zac rfl (zad (zag (zag (zab (zac rfl (zaf rfl rfl (zaa rfl) (zao rfl ts22 rfl) (zac rfl (zad (zai (zas ?_))))))))))))
 refine zb1 (S := Nat) (fun n => [(4, .ref [eL eSh l]), (5, .ref (eBx lo hi).cells), (6, .ptr 5 4 0 0), (8, .ptr 0 4 0 0), (9, .own 6 1 (pe1 d n).length), (12, .fn 61 [.ptr 0 4 0 0, .ref [eL eSh l]]), (32, eL eI d), (33, eI d.length), (34, eI n)]) (fun n => stP (costL l) (t1 d l n) (pe1 d n)) (fun n => n ≤ d.length) (fun n => d.length - n) 0
  (zb8 [0, 1, 2, 3, 4, 5, 6] xf ⟨⟨_, rfl, zc5 (.cons (.own _ _ _ _ _ rfl rfl) (.cons (.own _ _ _ _ _ rfl rfl) (.cons (.own _ _ _ _ _ rfl rfl) (.cons (.own _ _ _ _ _ rfl rfl) .nil))))⟩, ⟨_, rfl, .rowE xb rfl⟩, ⟨_, rfl, .rowE (zaz) rfl⟩, ⟨_, rfl, .rowE (zaz) rfl⟩, ⟨_, rfl, .rowE (zaz) rfl⟩, ⟨_, rfl, .rowE zP_lo rfl⟩, ⟨_, rfl, .rowE (zaz) rfl⟩, trivial⟩ ⟨.lo _ hlL, .lo _ xc, .ptr 5 5 4 0 0 rfl, .ptr 0 0 4 0 0 rfl, .own 6 6 1 _ _ rfl rfl, .fn _ _ _ rfl (RnL.cons (.ptr 0 0 4 0 0 rfl) (RnL.cons (.lo _ hlL) RnL.nil)).2, .lo _ (zan fun _ => .s _), .lo _ (.s _), .lo _ (.s _), trivial⟩) (Nat.zero_le _) (fun n hn => ?_)
 have hpl := pe1_len d n
 have htl := t1_len d l n
 refine zag (zab ?_)
 refine za3 rfl rfl (zaa rfl) (za2 rfl rfl rfl) (fun h35 => ?_) (fun h35 => ?_)
 all_goals refine zad (zag ?_)
 all_goals (first | refine za5 rfl ?_ | refine zau rfl ?_)
 all_goals (repeat (first | refine zag ?_ | refine zar ?_ | refine zas ?_))
 ·
  have hlt : n < d.length := by omega
  have hT : t1 d l (n + 1) = t1 d l n ++ if 0 < gti d n then [(uD l n, 2, gti d n)] else [] := rfl
  have hp : pe1 d (n + 1) = pe1 d n ++ if 0 < gti d n then [(n : Int)] else [] := rfl
  refine zab (zac rfl (zaf rfl rfl (zaa rfl) (zal rfl ts22 ti3 rfl rfl rfl (zbb xd) rfl) (zbu ta3 rfl (zaf rfl rfl (zaa rfl) (za1 rfl ti3 rfl rfl) (zba rfl (zaa rfl) (zaj rfl ti3 rfl rfl rfl rfl rfl rfl xf xf) (zac rfl (zad (zag (zab (zac rfl ?_))))))))))
  refine za3 rfl rfl (zaa rfl) (zb0 rfl rfl rfl) (fun h40 => ?_) (fun h40 => ?_)
  all_goals refine zad (zai ?_)
  all_goals (first | refine za5 rfl ?_ | refine zau rfl ?_)
  all_goals (repeat (first | refine zag ?_ | refine zai ?_ | refine zar ?_ | refine zbl ?_))
  ·
   rw [if_pos h40] at hT hp
   have hpr : (pe1 d (n + 1)).map eI = (pe1 d n).map eI ++ [eI n] := by rw [hp]; simp
   have hpn : (pe1 d (n + 1)).length = (pe1 d n).length + 1 := by rw [hp]; simp
   have hml : ((pe1 d n).map eI).length = (pe1 d n).length := by simp
   refine zab (zac rfl (zaf rfl rfl (zaa rfl) (zaq rfl ta3 rfl rfl rfl rfl rfl) (zaf rfl rfl (zaa rfl) (lit1_sF rfl ts22 ti3 rfl rfl rfl rfl) ?_)))
   refine zaf rfl rfl (zaa rfl) (zbq rfl ts22 ti3 rfl xf rfl rfl xk rfl xe xg xg) ?_
   refine zac rfl (zad (zai ?_))
   refine zbg (zbm (id := 7) rfl) ?_
   refine zbg (zcb (d := 13) rfl rfl rfl) ?_
   refine zbg (F' := [(4, .ref [eL eSh l]), (5, .ref (eBx lo hi).cells), (6, .ptr 5 4 0 0), (8, .ptr 0 4 0 0), (9, .own 6 1 (pe1 d (n + 1)).length), (12, .fn 61 [.ptr 0 4 0 0, .ref [eL eSh l]]), (13, .ref [eI n]), (14, eI (gti d n)), (32, eL eI d), (33, eI d.length), (34, eI n)]) (σ' := stP (costL l) (t1 d l n) (pe1 d (n + 1))) (zb8 [0, 1, 2, 3, 4, 5, 8] xf ⟨⟨_, rfl, zc5 (.cons (.own _ _ _ _ _ rfl rfl) (.cons (.own _ _ _ _ _ rfl rfl) (.cons (.own _ _ _ _ _ rfl rfl) (.cons (.own _ _ _ _ _ rfl rfl) .nil))))⟩, ⟨_, rfl, .rowE xb rfl⟩, ⟨_, rfl, .rowE xj rfl⟩, ⟨_, rfl, .rowE (zav fun _ => (Lo.s _).cells) rfl⟩, ⟨_, rfl, .rowE xb rfl⟩, ⟨_, rfl, .rowE zP_lo rfl⟩, ⟨_, rfl, .rowE (zav fun _ => (Lo.s _).cells) (Eq.trans (b := (pe1 d n).map eI ++ [eI n]) rfl hpr.symm)⟩, trivial⟩ ⟨.lo _ hlL, .lo _ xc, .ptr 5 5 4 0 0 rfl, .ptr 0 0 4 0 0 rfl, .own 8 6 1 _ _ rfl (by rw [hpn]; simp), .fn _ _ _ rfl (RnL.cons (.ptr 0 0 4 0 0 rfl) (RnL.cons (.lo _ hlL) RnL.nil)).2, .lo _ (.ref _ (zah (.s _) zak)), .lo _ (.s _), .lo _ (zan fun _ => .s _), .lo _ (.s _), .lo _ (.s _), trivial⟩) ?_
   have hcall := prog1T (P := P) l q3 (costL l) (t1 d l n) xd (pe1 d (n + 1)) 63 [.ref [eL eSh l], .ref [eI n]] (fun i => inB (gti l i).pd n) xc (fun i hi => prog2_pf l n i hi) 2 (gti d n)
   rw [show t1 d l n ++ [(unitL l.length (fun i => inB (gti l i).pd n), 2, gti d n)] = t1 d l (n + 1) from hT.symm] at hcall
   refine zab (zac rfl (zaf rfl rfl (zaa rfl) (does_func rfl rfl) (zac rfl (zaf rfl rfl (zaa rfl) (zbs rfl rfl hcall rfl) (zad (zbl (zai (zab (zaf rfl rfl (zaa rfl) (zax rfl rfl rfl (IntWalk.i64_in _ xd)) (zac rfl (zad (zai ?_))))))))))))
   exact ⟨n + 1, by omega, by omega, zb8 [0, 1, 7, 8, 9, 5, 6] xf ⟨⟨_, rfl, zc5 (.cons (.own _ _ _ _ _ rfl rfl) (.cons (.own _ _ _ _ _ rfl rfl) (.cons (.own _ _ _ _ _ rfl rfl) (.cons (.own _ _ _ _ _ rfl rfl) .nil))))⟩, ⟨_, rfl, .rowE xb rfl⟩, ⟨_, rfl, .rowE xj rfl⟩, ⟨_, rfl, .rowE (zav fun _ => (Lo.s _).cells) rfl⟩, ⟨_, rfl, .rowE xb rfl⟩, ⟨_, rfl, .rowE zP_lo rfl⟩, ⟨_, rfl, .rowE (zav fun _ => (Lo.s _).cells) rfl⟩, trivial⟩ ⟨.lo _ hlL, .lo _ xc, .ptr 5 5 4 0 0 rfl, .ptr 0 0 4 0 0 rfl, .own 6 6 1 _ _ rfl rfl, .fn _ _ _ rfl (RnL.cons (.ptr 0 0 4 0 0 rfl) (RnL.cons (.lo _ hlL) RnL.nil)).2, .lo _ (zan fun _ => .s _), .lo _ (.s _), .lo _ (.s _), trivial⟩⟩
  ·
   rw [if_neg h40, List.append_nil] at hT hp
   refine zab (zaf rfl rfl (zaa rfl) (zax rfl rfl rfl (IntWalk.i64_in _ xd)) (zac rfl (zad (zai ?_))))
   rw [← hT, ← hp]
   exact ⟨n + 1, by omega, by omega, zb8 [0, 1, 2, 3, 4, 5, 6] xf ⟨⟨_, rfl, zc5 (.cons (.own _ _ _ _ _ rfl rfl) (.cons (.own _ _ _ _ _ rfl rfl) (.cons (.own _ _ _ _ _ rfl rfl) (.cons (.own _ _ _ _ _ rfl rfl) .nil))))⟩, ⟨_, rfl, .rowE xb rfl⟩, ⟨_, rfl, .rowE xj rfl⟩, ⟨_, rfl, .rowE (zav fun _ => (Lo.s _).cells) rfl⟩, ⟨_, rfl, .rowE xb rfl⟩, ⟨_, rfl, .rowE zP_lo rfl⟩, ⟨_, rfl, .rowE (zav fun _ => (Lo.s _).cells) rfl⟩, trivial⟩ ⟨.lo _ hlL, .lo _ xc, .ptr 5 5 4 0 0 rfl, .ptr 0 0 4 0 0 rfl, .own 6 6 1 _ _ rfl rfl, .fn _ _ _ rfl (RnL.cons (.ptr 0 0 4 0 0 rfl) (RnL.cons (.lo _ hlL) RnL.nil)).2, .lo _ (zan fun _ => .s _), .lo _ (.s _), .lo _ (.s _), trivial⟩⟩
 have e : n = d.length := by omega
 subst e
 (refine zb9 ?_; repeat (first | refine zcr ?_ | refine zbt ?_ | refine zbk rfl ?_ | refine zbl ?_ | refine zai ?_ | refine zag ?_ | refine zar ?_ | refine zas ?_))
 refine zab (zbu ta23 rfl (zaf rfl rfl (zaa rfl) (zao rfl ts23 rfl) (zac rfl (zad (zai (zas ?_))))))
 refine zb1 (S := Nat) (fun k => [(5, .ref (eBx lo hi).cells), (6, .ptr 5 4 0 0), (8, .ptr 0 4 0 0), (9, .own 6 1 (pe1 d d.length).length), (12, .fn 61 [.ptr 0 4 0 0, .ref [eL eSh l]]), (50, eL eSh l), (51, eI l.length), (52, eI k)]) (fun k => stP (costL l) (t2 d l lo hi k) (pe1 d d.length)) (fun k => k ≤ l.length) (fun k => l.length - k) 0
  (zb8 [0, 1, 2, 3, 4, 5, 6] xf ⟨⟨_, rfl, zc5 (.cons (.own _ _ _ _ _ rfl rfl) (.cons (.own _ _ _ _ _ rfl rfl) (.cons (.own _ _ _ _ _ rfl rfl) (.cons (.own _ _ _ _ _ rfl rfl) .nil))))⟩, ⟨_, rfl, .rowE xb rfl⟩, ⟨_, rfl, .rowE xj rfl⟩, ⟨_, rfl, .rowE (zav fun _ => (Lo.s _).cells) rfl⟩, ⟨_, rfl, .rowE xb rfl⟩, ⟨_, rfl, .rowE zP_lo rfl⟩, ⟨_, rfl, .rowE (zav fun _ => (Lo.s _).cells) rfl⟩, trivial⟩ ⟨.lo _ xc, .ptr 5 5 4 0 0 rfl, .ptr 0 0 4 0 0 rfl, .own 6 6 1 _ _ rfl rfl, .fn _ _ _ rfl (RnL.cons (.ptr 0 0 4 0 0 rfl) (RnL.cons (.lo _ hlL) RnL.nil)).2, .lo _ xa, .lo _ (.s _), .lo _ (.s _), trivial⟩) (Nat.zero_le _) (fun k hk => ?_)
 have htl := t2_len d l lo hi k
 refine zag (zab ?_)
 refine za3 rfl rfl (zaa rfl) (za2 rfl rfl rfl) (fun h53 => ?_) (fun h53 => ?_)
 all_goals refine zad (zag ?_)
 all_goals (first | refine za5 rfl ?_ | refine zau rfl ?_)
 all_goals (repeat (first | refine zag ?_ | refine zar ?_ | refine zas ?_))
 ·
  have hlt : k < l.length := by omega
  have hT : t2 d l lo hi (k + 1) = (t2 d l lo hi k ++ [(uK l k, 1, gti hi k)]) ++ if 0 < gti lo k then [(uK l k, 2, gti lo k)] else [] := rfl
  refine zab (zac rfl (zaf rfl rfl (zaa rfl) (za1 rfl ti3 rfl rfl) (zba rfl (zaa rfl) (zaj rfl ti3 rfl rfl rfl rfl rfl rfl xf xf) (zad (zag ?_)))))
  refine zbg (zbm (id := 7) rfl) ?_
  refine zbg (zcb (d := 15) rfl rfl rfl) ?_
  refine zbg (F' := [(5, .ref (eBx lo hi).cells), (6, .ptr 5 4 0 0), (8, .ptr 0 4 0 0), (9, .own 6 1 (pe1 d d.length).length), (12, .fn 61 [.ptr 0 4 0 0, .ref [eL eSh l]]), (15, .ref [eI k]), (50, eL eSh l), (51, eI l.length), (52, eI k)]) (σ' := stP (costL l) (t2 d l lo hi k) (pe1 d d.length)) (zb8 [0, 1, 2, 3, 4, 5, 6] xf ⟨⟨_, rfl, zc5 (.cons (.own _ _ _ _ _ rfl rfl) (.cons (.own _ _ _ _ _ rfl rfl) (.cons (.own _ _ _ _ _ rfl rfl) (.cons (.own _ _ _ _ _ rfl rfl) .nil))))⟩, ⟨_, rfl, .rowE xb rfl⟩, ⟨_, rfl, .rowE xj rfl⟩, ⟨_, rfl, .rowE (zav fun _ => (Lo.s _).cells) rfl⟩, ⟨_, rfl, .rowE xb rfl⟩, ⟨_, rfl, .rowE zP_lo rfl⟩, ⟨_, rfl, .rowE (zav fun _ => (Lo.s _).cells) rfl⟩, trivial⟩ ⟨.lo _ xc, .ptr 5 5 4 0 0 rfl, .ptr 0 0 4 0 0 rfl, .own 6 6 1 _ _ rfl rfl, .fn _ _ _ rfl (RnL.cons (.ptr 0 0 4 0 0 rfl) (RnL.cons (.lo _ hlL) RnL.nil)).2, .lo _ (.ref _ (zah (.s _) zak)), .lo _ xa, .lo _ (.s _), .lo _ (.s _), trivial⟩) ?_
  have hcall := prog1T (P := P) l q3 (costL l) (t2 d l lo hi k) xd (pe1 d d.length) 65 [.ref [eI k]] (fun i => decide (i = k)) xc (fun i hi => prog3_pf k i) 1 (gti hi k)
  refine zab (zac rfl (zaf rfl rfl (zaa rfl) (does_func rfl rfl) (zbz tf60_1 rfl (zbu ta22 rfl (zbu ta3 rfl (zaf rfl rfl (zaa rfl) (zal rfl ts22 ti3 rfl rfl rfl (zbb xd) rfl) (zbu ta3 rfl (zaf rfl rfl (zaa rfl) (zbs rfl rfl hcall rfl) (zad (zag ?_))))))))))
  obtain ⟨T1, hT1⟩ : ∃ T1, T1 = t2 d l lo hi k ++ [(unitL l.length (fun i => decide (i = k)), 1, gti hi k)] := ⟨_, rfl⟩
  rw [← hT1]
  have hT1l : T1.length = (t2 d l lo hi k).length + 1 := by rw [hT1]; simp
  replace hT : t2 d l lo hi (k + 1) = T1 ++ if 0 < gti lo k then [(uK l k, 2, gti lo k)] else [] := by rw [hT, hT1]; rfl
  clear hT1 hcall
  refine zbg (F' := [(5, .ref (eBx lo hi).cells), (6, .ptr 5 4 0 0), (8, .ptr 0 4 0 0), (9, .own 6 1 (pe1 d d.length).length), (12, .fn 61 [.ptr 0 4 0 0, .ref [eL eSh l]]), (15, .ref [eI k]), (50, eL eSh l), (51, eI l.length), (52, eI k)]) (σ' := stP (costL l) T1 (pe1 d d.length)) (zb8 [0, 1, 7, 8, 9, 5, 6] xf ⟨⟨_, rfl, zc5 (.cons (.own _ _ _ _ _ rfl rfl) (.cons (.own _ _ _ _ _ rfl rfl) (.cons (.own _ _ _ _ _ rfl rfl) (.cons (.own _ _ _ _ _ rfl rfl) .nil))))⟩, ⟨_, rfl, .rowE xb rfl⟩, ⟨_, rfl, .rowE xj rfl⟩, ⟨_, rfl, .rowE (zav fun _ => (Lo.s _).cells) rfl⟩, ⟨_, rfl, .rowE xb rfl⟩, ⟨_, rfl, .rowE zP_lo rfl⟩, ⟨_, rfl, .rowE (zav fun _ => (Lo.s _).cells) rfl⟩, trivial⟩ ⟨.lo _ xc, .ptr 5 5 4 0 0 rfl, .ptr 0 0 4 0 0 rfl, .own 6 6 1 _ _ rfl rfl, .fn _ _ _ rfl (RnL.cons (.ptr 0 0 4 0 0 rfl) (RnL.cons (.lo _ hlL) RnL.nil)).2, .lo _ (.ref _ (zah (.s _) zak)), .lo _ xa, .lo _ (.s _), .lo _ (.s _), trivial⟩) ?_
  refine zab (zbz tf60_0 rfl (zbu ta22 rfl (zbu ta3 rfl (zaf rfl rfl (zaa rfl) (zal rfl ts22 ti3 rfl rfl rfl (zbb xd) rfl) (zbu ta3 rfl ?_)))))
  refine za3 rfl rfl (zaa rfl) (zb0 rfl rfl rfl) (fun h68 => ?_) (fun h68 => ?_)
  all_goals refine zad (zai ?_)
  all_goals (first | refine za5 rfl ?_ | refine zau rfl ?_)
  all_goals (repeat (first | refine zai ?_ | refine zar ?_ | refine zbl ?_))
  ·
   rw [if_pos h68] at hT
   have hcall := prog1T (P := P) l q3 (costL l) T1 xd (pe1 d d.length) 66 [.ref [eI k]] (fun i => decide (i = k)) xc (fun i hi => prog4_pf k i) 2 (gti lo k)
   rw [show T1 ++ [(unitL l.length (fun i => decide (i = k)), 2, gti lo k)] = t2 d l lo hi (k + 1) from hT.symm] at hcall
   refine zab (zac rfl (zaf rfl rfl (zaa rfl) (does_func rfl rfl) (zbz tf60_0 rfl (zbu ta22 rfl (zbu ta3 rfl (zaf rfl rfl (zaa rfl) (zal rfl ts22 ti3 rfl rfl rfl (zbb xd) rfl) (zbu ta3 rfl (zaf rfl rfl (zaa rfl) (zbs rfl rfl hcall rfl) (zad (zbl (zai (zab (zaf rfl rfl (zaa rfl) (zax rfl rfl rfl (IntWalk.i64_in _ xd)) (zac rfl (zad (zai ?_))))))))))))))))
   exact ⟨k + 1, by omega, by omega, zb8 [0, 1, 7, 8, 9, 5, 6] xf ⟨⟨_, rfl, zc5 (.cons (.own _ _ _ _ _ rfl rfl) (.cons (.own _ _ _ _ _ rfl rfl) (.cons (.own _ _ _ _ _ rfl rfl) (.cons (.own _ _ _ _ _ rfl rfl) .nil))))⟩, ⟨_, rfl, .rowE xb rfl⟩, ⟨_, rfl, .rowE xj rfl⟩, ⟨_, rfl, .rowE (zav fun _ => (Lo.s _).cells) rfl⟩, ⟨_, rfl, .rowE xb rfl⟩, ⟨_, rfl, .rowE zP_lo rfl⟩, ⟨_, rfl, .rowE (zav fun _ => (Lo.s _).cells) rfl⟩, trivial⟩ ⟨.lo _ xc, .ptr 5 5 4 0 0 rfl, .ptr 0 0 4 0 0 rfl, .own 6 6 1 _ _ rfl rfl, .fn _ _ _ rfl (RnL.cons (.ptr 0 0 4 0 0 rfl) (RnL.cons (.lo _ hlL) RnL.nil)).2, .lo _ xa, .lo _ (.s _), .lo _ (.s _), trivial⟩⟩
  ·
   rw [if_neg h68, List.append_nil] at hT
   subst hT
   refine zab (zaf rfl rfl (zaa rfl) (zax rfl rfl rfl (IntWalk.i64_in _ xd)) (zac rfl (zad (zai ?_))))
   exact ⟨k + 1, by omega, by omega, zb8 [0, 1, 2, 3, 4, 5, 6] xf ⟨⟨_, rfl, zc5 (.cons (.own _ _ _ _ _ rfl rfl) (.cons (.own _ _ _ _ _ rfl rfl) (.cons (.own _ _ _ _ _ rfl rfl) (.cons (.own _ _ _ _ _ rfl rfl) .nil))))⟩, ⟨_, rfl, .rowE xb rfl⟩, ⟨_, rfl, .rowE xj rfl⟩, ⟨_, rfl, .rowE (zav fun _ => (Lo.s _).cells) rfl⟩, ⟨_, rfl, .rowE xb rfl⟩, ⟨_, rfl, .rowE zP_lo rfl⟩, ⟨_, rfl, .rowE (zav fun _ => (Lo.s _).cells) rfl⟩, trivial⟩ ⟨.lo _ xc, .ptr 5 5 4 0 0 rfl, .ptr 0 0 4 0 0 rfl, .own 6 6 1 _ _ rfl rfl, .fn _ _ _ rfl (RnL.cons (.ptr 0 0 4 0 0 rfl) (RnL.cons (.lo _ hlL) RnL.nil)).2, .lo _ xa, .lo _ (.s _), .lo _ (.s _), trivial⟩⟩
 ·
  have e : k = l.length := by omega
  subst e
  (refine zb9 ?_; repeat (first | refine zcr ?_ | refine zbt ?_ | refine zbk rfl ?_ | refine zbl ?_ | refine zai ?_ | refine zag ?_ | refine zar ?_ | refine zas ?_))
  refine zab (zaf rfl rfl (zaa rfl) (za8 rfl ta88 ti88 rfl rfl rfl rfl rfl) (zac rfl (zba rfl (zaa rfl) (zaj rfl ti88 rfl rfl rfl rfl rfl rfl xf xf) (zac rfl (zad (zai ?_))))))
  (refine za7 ?_; repeat (first | refine zbc ?_ | refine zbe ?_))
  refine post_cs (N := 0) (.inr rfl) ta88 ti88 rfl rfl rfl rfl rfl rfl ?_ ?_
  ·
   exact .agg _ _ rfl (zbd.cons (.own _ _ _ _ _ rfl rfl rfl) (zbd.cons (.own _ _ _ _ _ rfl rfl rfl) (zbd.cons (.own _ _ _ _ _ rfl rfl rfl) (zbd.cons (.own _ _ _ _ _ rfl rfl rfl) zbd.nil)))).2
  ·
   exact .own _ _ _ _ _ rfl rfl xo
end Go.Proofs.YtllkbjcemecmjaaGreat.Aw
end
section
namespace Go.Proofs.YtllkbjcemecmjaaGreat.Aw
open Go.RowKit Go.Proofs
variable {P : Program} [IsP P]
theorem lo_FF (A : List (List Fr)) : Lo 0 (eL (eL eF) A) := zan fun r => lo_Fs r
theorem lo_P (p : LP) : Lo 0 (eP p) := .agg _ (zah (lo_Fs _) (zah (lo_FF _) (zah (zan fun _ => .s _) (zah (lo_Fs _) zak))))
end Go.Proofs.YtllkbjcemecmjaaGreat.Aw
end
