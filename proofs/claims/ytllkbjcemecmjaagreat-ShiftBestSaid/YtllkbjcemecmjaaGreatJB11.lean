import Derived.Test.YtllkbjcemecmjaaGreatJB10
import Derived.Test.YtllkbjcemecmjaaGreatJB7
set_option linter.unusedSimpArgs false
set_option linter.unusedVariables false
set_option linter.unusedSectionVars false
section
namespace Go.Proofs.YtllkbjcemecmjaaGreat.Aw
open Go Go.RowKit Go.Proofs
variable {P : Program} [IsP P]
theorem cloneF_call (l : List Fr) (h1 : 1 ≤ l.length) (h2 : l.length ≤ 40) (σ : List Ob) : CallE P 93 [eL eF l] σ (.own σ.length 2 l.length) (σ ++ [.row 2 (l.map eF)]) := by
 have hnn : NonNil (eL eF l) := by
  cases l with
  | nil => simp at h1
  | cons a t => exact .sl _ _
 have hlm : (l.map eF).length = l.length := by simp
 refine callE_fn (by rw [IsP.eq (P := P)]; exact Tryz.func93) rfl rfl (Nat.le_of_ble_eq_true rfl) ?_
 refine ew_seq (ew_region (eops_s rfl (zdj (zai (ew_seq (ew_seq (ew_region (eops_s rfl (eops_op rfl rfl (zaa rfl) (does_eqnil rfl ts30 rfl hnn rfl (.inl ⟨rfl, rfl⟩)) (zdj (zai (ew_false rfl (ew_skip (zai (ew_seq (ew_region (eops_op rfl rfl (zaa rfl) (does_lit0 rfl rfl ts30 ti45) (eops_s rfl ?_))))))))))))))))))
 refine eops_op rfl rfl (zaa rfl) (does_append0 (l := l.map eF) rfl ts30 ti45 rfl xf rfl (.inl rfl) rfl (.sl _ (by intro e he; simp at he; obtain ⟨_, _, rfl⟩ := he; rfl)) (by unfold maxLen; simp; omega) (by simp; omega)) ?_
 refine eops_s rfl (zdj (zai (ew_ret ?_)))
 refine ⟨.inr rfl, rfl, _, .cons _ _ _ _ (.tmp _ _ rfl) .nil, ?_⟩
 rw [hlm]; rfl
def r1of (p : LP) (i : Nat) : List Fr :=
 if gti p.rel i = 1 then (gti p.a i ++ List.replicate (2 * p.a.length) (Fr.of 0)).set (p.c.length + i) (Fr.of 1) else if gti p.rel i = 2 then (gti p.a i ++ List.replicate (2 * p.a.length) (Fr.of 0)).set (p.c.length + i) (Fr.of (-1)) else gti p.a i ++ List.replicate (2 * p.a.length) (Fr.of 0)
def r2of (p : LP) (i : Nat) : List Fr := if (gti p.b i).n < 0 then (r1of p i ++ [gti p.b i]).map fneg else r1of p i ++ [gti p.b i]
theorem begR_eq (p : LP) (i : Nat) : begR p i = (r2of p i).set (p.c.length + p.a.length + i) (Fr.of 1) := rfl
def stB (t : Tb) (c : AV) : List Ob := [.row 5 [.agg [.own 2 1 t.rows.length, c, .own 3 1 t.bas.length, eI t.last, eI 0]], .row 1 (t.rows.map (eL eF)), .row 1 (t.bas.map eI)]
def tnL (p : LP) (i : Nat) : List Bool := (turnL p).take i ++ List.replicate (p.a.length - i) false
theorem bg_ren {ρ : List Nat} {a b : Nat} {x : AV} {e l : Int} (h1 : ρ[2]? = some 2) (h2 : ρ[3]? = some 3) (hx : Lo 0 x) : ObRn ρ (.row 5 [.agg [.own 2 1 a, x, .own 3 1 b, eI l, eI e]]) (.row 5 [.agg [.own 2 1 a, x, .own 3 1 b, eI l, eI e]]) :=
 zc5 (.cons (.own _ _ _ _ _ h1 rfl) (.cons (.lo _ hx) (.cons (.own _ _ _ _ _ h2 rfl) (.cons (.lo _ (.s _)) (.cons (.lo _ (.s _)) .nil)))))
theorem zcu {k : Nat} (l : List (List Fr)) : ∀ e ∈ l.map (eL eF), ∀ c ∈ e.cells, Lo k c := zav fun r c hc => by
 simp [eL, AV.cells] at hc; subst hc; exact lo_up (lo_Fs r)
theorem zdb {k : Nat} (l : List Int) : ∀ e ∈ l.map eI, ∀ c ∈ e.cells, Lo k c := zav fun r c hc => by
 simp [eI, AV.cells] at hc; subst hc; exact .s _
theorem r1of_len {p : LP} {i : Nat} (h : (gti p.a i).length = p.c.length) : (r1of p i).length = p.c.length + 2 * p.a.length := by
 unfold r1of
 split
 ·
  rw [List.length_set, List.length_append, List.length_replicate, h]
 ·
  split
  ·
   rw [List.length_set, List.length_append, List.length_replicate, h]
  ·
   rw [List.length_append, List.length_replicate, h]
theorem r2of_len {p : LP} {i : Nat} (h : (gti p.a i).length = p.c.length) : (r2of p i).length = p.c.length + 2 * p.a.length + 1 := by
 unfold r2of
 split
 ·
  rw [List.length_map, List.length_append, r1of_len h]; rfl
 ·
  rw [List.length_append, r1of_len h]; rfl
def ngL (l : List Fr) (j : Nat) : List Fr := (l.take j).map fneg ++ l.drop j
theorem ngL_len {l : List Fr} {j : Nat} : (ngL l j).length = l.length := by simp [ngL]; omega
theorem ngL_get {l : List Fr} {j : Nat} (h : j < l.length) : gti (ngL l j) j = gti l j := by
 unfold ngL gti
 rw [List.getElem?_append_right (by simp; omega), List.length_map, List.length_take, Nat.min_eq_left xd, Nat.sub_self, List.getElem?_drop, Nat.add_zero]
theorem ngL_step {l : List Fr} {j : Nat} (h : j < l.length) : ngL l (j + 1) = (ngL l j).set j (fneg (gti l j)) := by
 unfold ngL
 rw [List.set_append_right _ _ (by simp; omega), List.length_map, List.length_take, Nat.min_eq_left xd, Nat.sub_self, dropF h, List.set_cons_zero, zcq h, List.map_append, List.append_assoc]
 rfl
theorem turnL_len (p : LP) : (turnL p).length = p.b.length := by simp [turnL]
theorem turnL_get {p : LP} {i : Nat} (h : i < p.b.length) : gti (turnL p) i = decide ((gti p.b i).n < 0) := by
 unfold turnL gti
 rw [List.getElem?_map, List.getElem?_eq_getElem h]; rfl
theorem tnL_len {p : LP} {i : Nat} (hb : p.b.length = p.a.length) (hi : i ≤ p.a.length) : (tnL p i).length = p.a.length := by simp [tnL, turnL_len]; omega
theorem tnL_step {p : LP} {i : Nat} (hb : p.b.length = p.a.length) (hi : i < p.a.length) : tnL p (i + 1) = (tnL p i).set i (decide ((gti p.b i).n < 0)) := by
 unfold tnL
 rw [List.set_append_right _ _ (by simp [turnL_len]; omega), List.length_take, turnL_len, Nat.min_eq_left xd, Nat.sub_self, show p.a.length - i = (p.a.length - (i + 1)) + 1 by omega, List.replicate_succ, List.set_cons_zero, zcq (by rw [turnL_len]; omega), turnL_get xd, List.append_assoc]
 rfl
theorem tnL_get {p : LP} {i : Nat} (hb : p.b.length = p.a.length) (hi : i < p.a.length) : gti (tnL p i) i = false := by
 unfold tnL gti
 rw [List.getElem?_append_right (by simp [turnL_len]; omega), List.length_take, turnL_len, Nat.min_eq_left xd, Nat.sub_self, List.getElem?_replicate, if_pos xd]; rfl
theorem rows_len (p : LP) : (begT p).rows.length = p.a.length := by simp [begT]
theorem basB_len (p : LP) : (begT p).bas.length = p.a.length := by simp [begT]
theorem rows_get {p : LP} {i : Nat} (h : i < p.a.length) : gti (begT p).rows i = begR p i := by unfold begT; exact gti_rangeF h
theorem basB_get {p : LP} {i : Nat} (h : i < p.a.length) : gti (begT p).bas i = ((p.c.length + p.a.length + i : Nat) : Int) := by unfold begT; exact gti_rangeF h
theorem r1b_ok {p : LP} {i : Nat} (hi : i < p.a.length) (g2 : ∀ x ∈ gti p.a i, x.ok) (hb : (gti p.b i).ok) : ∀ x ∈ r1of p i ++ [gti p.b i], x.ok := by
 have h0 : ∀ x ∈ gti p.a i ++ List.replicate (2 * p.a.length) (Fr.of 0), x.ok := fun x hx => by
  rcases List.mem_append.1 hx with hx | hx
  ·
   exact g2 x hx
  ·
   rw [List.eq_of_mem_replicate hx]; exact of_ok ⟨by decide, by decide⟩
 intro x hx
 rcases List.mem_append.1 hx with hx | hx
 ·
  unfold r1of at hx
  split at hx
  ·
   rcases List.mem_or_eq_of_mem_set hx with hx | rfl
   ·
    exact h0 x hx
   ·
    exact of_ok ⟨by decide, by decide⟩
  ·
   split at hx
   ·
    rcases List.mem_or_eq_of_mem_set hx with hx | rfl
    ·
     exact h0 x hx
    ·
     exact of_ok ⟨by decide, by decide⟩
   ·
    exact h0 x hx
 ·
  rw [List.mem_singleton.1 hx]; exact hb
theorem set_gtiB {l : List Bool} {i : Nat} {b : Bool} (h : i < l.length) (hb : gti l i = b) : l.set i b = l := by
 refine List.ext_getElem? fun j => ?_
 by_cases e : i = j
 ·
  subst e
  rw [List.getElem?_set_self h, List.getElem?_eq_getElem h]
  unfold gti at hb
  rw [List.getElem?_eq_getElem h] at hb
  exact congrArg some hb.symm
 ·
  rw [List.getElem?_set_ne e]
namespace K1
set_option maxHeartbeats 16000000 in
theorem begin_call {n m : Nat} (z : Zc) (p : LP) (h : LpOk p n m) :
  CallE P 85 [eP p] [.row z.n z.cs] (.tup [.ptr 1 5 0 0, .own 4 1 m]) (.row z.n z.cs :: stB (begT p) (.s (.slice none 0 0)) ++ [.row 1 ((turnL p).map eB)]) := by
 have hrow := fun i hi => begR_ok h (i := i) hi
 obtain ⟨hc, ha, hb, hr, hn, hm, hco, hbo, hao⟩ := h
 subst hc ha
 refine callE_fn (Nat.le_refl _) (by rw [IsP.eq (P := P)]; exact Tryz.func85) rfl rfl (Nat.le_of_ble_eq_true rfl) ?_
 simp only [argF]
 refine kw_seq (kw_region (kops_op rfl rfl (zaa rfl) (zb3 rfl rfl rfl rfl) (kops_s rfl (kops_s rfl (kops_nil (kw_seq ?_))))))
 refine kw_weak (kwk_froz (id := 1) rfl) ?_
 refine kw_weak (kwk_ref (d := 1) rfl rfl rfl) ?_
 refine kw_draw hmix ?_
 refine kdraw_ex ?_
 refine ex_f tf88_0 rfl (ex_l ta30 rfl (zay rfl rfl (zaa rfl) (fun _ => (zao rfl ts30 rfl)) (ex_f tf88_1 rfl (ex_l ta86 rfl (zay rfl rfl (zaa rfl) (fun _ => (zao rfl ts86 rfl)) (ex_s rfl (ex_s rfl ?_)))))))
 refine zcf xi ?_
 refine kw_seq (kw_region (kops_s rfl (kops_s rfl (kops_op rfl rfl (zaa rfl) (zax rfl rfl rfl (IntWalk.i64_in _ xd)) (kops_op rfl rfl (zaa rfl) (za9 rfl ti138 tp138 rfl rfl) (kops_op rfl rfl (zaa rfl) (zb3 rfl rfl rfl rfl) (kops_s rfl (kops_nil (kw_seq (kw_region (kops_s rfl (kops_op rfl rfl (zaa rfl) (does_make rfl ts131 ti4 rfl rfl xf rfl rfl rfl rfl xd xd xd) (kops_s rfl (kops_nil (kw_seq (kw_seq ?_))))))))))))))))
 refine kw_weak (kwk_ownC (id := 2) (sz := 5) (sz2 := 1) (e' := .agg [.own 4 1 0, .s (.slice none 0 0), .s (.slice none 0 0), eI ((p.c.length : Int) + p.a.length), eI 0]) (pre := []) (post := [.s (.slice none 0 0), .s (.slice none 0 0), eI ((p.c.length : Int) + p.a.length), eI 0]) rfl rfl rfl) ?_
 refine kw_weak (kwk_ownC (id := 2) (sz := 5) (sz2 := 1) (e' := .agg [.own 4 1 0, .s (.slice none 0 0), .own 5 1 0, eI ((p.c.length : Int) + p.a.length), eI 0]) (pre := [.own 4 1 0, .s (.slice none 0 0)]) (post := [eI ((p.c.length : Int) + p.a.length), eI 0]) rfl rfl rfl) ?_
 refine kw_region (kops_f tf88_1 rfl (kops_l ta86 rfl (kops_op rfl rfl (zaa rfl) (zao rfl ts86 rfl) (kops_s rfl (kops_nil (zai (kw_block ?_)))))))
 refine kw_loops (S := Nat) (fun i => [(1, .ref (eP p).cells), (4, eI p.c.length), (5, eI p.a.length), (6, .ptr 1 5 0 0), (7, .own 4 1 p.a.length), (26, eL (eL eF) p.a), (27, eI p.a.length), (28, eI i)]) (fun i => [.row z.n z.cs, .row 5 [.agg [.own 2 1 i, .s (.slice none 0 0), .own 3 1 i, eI ((p.c.length : Int) + p.a.length), eI 0]], .row 1 (((begT p).rows.take i).map (eL eF)), .row 1 (((begT p).bas.take i).map eI), .row 1 ((tnL p i).map eB)]) (fun i => i ≤ p.a.length) (fun i => p.a.length - i) 0
  (kwk_st [0, 2, 4, 5, 3] rfl xf ⟨⟨_, rfl, .rowE z.lo rfl⟩, ⟨_, rfl, zc5 (.cons (.own _ _ _ _ _ rfl rfl) (.cons (.lo _ (.s _)) (.cons (.own _ _ _ _ _ rfl rfl) (.cons (.lo _ (.s _)) (.cons (.lo _ (.s _)) .nil)))))⟩, ⟨_, rfl, .rowE (zaz) rfl⟩, ⟨_, rfl, .rowE (zaz) rfl⟩, ⟨_, rfl, .rowE (zav fun b c hc => by simp [eB, AV.cells] at hc; subst hc; exact .s _) (by simp [tnL, eB, ofValue])⟩, trivial⟩ ⟨.lo _ (.ref _ (lo_P p).cells), .lo _ (.s _), .lo _ (.s _), .ptr 2 1 5 0 0 rfl, .own 3 4 1 _ _ rfl rfl, .lo _ (lo_FF _), .lo _ (.s _), .lo _ (.s _), trivial⟩) (Nat.zero_le _) (fun i hi => ?_)
 refine kw_seq (kw_region ?_)
 refine kops_opP rfl rfl (zaa rfl) (za2 rfl rfl rfl) (fun h29 => ?_) (fun h29 => ?_)
 all_goals refine kops_nil (kw_seq ?_)
 all_goals (first | refine kw_true rfl ?_ | refine kw_false rfl ?_)
 all_goals (repeat (first | refine kw_seq ?_ | refine kw_skip ?_ | refine kw_block ?_))
 ·
  have hlt : i < p.a.length := by omega
  obtain ⟨g1, g2⟩ := hao i hlt
  have hxa : (p.a.map (eL eF))[i]? = some (eL eF (gti p.a i)) := zbb hlt
  have hxr : (p.rel.map eI)[i]? = some (eI (gti p.rel i)) := zbb xd
  have hxb : (p.b.map eF)[i]? = some (eF (gti p.b i)) := zbb xd
  have hcl := fun σ => cloneF_call (P := P) (gti p.a i) xd xd σ
  have hzo := zeros_po (P := P) (2 * p.a.length) xd
  have hz2 : (2 : Int) * (p.a.length : Int) = ((2 * p.a.length : Nat) : Int) := by omega
  have hal : ((gti p.a i).map eF).length = (gti p.a i).length := by simp
  have hzl2 : (zbf (2 * p.a.length)).length = 2 * p.a.length := by simp [zbf]
  have hzl : ((zbf (2 * p.a.length)).map eF).length = 2 * p.a.length := by simp [zbf]
  refine kw_region (kops_s rfl (kops_op rfl rfl (zaa rfl) (zal rfl ts86 ti30 rfl rfl rfl hxa rfl) (kops_l ta30 rfl (kops_s rfl (kops_s rfl (kops_nil (kw_seq (kw_region (kops_s rfl (kops_op rfl rfl (zaa rfl) (zbs rfl rfl (hcl _) (zae rfl zap)) (kops_s rfl (kops_op rfl rfl (zaa rfl) (does_mul rfl rfl rfl (IntWalk.i64_in _ xd)) (kops_op rfl rfl (zaa rfl) (does_callO rfl rfl ((hz2 ▸ hzo)) (zae rfl zap)) ?_)))))))))))))
  refine kops_op rfl rfl (zaa rfl) (zbq rfl ts30 ti45 rfl xf rfl rfl xk rfl xe xg xg) ?_
  refine kops_s rfl (kops_nil (kw_seq (kw_seq ?_)))
  -- the row so far, as a variable
  refine kw_weak (F' := [(1, .ref (eP p).cells), (4, eI p.c.length), (5, eI p.a.length), (6, .ptr 1 5 0 0), (7, .own 4 1 p.a.length), (8, eI i), (10, .own 5 2 (p.c.length + 2 * p.a.length)), (26, eL (eL eF) p.a), (27, eI p.a.length), (28, eI i)]) (σ' := [.row z.n z.cs, .row 5 [.agg [.own 2 1 i, .s (.slice none 0 0), .own 3 1 i, eI ((p.c.length : Int) + p.a.length), eI 0]], .row 1 (((begT p).rows.take i).map (eL eF)), .row 1 (((begT p).bas.take i).map eI), .row 1 ((tnL p i).map eB), .row 2 ((gti p.a i ++ zbf (2 * p.a.length)).map eF)]) (kwk_st [0, 1, 2, 3, 4, 7] rfl xf ⟨⟨_, rfl, .rowE z.lo rfl⟩, ⟨_, rfl, bg_ren rfl rfl (.s _)⟩, ⟨_, rfl, .rowE (zcu _) rfl⟩, ⟨_, rfl, .rowE (zdb _) rfl⟩, ⟨_, rfl, .rowE (zav fun b c hc => by simp [eB, AV.cells] at hc; subst hc; exact .s _) rfl⟩, ⟨_, rfl, .rowE xb (by rw [List.map_append]; try rfl)⟩, trivial⟩ ⟨.lo _ (.ref _ (lo_P p).cells), .lo _ (.s _), .lo _ (.s _), .ptr 1 1 5 0 0 rfl, .own 4 4 1 _ _ rfl rfl, .lo _ (.s _), .own 7 5 2 _ _ rfl xd, .lo _ (lo_FF _), .lo _ (.s _), .lo _ (.s _), trivial⟩) ?_
  have hr0 : gti p.a i ++ zbf (2 * p.a.length) = gti p.a i ++ List.replicate (2 * p.a.length) (Fr.of 0) := rfl
  have hl0 : (gti p.a i ++ zbf (2 * p.a.length)).length = p.c.length + 2 * p.a.length := by simp [zbf]; omega
  have hw1 := swhole_pf (P := P) 1
  have hwm := swhole_pf (P := P) (-1)
  have hkn : (p.c.length : Int) + (i : Int) = ((p.c.length + i : Nat) : Int) := by omega
  have hxn : ((gti p.a i ++ zbf (2 * p.a.length)).map eF)[p.c.length + i]? = some (eF (gti (gti p.a i ++ zbf (2 * p.a.length)) (p.c.length + i))) := zbb xd
  have hlo : ∀ l, r1of p i ++ [gti p.b i] = l → ∀ x ∈ l, x.ok := fun l hl => hl ▸ r1b_ok hlt g2 (hbo _ (zds xd))
  have hr1 : r1of p i = (if gti p.rel i = 1 then (gti p.a i ++ zbf (2 * p.a.length)).set (p.c.length + i) (Fr.of 1) else if gti p.rel i = 2 then (gti p.a i ++ zbf (2 * p.a.length)).set (p.c.length + i) (Fr.of (-1)) else gti p.a i ++ zbf (2 * p.a.length)) := rfl
  refine kw_region (kops_f tf88_2 rfl (kops_l ta22 rfl (kops_s rfl (kops_op rfl rfl (zaa rfl) (zal rfl ts22 ti3 rfl rfl rfl hxr rfl) (kops_l ta3 rfl (kops_nil (zai (kw_block (kw_seq (kw_region ?_))))))))))
  refine kops_opP rfl rfl (zaa rfl) (zbn rfl rfl rfl) (fun h45 => ?_) (fun h45 => ?_)
  all_goals refine kops_s rfl (kops_nil (zai ?_))
  all_goals (first | refine kw_true rfl ?_ | refine kw_false rfl ?_)
  all_goals repeat refine kw_seq ?_
  ·
   rw [if_pos h45] at hr1
   refine kw_region (kops_s rfl (kops_s rfl (kops_s rfl (kops_op rfl rfl (zaa rfl) (zax rfl rfl rfl (IntWalk.i64_in _ xd)) (kops_op rfl rfl (zaa rfl) (zam rfl rfl (hw1) (zae rfl zap)) (kops_op rfl rfl (zaa rfl) (za0 rfl ts30 ti45 rfl rfl hkn xd) (kops_eff rfl (zaa rfl) (zaj rfl ti45 rfl rfl rfl hxn rfl rfl xf xf) (kops_nil (kw_seq ?_)))))))))
   refine kw_weak (F' := [(1, .ref (eP p).cells), (4, eI p.c.length), (5, eI p.a.length), (6, .ptr 1 5 0 0), (7, .own 4 1 p.a.length), (8, eI i), (10, .own 5 2 (p.c.length + 2 * p.a.length)), (26, eL (eL eF) p.a), (27, eI p.a.length), (28, eI i)]) (σ' := [.row z.n z.cs, .row 5 [.agg [.own 2 1 i, .s (.slice none 0 0), .own 3 1 i, eI ((p.c.length : Int) + p.a.length), eI 0]], .row 1 (((begT p).rows.take i).map (eL eF)), .row 1 (((begT p).bas.take i).map eI), .row 1 ((tnL p i).map eB), .row 2 ((r1of p i).map eF)]) (kwk_st [0, 1, 2, 3, 4, 5] rfl xf ⟨⟨_, rfl, .rowE z.lo rfl⟩, ⟨_, rfl, bg_ren rfl rfl (.s _)⟩, ⟨_, rfl, .rowE (zcu _) rfl⟩, ⟨_, rfl, .rowE (zdb _) rfl⟩, ⟨_, rfl, .rowE (zav fun b c hc => by simp [eB, AV.cells] at hc; subst hc; exact .s _) rfl⟩, ⟨_, rfl, .rowE xb (by rw [hr1, List.map_set]; try rfl)⟩, trivial⟩ ⟨.lo _ (.ref _ (lo_P p).cells), .lo _ (.s _), .lo _ (.s _), .ptr 1 1 5 0 0 rfl, .own 4 4 1 _ _ rfl rfl, .lo _ (.s _), .own 5 5 2 _ _ rfl rfl, .lo _ (lo_FF _), .lo _ (.s _), .lo _ (.s _), trivial⟩) ?_
   have hl1 := r1of_len g1
   have hl1m : ((r1of p i).map eF).length = p.c.length + 2 * p.a.length := by rw [List.length_map, hl1]
   refine kw_region (kops_s rfl (kops_f tf88_3 rfl (kops_l ta30 rfl (kops_s rfl (kops_op rfl rfl (zaa rfl) (zal rfl ts30 ti45 rfl rfl rfl hxb rfl) (kops_w ta45 ti45 rfl (kops_op rfl rfl (zaa rfl) (zco rfl ts30 ti45 rfl rfl xf xf rfl rfl rfl (.agg _ (zah (.s _) (zah (.s _) zak)))) ?_)))))))
   refine kops_op rfl rfl (zaa rfl) (zbq rfl ts30 ti45 rfl xf rfl rfl xk rfl xe xg xg) ?_
   refine kops_s rfl (kops_nil (kw_seq (kw_seq ?_)))
   rw [hl1m]
   refine kw_region (kops_f tf88_3 rfl (kops_l ta30 rfl (kops_s rfl (kops_op rfl rfl (zaa rfl) (zal rfl ts30 ti45 rfl rfl rfl hxb rfl) (kops_f tf45_0 rfl (kops_l ta3 rfl ?_))))))
   refine kops_opP rfl rfl (zaa rfl) (za2 rfl rfl rfl) (fun h74 => ?_) (fun h74 => ?_)
   all_goals refine kops_nil (zai ?_)
   all_goals (first | refine kw_true rfl ?_ | refine kw_false rfl ?_)
   all_goals (repeat (first | refine kw_seq ?_ | refine kw_skip ?_))
   ·
    have hr2 : r2of p i = (r1of p i ++ [gti p.b i]).map fneg := by unfold r2of; rw [if_pos h74]
    have ht2 : tnL p (i + 1) = (tnL p i).set i true := by rw [tnL_step hb hlt, decide_eq_true h74]
    have htl := tnL_len (p := p) (i := i) hb xd
    have hxt : ((tnL p i).map eB)[i]? = some (eB (gti (tnL p i) i)) := zbb xd
    generalize hl : r1of p i ++ [gti p.b i] = l at hr2
    have hll : l.length = p.c.length + 2 * p.a.length + 1 := by rw [← hl, List.length_append, hl1]; rfl
    have hlok : ∀ x ∈ l, x.ok := hlo l hl
    refine kw_region (kops_s rfl (kops_s rfl (kops_op rfl rfl (zaa rfl) (za0 rfl ts131 ti4 rfl rfl rfl xd) (kops_eff rfl (zaa rfl) (zaj rfl ti4 rfl rfl rfl hxt rfl rfl xf xf) (kops_nil (kw_seq (kw_region (kops_s rfl (kops_op rfl rfl (zaa rfl) (zc7 rfl ts30 rfl) (kops_s rfl (kops_nil (zai (kw_block ?_)))))))))))))
    refine kw_loops (S := Nat) (fun j => [(1, .ref (eP p).cells), (4, eI p.c.length), (5, eI p.a.length), (6, .ptr 1 5 0 0), (7, .own 4 1 p.a.length), (8, eI i), (10, .own 5 2 (p.c.length + 2 * p.a.length + 1)), (26, eL (eL eF) p.a), (27, eI p.a.length), (28, eI i), (79, eI ((p.c.length + 2 * p.a.length + 1 : Nat) : Int)), (80, eI j)]) (fun j => [.row z.n z.cs, .row 5 [.agg [.own 2 1 i, .s (.slice none 0 0), .own 3 1 i, eI ((p.c.length : Int) + p.a.length), eI 0]], .row 1 (((begT p).rows.take i).map (eL eF)), .row 1 (((begT p).bas.take i).map eI), .row 1 ((tnL p (i + 1)).map eB), .row 2 ((ngL l j).map eF)]) (fun j => j ≤ p.c.length + 2 * p.a.length + 1) (fun j => p.c.length + 2 * p.a.length + 1 - j) 0
     (kwk_st [0, 1, 2, 3, 4, 6] rfl xf ⟨⟨_, rfl, .rowE z.lo rfl⟩, ⟨_, rfl, bg_ren rfl rfl (.s _)⟩, ⟨_, rfl, .rowE (zcu _) rfl⟩, ⟨_, rfl, .rowE (zdb _) rfl⟩, ⟨_, rfl, .rowE (zav fun b c hc => by simp [eB, AV.cells] at hc; subst hc; exact .s _) (by rw [ht2, List.map_set]; try rfl)⟩, ⟨_, rfl, .rowE xb (by rw [← hl]; simp [ngL]; try rfl)⟩, trivial⟩ ⟨.lo _ (.ref _ (lo_P p).cells), .lo _ (.s _), .lo _ (.s _), .ptr 1 1 5 0 0 rfl, .own 4 4 1 _ _ rfl rfl, .lo _ (.s _), .own 6 5 2 _ _ rfl rfl, .lo _ (lo_FF _), .lo _ (.s _), .lo _ (.s _), .lo _ (.s _), .lo _ (.s _), trivial⟩) (Nat.zero_le _) (fun j hj => ?_)
    refine kw_seq (kw_region ?_)
    refine kops_opP rfl rfl (zaa rfl) (za2 rfl rfl rfl) (fun h81 => ?_) (fun h81 => ?_)
    all_goals refine kops_nil (kw_seq ?_)
    all_goals (first | refine kw_true rfl ?_ | refine kw_false rfl ?_)
    all_goals (repeat (first | refine kw_seq ?_ | refine kw_skip ?_ | refine kw_block ?_))
    ·
     have hjl : j < l.length := by omega
     have hxj : ((ngL l j).map eF)[j]? = some (eF (gti l j)) := by rw [← ngL_get hjl]; exact zbb (by rw [ngL_len]; exact hjl)
     have hjo := hlok _ (zds hjl)
     have hng := sneg_pf (P := P) (gti l j) ⟨hjo.1, hjo.2.1⟩
     refine kw_region (kops_s rfl (kops_s rfl (kops_nil (zai (kw_region (kops_s rfl (kops_s rfl (kops_s rfl (kops_s rfl (kops_op rfl rfl (zaa rfl) (za0 rfl ts30 ti45 rfl rfl rfl xd) (kops_op rfl rfl (zaa rfl) (za8 rfl ta45 ti45 rfl rfl rfl hxj rfl) (kops_op rfl rfl (zaa rfl) (zam rfl rfl (hng) (zae rfl zap)) (kops_op rfl rfl (zaa rfl) (za0 rfl ts30 ti45 rfl rfl rfl xd) (kops_eff rfl (zaa rfl) (zaj rfl ti45 rfl rfl rfl hxj rfl rfl xf xf) (kops_nil (zbl (zai (kw_region ?_))))))))))))))))))
     refine kops_op rfl rfl (zaa rfl) (zax rfl rfl rfl (IntWalk.i64_in _ xd)) (kops_s rfl (kops_nil (zai ?_)))
     exact ⟨j + 1, by omega, by omega, (kwk_st [0, 1, 2, 3, 4, 5] rfl xf ⟨⟨_, rfl, .rowE z.lo rfl⟩, ⟨_, rfl, bg_ren rfl rfl (.s _)⟩, ⟨_, rfl, .rowE (zcu _) rfl⟩, ⟨_, rfl, .rowE (zdb _) rfl⟩, ⟨_, rfl, .rowE (zav fun b c hc => by simp [eB, AV.cells] at hc; subst hc; exact .s _) rfl⟩, ⟨_, rfl, .rowE xb (by rw [ngL_step hjl, List.map_set]; try rfl)⟩, trivial⟩ ⟨.lo _ (.ref _ (lo_P p).cells), .lo _ (.s _), .lo _ (.s _), .ptr 1 1 5 0 0 rfl, .own 4 4 1 _ _ rfl rfl, .lo _ (.s _), .own 5 5 2 _ _ rfl rfl, .lo _ (lo_FF _), .lo _ (.s _), .lo _ (.s _), .lo _ (.s _), .lo _ (.s _), trivial⟩)⟩
    ·
     have ej : j = l.length := by omega
     have hng : ngL l j = r2of p i := by rw [hr2, ej]; simp [ngL]
     rw [hng]
     (refine kw_exit ?_; repeat (first | refine zcr ?_ | refine zbt ?_ | refine zbk rfl ?_ | refine zbl ?_ | refine zai ?_ | refine kw_seq ?_ | refine kw_skip ?_ | refine kw_block ?_))
     have hl2 := r2of_len (p := p) (i := i) g1
     have hk2 : (p.c.length : Int) + (p.a.length : Int) + (i : Int) = ((p.c.length + p.a.length + i : Nat) : Int) := by omega
     have hxq : ((r2of p i).map eF)[p.c.length + p.a.length + i]? = some (eF (gti (r2of p i) (p.c.length + p.a.length + i))) := zbb xd
     have hrl := rows_len p
     have hbl := basB_len p
     refine kw_region (kops_s rfl (kops_s rfl (kops_s rfl (kops_op rfl rfl (zaa rfl) (zax rfl rfl rfl (IntWalk.i64_in _ xd)) (kops_s rfl (kops_op rfl rfl (zaa rfl) (zax rfl rfl rfl (IntWalk.i64_in _ xd)) (kops_op rfl rfl (zaa rfl) (zam rfl rfl (hw1) (zae rfl zap)) (kops_op rfl rfl (zaa rfl) (za0 rfl ts30 ti45 rfl rfl hk2 xd) (kops_eff rfl (zaa rfl) (zaj rfl ti45 rfl rfl rfl hxq rfl rfl xf xf) (kops_nil (zai ?_)))))))))))
     have hlB : (begR p i).length = p.c.length + 2 * p.a.length + 1 := by rw [begR_eq, List.length_set, hl2]
     refine kw_weak (F' := [(1, .ref (eP p).cells), (4, eI p.c.length), (5, eI p.a.length), (6, .ptr 1 5 0 0), (7, .own 4 1 p.a.length), (8, eI i), (10, .own 5 2 (p.c.length + 2 * p.a.length + 1)), (26, eL (eL eF) p.a), (27, eI p.a.length), (28, eI i)]) (σ' := [.row z.n z.cs, .row 5 [.agg [.own 2 1 i, .s (.slice none 0 0), .own 3 1 i, eI ((p.c.length : Int) + p.a.length), eI 0]], .row 1 (((begT p).rows.take i).map (eL eF)), .row 1 (((begT p).bas.take i).map eI), .row 1 ((tnL p (i + 1)).map eB), .row 2 ((begR p i).map eF)]) (kwk_st [0, 1, 2, 3, 4, 5] rfl xf ⟨⟨_, rfl, .rowE z.lo rfl⟩, ⟨_, rfl, bg_ren rfl rfl (.s _)⟩, ⟨_, rfl, .rowE (zcu _) rfl⟩, ⟨_, rfl, .rowE (zdb _) rfl⟩, ⟨_, rfl, .rowE (zav fun b c hc => by simp [eB, AV.cells] at hc; subst hc; exact .s _) rfl⟩, ⟨_, rfl, .rowE xb (by rw [begR_eq, List.map_set]; try rfl)⟩, trivial⟩ ⟨.lo _ (.ref _ (lo_P p).cells), .lo _ (.s _), .lo _ (.s _), .ptr 1 1 5 0 0 rfl, .own 4 4 1 _ _ rfl rfl, .lo _ (.s _), .own 5 5 2 _ _ rfl rfl, .lo _ (lo_FF _), .lo _ (.s _), .lo _ (.s _), trivial⟩) ?_
     refine kw_weak (kwk_froz (id := 5) rfl) ?_
     refine kw_weak (kwk_sl (d := 10) rfl rfl (by simp [hlB])) ?_
     refine kw_draw hmix ?_
     refine kdraw_ex ?_
     refine ex_s rfl (ex_s rfl (ex_s rfl (ex_s rfl (ex_f zc6 rfl (zbv rfl rfl (zaa rfl) (zbr rfl ta86 rfl rfl rfl rfl rfl) (ex_s rfl ?_))))))
     refine zay rfl rfl (zaa rfl) (fun _ => (lit1_slF rfl ts86 ti30 rfl rfl rfl rfl xa)) ?_
     refine zc9 rfl rfl (zaa rfl) (zbq rfl ts86 ti30 rfl xf rfl rfl (by simp [hrl]; omega) rfl xe xg xg) (fun _ h => zct h) ?_
     refine ex_s rfl (ex_s rfl (ex_f zdl rfl (zbv rfl rfl (zaa rfl) (zbr rfl ta22 rfl rfl rfl rfl rfl) (ex_s rfl (ex_s rfl (zay rfl rfl (zaa rfl) (fun _ => (zax rfl rfl rfl (IntWalk.i64_in _ xd))) (ex_s rfl (zay rfl rfl (zaa rfl) (fun _ => (zax rfl rfl rfl (IntWalk.i64_in _ xd))) (zay rfl rfl (zaa rfl) (fun _ => (lit1_sF rfl ts22 ti3 rfl rfl rfl rfl)) ?_)))))))))
     refine zc9 rfl rfl (zaa rfl) (zbq rfl ts22 ti3 rfl xf rfl rfl (by simp [hbl]; omega) rfl xe xg xg) (fun _ h => zct h) ?_
     refine ex_s rfl (ex_f zc6 rfl ?_)
     refine zci rfl (zaa rfl) (zaj rfl ti86 rfl rfl rfl rfl rfl rfl xf xf) (fun _ h => zbw h) ?_
     refine ex_s rfl (ex_f zdl rfl ?_)
     refine zci rfl (zaa rfl) (zaj rfl ti22 rfl rfl rfl rfl rfl rfl xf xf) (fun _ h => zbw h) ?_
     refine zcf xi ?_
     refine zbl (zai (kw_region (kops_op rfl rfl (zaa rfl) (zax rfl rfl rfl (IntWalk.i64_in _ xd)) (kops_s rfl (kops_nil (zai ?_))))))
     exact ⟨i + 1, by omega, by omega, kwk_st [0, 1, 6, 7, 4] rfl xf ⟨⟨_, rfl, .rowE z.lo rfl⟩, ⟨_, rfl, zc5 (.cons (.own _ _ _ _ _ rfl (by simp [hrl]; omega)) (.cons (.lo _ (.s _)) (.cons (.own _ _ _ _ _ rfl (by simp [hbl]; omega)) (.cons (.lo _ (.s _)) (.cons (.lo _ (.s _)) .nil)))))⟩, ⟨_, rfl, .rowE (zcu _) (by rw [zcq xd, rows_get hlt, List.map_append]; try rfl)⟩, ⟨_, rfl, .rowE (zdb _) (by rw [zcq xd, basB_get hlt, List.map_append]; simp [eI]; try rfl)⟩, ⟨_, rfl, .rowE (zav fun b c hc => by simp [eB, AV.cells] at hc; subst hc; exact .s _) rfl⟩, trivial⟩ ⟨.lo _ (.ref _ (lo_P p).cells), .lo _ (.s _), .lo _ (.s _), .ptr 1 1 5 0 0 rfl, .own 4 4 1 _ _ rfl rfl, .lo _ (lo_FF _), .lo _ (.s _), .lo _ (.s _), trivial⟩⟩
   ·
    have hr2 : r2of p i = r1of p i ++ [gti p.b i] := by unfold r2of; rw [if_neg h74]
    have ht2 : tnL p (i + 1) = tnL p i := by
     rw [tnL_step hb hlt, decide_eq_false h74]
     have := tnL_get hb hlt
     exact set_gtiB (by rw [tnL_len hb xd]; exact hlt) this
    refine kw_weak (F' := [(1, .ref (eP p).cells), (4, eI p.c.length), (5, eI p.a.length), (6, .ptr 1 5 0 0), (7, .own 4 1 p.a.length), (8, eI i), (10, .own 5 2 (p.c.length + 2 * p.a.length + 1)), (26, eL (eL eF) p.a), (27, eI p.a.length), (28, eI i)]) (σ' := [.row z.n z.cs, .row 5 [.agg [.own 2 1 i, .s (.slice none 0 0), .own 3 1 i, eI ((p.c.length : Int) + p.a.length), eI 0]], .row 1 (((begT p).rows.take i).map (eL eF)), .row 1 (((begT p).bas.take i).map eI), .row 1 ((tnL p (i + 1)).map eB), .row 2 ((r2of p i).map eF)]) (kwk_st [0, 1, 2, 3, 4, 6] rfl xf ⟨⟨_, rfl, .rowE z.lo rfl⟩, ⟨_, rfl, bg_ren rfl rfl (.s _)⟩, ⟨_, rfl, .rowE (zcu _) rfl⟩, ⟨_, rfl, .rowE (zdb _) rfl⟩, ⟨_, rfl, .rowE (zav fun b c hc => by simp [eB, AV.cells] at hc; subst hc; exact .s _) (by rw [ht2])⟩, ⟨_, rfl, .rowE xb (by rw [hr2, List.map_append]; try rfl)⟩, trivial⟩ ⟨.lo _ (.ref _ (lo_P p).cells), .lo _ (.s _), .lo _ (.s _), .ptr 1 1 5 0 0 rfl, .own 4 4 1 _ _ rfl rfl, .lo _ (.s _), .own 6 5 2 _ _ rfl rfl, .lo _ (lo_FF _), .lo _ (.s _), .lo _ (.s _), trivial⟩) ?_
    have hl2 := r2of_len (p := p) (i := i) g1
    have hk2 : (p.c.length : Int) + (p.a.length : Int) + (i : Int) = ((p.c.length + p.a.length + i : Nat) : Int) := by omega
    have hxq : ((r2of p i).map eF)[p.c.length + p.a.length + i]? = some (eF (gti (r2of p i) (p.c.length + p.a.length + i))) := zbb xd
    have hrl := rows_len p
    have hbl := basB_len p
    refine kw_region (kops_s rfl (kops_s rfl (kops_s rfl (kops_op rfl rfl (zaa rfl) (zax rfl rfl rfl (IntWalk.i64_in _ xd)) (kops_s rfl (kops_op rfl rfl (zaa rfl) (zax rfl rfl rfl (IntWalk.i64_in _ xd)) (kops_op rfl rfl (zaa rfl) (zam rfl rfl (hw1) (zae rfl zap)) (kops_op rfl rfl (zaa rfl) (za0 rfl ts30 ti45 rfl rfl hk2 xd) (kops_eff rfl (zaa rfl) (zaj rfl ti45 rfl rfl rfl hxq rfl rfl xf xf) (kops_nil (zai ?_)))))))))))
    have hlB : (begR p i).length = p.c.length + 2 * p.a.length + 1 := by rw [begR_eq, List.length_set, hl2]
    refine kw_weak (F' := [(1, .ref (eP p).cells), (4, eI p.c.length), (5, eI p.a.length), (6, .ptr 1 5 0 0), (7, .own 4 1 p.a.length), (8, eI i), (10, .own 5 2 (p.c.length + 2 * p.a.length + 1)), (26, eL (eL eF) p.a), (27, eI p.a.length), (28, eI i)]) (σ' := [.row z.n z.cs, .row 5 [.agg [.own 2 1 i, .s (.slice none 0 0), .own 3 1 i, eI ((p.c.length : Int) + p.a.length), eI 0]], .row 1 (((begT p).rows.take i).map (eL eF)), .row 1 (((begT p).bas.take i).map eI), .row 1 ((tnL p (i + 1)).map eB), .row 2 ((begR p i).map eF)]) (kwk_st [0, 1, 2, 3, 4, 5] rfl xf ⟨⟨_, rfl, .rowE z.lo rfl⟩, ⟨_, rfl, bg_ren rfl rfl (.s _)⟩, ⟨_, rfl, .rowE (zcu _) rfl⟩, ⟨_, rfl, .rowE (zdb _) rfl⟩, ⟨_, rfl, .rowE (zav fun b c hc => by simp [eB, AV.cells] at hc; subst hc; exact .s _) rfl⟩, ⟨_, rfl, .rowE xb (by rw [begR_eq, List.map_set]; try rfl)⟩, trivial⟩ ⟨.lo _ (.ref _ (lo_P p).cells), .lo _ (.s _), .lo _ (.s _), .ptr 1 1 5 0 0 rfl, .own 4 4 1 _ _ rfl rfl, .lo _ (.s _), .own 5 5 2 _ _ rfl rfl, .lo _ (lo_FF _), .lo _ (.s _), .lo _ (.s _), trivial⟩) ?_
    refine kw_weak (kwk_froz (id := 5) rfl) ?_
    refine kw_weak (kwk_sl (d := 10) rfl rfl (by simp [hlB])) ?_
    refine kw_draw hmix ?_
    refine kdraw_ex ?_
    refine ex_s rfl (ex_s rfl (ex_s rfl (ex_s rfl (ex_f zc6 rfl (zbv rfl rfl (zaa rfl) (zbr rfl ta86 rfl rfl rfl rfl rfl) (ex_s rfl ?_))))))
    refine zay rfl rfl (zaa rfl) (fun _ => (lit1_slF rfl ts86 ti30 rfl rfl rfl rfl xa)) ?_
    refine zc9 rfl rfl (zaa rfl) (zbq rfl ts86 ti30 rfl xf rfl rfl (by simp [hrl]; omega) rfl xe xg xg) (fun _ h => zct h) ?_
    refine ex_s rfl (ex_s rfl (ex_f zdl rfl (zbv rfl rfl (zaa rfl) (zbr rfl ta22 rfl rfl rfl rfl rfl) (ex_s rfl (ex_s rfl (zay rfl rfl (zaa rfl) (fun _ => (zax rfl rfl rfl (IntWalk.i64_in _ xd))) (ex_s rfl (zay rfl rfl (zaa rfl) (fun _ => (zax rfl rfl rfl (IntWalk.i64_in _ xd))) (zay rfl rfl (zaa rfl) (fun _ => (lit1_sF rfl ts22 ti3 rfl rfl rfl rfl)) ?_)))))))))
    refine zc9 rfl rfl (zaa rfl) (zbq rfl ts22 ti3 rfl xf rfl rfl (by simp [hbl]; omega) rfl xe xg xg) (fun _ h => zct h) ?_
    refine ex_s rfl (ex_f zc6 rfl ?_)
    refine zci rfl (zaa rfl) (zaj rfl ti86 rfl rfl rfl rfl rfl rfl xf xf) (fun _ h => zbw h) ?_
    refine ex_s rfl (ex_f zdl rfl ?_)
    refine zci rfl (zaa rfl) (zaj rfl ti22 rfl rfl rfl rfl rfl rfl xf xf) (fun _ h => zbw h) ?_
    refine zcf xi ?_
    refine zbl (zai (kw_region (kops_op rfl rfl (zaa rfl) (zax rfl rfl rfl (IntWalk.i64_in _ xd)) (kops_s rfl (kops_nil (zai ?_))))))
    exact ⟨i + 1, by omega, by omega, kwk_st [0, 1, 6, 7, 4] rfl xf ⟨⟨_, rfl, .rowE z.lo rfl⟩, ⟨_, rfl, zc5 (.cons (.own _ _ _ _ _ rfl (by simp [hrl]; omega)) (.cons (.lo _ (.s _)) (.cons (.own _ _ _ _ _ rfl (by simp [hbl]; omega)) (.cons (.lo _ (.s _)) (.cons (.lo _ (.s _)) .nil)))))⟩, ⟨_, rfl, .rowE (zcu _) (by rw [zcq xd, rows_get hlt, List.map_append]; try rfl)⟩, ⟨_, rfl, .rowE (zdb _) (by rw [zcq xd, basB_get hlt, List.map_append]; simp [eI]; try rfl)⟩, ⟨_, rfl, .rowE (zav fun b c hc => by simp [eB, AV.cells] at hc; subst hc; exact .s _) rfl⟩, trivial⟩ ⟨.lo _ (.ref _ (lo_P p).cells), .lo _ (.s _), .lo _ (.s _), .ptr 1 1 5 0 0 rfl, .own 4 4 1 _ _ rfl rfl, .lo _ (lo_FF _), .lo _ (.s _), .lo _ (.s _), trivial⟩⟩
  ·
   rw [if_neg h45] at hr1
   refine kw_region ?_
   refine kops_opP rfl rfl (zaa rfl) (zbn rfl rfl rfl) (fun h53 => ?_) (fun h53 => ?_)
   all_goals refine kops_s rfl (kops_nil (zai ?_))
   all_goals (first | refine kw_true rfl ?_ | refine kw_false rfl ?_)
   all_goals (repeat (first | refine kw_seq ?_ | refine kw_skip ?_))
   ·
    rw [if_pos h53] at hr1
    refine kw_region (kops_s rfl (kops_s rfl (kops_s rfl (kops_op rfl rfl (zaa rfl) (zax rfl rfl rfl (IntWalk.i64_in _ xd)) (kops_op rfl rfl (zaa rfl) (zam rfl rfl (hwm) (zae rfl zap)) (kops_op rfl rfl (zaa rfl) (za0 rfl ts30 ti45 rfl rfl hkn xd) (kops_eff rfl (zaa rfl) (zaj rfl ti45 rfl rfl rfl hxn rfl rfl xf xf) (kops_nil (kw_seq ?_)))))))))
    refine kw_weak (F' := [(1, .ref (eP p).cells), (4, eI p.c.length), (5, eI p.a.length), (6, .ptr 1 5 0 0), (7, .own 4 1 p.a.length), (8, eI i), (10, .own 5 2 (p.c.length + 2 * p.a.length)), (26, eL (eL eF) p.a), (27, eI p.a.length), (28, eI i)]) (σ' := [.row z.n z.cs, .row 5 [.agg [.own 2 1 i, .s (.slice none 0 0), .own 3 1 i, eI ((p.c.length : Int) + p.a.length), eI 0]], .row 1 (((begT p).rows.take i).map (eL eF)), .row 1 (((begT p).bas.take i).map eI), .row 1 ((tnL p i).map eB), .row 2 ((r1of p i).map eF)]) (kwk_st [0, 1, 2, 3, 4, 5] rfl xf ⟨⟨_, rfl, .rowE z.lo rfl⟩, ⟨_, rfl, bg_ren rfl rfl (.s _)⟩, ⟨_, rfl, .rowE (zcu _) rfl⟩, ⟨_, rfl, .rowE (zdb _) rfl⟩, ⟨_, rfl, .rowE (zav fun b c hc => by simp [eB, AV.cells] at hc; subst hc; exact .s _) rfl⟩, ⟨_, rfl, .rowE xb (by rw [hr1, List.map_set]; try rfl)⟩, trivial⟩ ⟨.lo _ (.ref _ (lo_P p).cells), .lo _ (.s _), .lo _ (.s _), .ptr 1 1 5 0 0 rfl, .own 4 4 1 _ _ rfl rfl, .lo _ (.s _), .own 5 5 2 _ _ rfl rfl, .lo _ (lo_FF _), .lo _ (.s _), .lo _ (.s _), trivial⟩) ?_
    have hl1 := r1of_len g1
    have hl1m : ((r1of p i).map eF).length = p.c.length + 2 * p.a.length := by rw [List.length_map, hl1]
    refine kw_region (kops_s rfl (kops_f tf88_3 rfl (kops_l ta30 rfl (kops_s rfl (kops_op rfl rfl (zaa rfl) (zal rfl ts30 ti45 rfl rfl rfl hxb rfl) (kops_w ta45 ti45 rfl (kops_op rfl rfl (zaa rfl) (zco rfl ts30 ti45 rfl rfl xf xf rfl rfl rfl (.agg _ (zah (.s _) (zah (.s _) zak)))) ?_)))))))
    refine kops_op rfl rfl (zaa rfl) (zbq rfl ts30 ti45 rfl xf rfl rfl xk rfl xe xg xg) ?_
    refine kops_s rfl (kops_nil (kw_seq (kw_seq ?_)))
    rw [hl1m]
    refine kw_region (kops_f tf88_3 rfl (kops_l ta30 rfl (kops_s rfl (kops_op rfl rfl (zaa rfl) (zal rfl ts30 ti45 rfl rfl rfl hxb rfl) (kops_f tf45_0 rfl (kops_l ta3 rfl ?_))))))
    refine kops_opP rfl rfl (zaa rfl) (za2 rfl rfl rfl) (fun h74 => ?_) (fun h74 => ?_)
    all_goals refine kops_nil (zai ?_)
    all_goals (first | refine kw_true rfl ?_ | refine kw_false rfl ?_)
    all_goals (repeat (first | refine kw_seq ?_ | refine kw_skip ?_))
    ·
     have hr2 : r2of p i = (r1of p i ++ [gti p.b i]).map fneg := by unfold r2of; rw [if_pos h74]
     have ht2 : tnL p (i + 1) = (tnL p i).set i true := by rw [tnL_step hb hlt, decide_eq_true h74]
     have htl := tnL_len (p := p) (i := i) hb xd
     have hxt : ((tnL p i).map eB)[i]? = some (eB (gti (tnL p i) i)) := zbb xd
     generalize hl : r1of p i ++ [gti p.b i] = l at hr2
     have hll : l.length = p.c.length + 2 * p.a.length + 1 := by rw [← hl, List.length_append, hl1]; rfl
     have hlok : ∀ x ∈ l, x.ok := hlo l hl
     refine kw_region (kops_s rfl (kops_s rfl (kops_op rfl rfl (zaa rfl) (za0 rfl ts131 ti4 rfl rfl rfl xd) (kops_eff rfl (zaa rfl) (zaj rfl ti4 rfl rfl rfl hxt rfl rfl xf xf) (kops_nil (kw_seq (kw_region (kops_s rfl (kops_op rfl rfl (zaa rfl) (zc7 rfl ts30 rfl) (kops_s rfl (kops_nil (zai (kw_block ?_)))))))))))))
     refine kw_loops (S := Nat) (fun j => [(1, .ref (eP p).cells), (4, eI p.c.length), (5, eI p.a.length), (6, .ptr 1 5 0 0), (7, .own 4 1 p.a.length), (8, eI i), (10, .own 5 2 (p.c.length + 2 * p.a.length + 1)), (26, eL (eL eF) p.a), (27, eI p.a.length), (28, eI i), (79, eI ((p.c.length + 2 * p.a.length + 1 : Nat) : Int)), (80, eI j)]) (fun j => [.row z.n z.cs, .row 5 [.agg [.own 2 1 i, .s (.slice none 0 0), .own 3 1 i, eI ((p.c.length : Int) + p.a.length), eI 0]], .row 1 (((begT p).rows.take i).map (eL eF)), .row 1 (((begT p).bas.take i).map eI), .row 1 ((tnL p (i + 1)).map eB), .row 2 ((ngL l j).map eF)]) (fun j => j ≤ p.c.length + 2 * p.a.length + 1) (fun j => p.c.length + 2 * p.a.length + 1 - j) 0
      (kwk_st [0, 1, 2, 3, 4, 6] rfl xf ⟨⟨_, rfl, .rowE z.lo rfl⟩, ⟨_, rfl, bg_ren rfl rfl (.s _)⟩, ⟨_, rfl, .rowE (zcu _) rfl⟩, ⟨_, rfl, .rowE (zdb _) rfl⟩, ⟨_, rfl, .rowE (zav fun b c hc => by simp [eB, AV.cells] at hc; subst hc; exact .s _) (by rw [ht2, List.map_set]; try rfl)⟩, ⟨_, rfl, .rowE xb (by rw [← hl]; simp [ngL]; try rfl)⟩, trivial⟩ ⟨.lo _ (.ref _ (lo_P p).cells), .lo _ (.s _), .lo _ (.s _), .ptr 1 1 5 0 0 rfl, .own 4 4 1 _ _ rfl rfl, .lo _ (.s _), .own 6 5 2 _ _ rfl rfl, .lo _ (lo_FF _), .lo _ (.s _), .lo _ (.s _), .lo _ (.s _), .lo _ (.s _), trivial⟩) (Nat.zero_le _) (fun j hj => ?_)
     refine kw_seq (kw_region ?_)
     refine kops_opP rfl rfl (zaa rfl) (za2 rfl rfl rfl) (fun h81 => ?_) (fun h81 => ?_)
     all_goals refine kops_nil (kw_seq ?_)
     all_goals (first | refine kw_true rfl ?_ | refine kw_false rfl ?_)
     all_goals (repeat (first | refine kw_seq ?_ | refine kw_skip ?_ | refine kw_block ?_))
     ·
      have hjl : j < l.length := by omega
      have hxj : ((ngL l j).map eF)[j]? = some (eF (gti l j)) := by rw [← ngL_get hjl]; exact zbb (by rw [ngL_len]; exact hjl)
      have hjo := hlok _ (zds hjl)
      have hng := sneg_pf (P := P) (gti l j) ⟨hjo.1, hjo.2.1⟩
      refine kw_region (kops_s rfl (kops_s rfl (kops_nil (zai (kw_region (kops_s rfl (kops_s rfl (kops_s rfl (kops_s rfl (kops_op rfl rfl (zaa rfl) (za0 rfl ts30 ti45 rfl rfl rfl xd) (kops_op rfl rfl (zaa rfl) (za8 rfl ta45 ti45 rfl rfl rfl hxj rfl) (kops_op rfl rfl (zaa rfl) (zam rfl rfl (hng) (zae rfl zap)) (kops_op rfl rfl (zaa rfl) (za0 rfl ts30 ti45 rfl rfl rfl xd) (kops_eff rfl (zaa rfl) (zaj rfl ti45 rfl rfl rfl hxj rfl rfl xf xf) (kops_nil (zbl (zai (kw_region ?_))))))))))))))))))
      refine kops_op rfl rfl (zaa rfl) (zax rfl rfl rfl (IntWalk.i64_in _ xd)) (kops_s rfl (kops_nil (zai ?_)))
      exact ⟨j + 1, by omega, by omega, (kwk_st [0, 1, 2, 3, 4, 5] rfl xf ⟨⟨_, rfl, .rowE z.lo rfl⟩, ⟨_, rfl, bg_ren rfl rfl (.s _)⟩, ⟨_, rfl, .rowE (zcu _) rfl⟩, ⟨_, rfl, .rowE (zdb _) rfl⟩, ⟨_, rfl, .rowE (zav fun b c hc => by simp [eB, AV.cells] at hc; subst hc; exact .s _) rfl⟩, ⟨_, rfl, .rowE xb (by rw [ngL_step hjl, List.map_set]; try rfl)⟩, trivial⟩ ⟨.lo _ (.ref _ (lo_P p).cells), .lo _ (.s _), .lo _ (.s _), .ptr 1 1 5 0 0 rfl, .own 4 4 1 _ _ rfl rfl, .lo _ (.s _), .own 5 5 2 _ _ rfl rfl, .lo _ (lo_FF _), .lo _ (.s _), .lo _ (.s _), .lo _ (.s _), .lo _ (.s _), trivial⟩)⟩
     ·
      have ej : j = l.length := by omega
      have hng : ngL l j = r2of p i := by rw [hr2, ej]; simp [ngL]
      rw [hng]
      (refine kw_exit ?_; repeat (first | refine zcr ?_ | refine zbt ?_ | refine zbk rfl ?_ | refine zbl ?_ | refine zai ?_ | refine kw_seq ?_ | refine kw_skip ?_ | refine kw_block ?_))
      have hl2 := r2of_len (p := p) (i := i) g1
      have hk2 : (p.c.length : Int) + (p.a.length : Int) + (i : Int) = ((p.c.length + p.a.length + i : Nat) : Int) := by omega
      have hxq : ((r2of p i).map eF)[p.c.length + p.a.length + i]? = some (eF (gti (r2of p i) (p.c.length + p.a.length + i))) := zbb xd
      have hrl := rows_len p
      have hbl := basB_len p
      refine kw_region (kops_s rfl (kops_s rfl (kops_s rfl (kops_op rfl rfl (zaa rfl) (zax rfl rfl rfl (IntWalk.i64_in _ xd)) (kops_s rfl (kops_op rfl rfl (zaa rfl) (zax rfl rfl rfl (IntWalk.i64_in _ xd)) (kops_op rfl rfl (zaa rfl) (zam rfl rfl (hw1) (zae rfl zap)) (kops_op rfl rfl (zaa rfl) (za0 rfl ts30 ti45 rfl rfl hk2 xd) (kops_eff rfl (zaa rfl) (zaj rfl ti45 rfl rfl rfl hxq rfl rfl xf xf) (kops_nil (zai ?_)))))))))))
      have hlB : (begR p i).length = p.c.length + 2 * p.a.length + 1 := by rw [begR_eq, List.length_set, hl2]
      refine kw_weak (F' := [(1, .ref (eP p).cells), (4, eI p.c.length), (5, eI p.a.length), (6, .ptr 1 5 0 0), (7, .own 4 1 p.a.length), (8, eI i), (10, .own 5 2 (p.c.length + 2 * p.a.length + 1)), (26, eL (eL eF) p.a), (27, eI p.a.length), (28, eI i)]) (σ' := [.row z.n z.cs, .row 5 [.agg [.own 2 1 i, .s (.slice none 0 0), .own 3 1 i, eI ((p.c.length : Int) + p.a.length), eI 0]], .row 1 (((begT p).rows.take i).map (eL eF)), .row 1 (((begT p).bas.take i).map eI), .row 1 ((tnL p (i + 1)).map eB), .row 2 ((begR p i).map eF)]) (kwk_st [0, 1, 2, 3, 4, 5] rfl xf ⟨⟨_, rfl, .rowE z.lo rfl⟩, ⟨_, rfl, bg_ren rfl rfl (.s _)⟩, ⟨_, rfl, .rowE (zcu _) rfl⟩, ⟨_, rfl, .rowE (zdb _) rfl⟩, ⟨_, rfl, .rowE (zav fun b c hc => by simp [eB, AV.cells] at hc; subst hc; exact .s _) rfl⟩, ⟨_, rfl, .rowE xb (by rw [begR_eq, List.map_set]; try rfl)⟩, trivial⟩ ⟨.lo _ (.ref _ (lo_P p).cells), .lo _ (.s _), .lo _ (.s _), .ptr 1 1 5 0 0 rfl, .own 4 4 1 _ _ rfl rfl, .lo _ (.s _), .own 5 5 2 _ _ rfl rfl, .lo _ (lo_FF _), .lo _ (.s _), .lo _ (.s _), trivial⟩) ?_
      refine kw_weak (kwk_froz (id := 5) rfl) ?_
      refine kw_weak (kwk_sl (d := 10) rfl rfl (by simp [hlB])) ?_
      refine kw_draw hmix ?_
      refine kdraw_ex ?_
      refine ex_s rfl (ex_s rfl (ex_s rfl (ex_s rfl (ex_f zc6 rfl (zbv rfl rfl (zaa rfl) (zbr rfl ta86 rfl rfl rfl rfl rfl) (ex_s rfl ?_))))))
      refine zay rfl rfl (zaa rfl) (fun _ => (lit1_slF rfl ts86 ti30 rfl rfl rfl rfl xa)) ?_
      refine zc9 rfl rfl (zaa rfl) (zbq rfl ts86 ti30 rfl xf rfl rfl (by simp [hrl]; omega) rfl xe xg xg) (fun _ h => zct h) ?_
      refine ex_s rfl (ex_s rfl (ex_f zdl rfl (zbv rfl rfl (zaa rfl) (zbr rfl ta22 rfl rfl rfl rfl rfl) (ex_s rfl (ex_s rfl (zay rfl rfl (zaa rfl) (fun _ => (zax rfl rfl rfl (IntWalk.i64_in _ xd))) (ex_s rfl (zay rfl rfl (zaa rfl) (fun _ => (zax rfl rfl rfl (IntWalk.i64_in _ xd))) (zay rfl rfl (zaa rfl) (fun _ => (lit1_sF rfl ts22 ti3 rfl rfl rfl rfl)) ?_)))))))))
      refine zc9 rfl rfl (zaa rfl) (zbq rfl ts22 ti3 rfl xf rfl rfl (by simp [hbl]; omega) rfl xe xg xg) (fun _ h => zct h) ?_
      refine ex_s rfl (ex_f zc6 rfl ?_)
      refine zci rfl (zaa rfl) (zaj rfl ti86 rfl rfl rfl rfl rfl rfl xf xf) (fun _ h => zbw h) ?_
      refine ex_s rfl (ex_f zdl rfl ?_)
      refine zci rfl (zaa rfl) (zaj rfl ti22 rfl rfl rfl rfl rfl rfl xf xf) (fun _ h => zbw h) ?_
      refine zcf xi ?_
      refine zbl (zai (kw_region (kops_op rfl rfl (zaa rfl) (zax rfl rfl rfl (IntWalk.i64_in _ xd)) (kops_s rfl (kops_nil (zai ?_))))))
      exact ⟨i + 1, by omega, by omega, kwk_st [0, 1, 6, 7, 4] rfl xf ⟨⟨_, rfl, .rowE z.lo rfl⟩, ⟨_, rfl, zc5 (.cons (.own _ _ _ _ _ rfl (by simp [hrl]; omega)) (.cons (.lo _ (.s _)) (.cons (.own _ _ _ _ _ rfl (by simp [hbl]; omega)) (.cons (.lo _ (.s _)) (.cons (.lo _ (.s _)) .nil)))))⟩, ⟨_, rfl, .rowE (zcu _) (by rw [zcq xd, rows_get hlt, List.map_append]; try rfl)⟩, ⟨_, rfl, .rowE (zdb _) (by rw [zcq xd, basB_get hlt, List.map_append]; simp [eI]; try rfl)⟩, ⟨_, rfl, .rowE (zav fun b c hc => by simp [eB, AV.cells] at hc; subst hc; exact .s _) rfl⟩, trivial⟩ ⟨.lo _ (.ref _ (lo_P p).cells), .lo _ (.s _), .lo _ (.s _), .ptr 1 1 5 0 0 rfl, .own 4 4 1 _ _ rfl rfl, .lo _ (lo_FF _), .lo _ (.s _), .lo _ (.s _), trivial⟩⟩
    ·
     have hr2 : r2of p i = r1of p i ++ [gti p.b i] := by unfold r2of; rw [if_neg h74]
     have ht2 : tnL p (i + 1) = tnL p i := by
      rw [tnL_step hb hlt, decide_eq_false h74]
      have := tnL_get hb hlt
      exact set_gtiB (by rw [tnL_len hb xd]; exact hlt) this
     refine kw_weak (F' := [(1, .ref (eP p).cells), (4, eI p.c.length), (5, eI p.a.length), (6, .ptr 1 5 0 0), (7, .own 4 1 p.a.length), (8, eI i), (10, .own 5 2 (p.c.length + 2 * p.a.length + 1)), (26, eL (eL eF) p.a), (27, eI p.a.length), (28, eI i)]) (σ' := [.row z.n z.cs, .row 5 [.agg [.own 2 1 i, .s (.slice none 0 0), .own 3 1 i, eI ((p.c.length : Int) + p.a.length), eI 0]], .row 1 (((begT p).rows.take i).map (eL eF)), .row 1 (((begT p).bas.take i).map eI), .row 1 ((tnL p (i + 1)).map eB), .row 2 ((r2of p i).map eF)]) (kwk_st [0, 1, 2, 3, 4, 6] rfl xf ⟨⟨_, rfl, .rowE z.lo rfl⟩, ⟨_, rfl, bg_ren rfl rfl (.s _)⟩, ⟨_, rfl, .rowE (zcu _) rfl⟩, ⟨_, rfl, .rowE (zdb _) rfl⟩, ⟨_, rfl, .rowE (zav fun b c hc => by simp [eB, AV.cells] at hc; subst hc; exact .s _) (by rw [ht2])⟩, ⟨_, rfl, .rowE xb (by rw [hr2, List.map_append]; try rfl)⟩, trivial⟩ ⟨.lo _ (.ref _ (lo_P p).cells), .lo _ (.s _), .lo _ (.s _), .ptr 1 1 5 0 0 rfl, .own 4 4 1 _ _ rfl rfl, .lo _ (.s _), .own 6 5 2 _ _ rfl rfl, .lo _ (lo_FF _), .lo _ (.s _), .lo _ (.s _), trivial⟩) ?_
     have hl2 := r2of_len (p := p) (i := i) g1
     have hk2 : (p.c.length : Int) + (p.a.length : Int) + (i : Int) = ((p.c.length + p.a.length + i : Nat) : Int) := by omega
     have hxq : ((r2of p i).map eF)[p.c.length + p.a.length + i]? = some (eF (gti (r2of p i) (p.c.length + p.a.length + i))) := zbb xd
     have hrl := rows_len p
     have hbl := basB_len p
     refine kw_region (kops_s rfl (kops_s rfl (kops_s rfl (kops_op rfl rfl (zaa rfl) (zax rfl rfl rfl (IntWalk.i64_in _ xd)) (kops_s rfl (kops_op rfl rfl (zaa rfl) (zax rfl rfl rfl (IntWalk.i64_in _ xd)) (kops_op rfl rfl (zaa rfl) (zam rfl rfl (hw1) (zae rfl zap)) (kops_op rfl rfl (zaa rfl) (za0 rfl ts30 ti45 rfl rfl hk2 xd) (kops_eff rfl (zaa rfl) (zaj rfl ti45 rfl rfl rfl hxq rfl rfl xf xf) (kops_nil (zai ?_)))))))))))
     have hlB : (begR p i).length = p.c.length + 2 * p.a.length + 1 := by rw [begR_eq, List.length_set, hl2]
     refine kw_weak (F' := [(1, .ref (eP p).cells), (4, eI p.c.length), (5, eI p.a.length), (6, .ptr 1 5 0 0), (7, .own 4 1 p.a.length), (8, eI i), (10, .own 5 2 (p.c.length + 2 * p.a.length + 1)), (26, eL (eL eF) p.a), (27, eI p.a.length), (28, eI i)]) (σ' := [.row z.n z.cs, .row 5 [.agg [.own 2 1 i, .s (.slice none 0 0), .own 3 1 i, eI ((p.c.length : Int) + p.a.length), eI 0]], .row 1 (((begT p).rows.take i).map (eL eF)), .row 1 (((begT p).bas.take i).map eI), .row 1 ((tnL p (i + 1)).map eB), .row 2 ((begR p i).map eF)]) (kwk_st [0, 1, 2, 3, 4, 5] rfl xf ⟨⟨_, rfl, .rowE z.lo rfl⟩, ⟨_, rfl, bg_ren rfl rfl (.s _)⟩, ⟨_, rfl, .rowE (zcu _) rfl⟩, ⟨_, rfl, .rowE (zdb _) rfl⟩, ⟨_, rfl, .rowE (zav fun b c hc => by simp [eB, AV.cells] at hc; subst hc; exact .s _) rfl⟩, ⟨_, rfl, .rowE xb (by rw [begR_eq, List.map_set]; try rfl)⟩, trivial⟩ ⟨.lo _ (.ref _ (lo_P p).cells), .lo _ (.s _), .lo _ (.s _), .ptr 1 1 5 0 0 rfl, .own 4 4 1 _ _ rfl rfl, .lo _ (.s _), .own 5 5 2 _ _ rfl rfl, .lo _ (lo_FF _), .lo _ (.s _), .lo _ (.s _), trivial⟩) ?_
     refine kw_weak (kwk_froz (id := 5) rfl) ?_
     refine kw_weak (kwk_sl (d := 10) rfl rfl (by simp [hlB])) ?_
     refine kw_draw hmix ?_
     refine kdraw_ex ?_
     refine ex_s rfl (ex_s rfl (ex_s rfl (ex_s rfl (ex_f zc6 rfl (zbv rfl rfl (zaa rfl) (zbr rfl ta86 rfl rfl rfl rfl rfl) (ex_s rfl ?_))))))
     refine zay rfl rfl (zaa rfl) (fun _ => (lit1_slF rfl ts86 ti30 rfl rfl rfl rfl xa)) ?_
     refine zc9 rfl rfl (zaa rfl) (zbq rfl ts86 ti30 rfl xf rfl rfl (by simp [hrl]; omega) rfl xe xg xg) (fun _ h => zct h) ?_
     refine ex_s rfl (ex_s rfl (ex_f zdl rfl (zbv rfl rfl (zaa rfl) (zbr rfl ta22 rfl rfl rfl rfl rfl) (ex_s rfl (ex_s rfl (zay rfl rfl (zaa rfl) (fun _ => (zax rfl rfl rfl (IntWalk.i64_in _ xd))) (ex_s rfl (zay rfl rfl (zaa rfl) (fun _ => (zax rfl rfl rfl (IntWalk.i64_in _ xd))) (zay rfl rfl (zaa rfl) (fun _ => (lit1_sF rfl ts22 ti3 rfl rfl rfl rfl)) ?_)))))))))
     refine zc9 rfl rfl (zaa rfl) (zbq rfl ts22 ti3 rfl xf rfl rfl (by simp [hbl]; omega) rfl xe xg xg) (fun _ h => zct h) ?_
     refine ex_s rfl (ex_f zc6 rfl ?_)
     refine zci rfl (zaa rfl) (zaj rfl ti86 rfl rfl rfl rfl rfl rfl xf xf) (fun _ h => zbw h) ?_
     refine ex_s rfl (ex_f zdl rfl ?_)
     refine zci rfl (zaa rfl) (zaj rfl ti22 rfl rfl rfl rfl rfl rfl xf xf) (fun _ h => zbw h) ?_
     refine zcf xi ?_
     refine zbl (zai (kw_region (kops_op rfl rfl (zaa rfl) (zax rfl rfl rfl (IntWalk.i64_in _ xd)) (kops_s rfl (kops_nil (zai ?_))))))
     exact ⟨i + 1, by omega, by omega, kwk_st [0, 1, 6, 7, 4] rfl xf ⟨⟨_, rfl, .rowE z.lo rfl⟩, ⟨_, rfl, zc5 (.cons (.own _ _ _ _ _ rfl (by simp [hrl]; omega)) (.cons (.lo _ (.s _)) (.cons (.own _ _ _ _ _ rfl (by simp [hbl]; omega)) (.cons (.lo _ (.s _)) (.cons (.lo _ (.s _)) .nil)))))⟩, ⟨_, rfl, .rowE (zcu _) (by rw [zcq xd, rows_get hlt, List.map_append]; try rfl)⟩, ⟨_, rfl, .rowE (zdb _) (by rw [zcq xd, basB_get hlt, List.map_append]; simp [eI]; try rfl)⟩, ⟨_, rfl, .rowE (zav fun b c hc => by simp [eB, AV.cells] at hc; subst hc; exact .s _) rfl⟩, trivial⟩ ⟨.lo _ (.ref _ (lo_P p).cells), .lo _ (.s _), .lo _ (.s _), .ptr 1 1 5 0 0 rfl, .own 4 4 1 _ _ rfl rfl, .lo _ (lo_FF _), .lo _ (.s _), .lo _ (.s _), trivial⟩⟩
   ·
    rw [if_neg h53] at hr1
    refine kw_weak (F' := [(1, .ref (eP p).cells), (4, eI p.c.length), (5, eI p.a.length), (6, .ptr 1 5 0 0), (7, .own 4 1 p.a.length), (8, eI i), (10, .own 5 2 (p.c.length + 2 * p.a.length)), (26, eL (eL eF) p.a), (27, eI p.a.length), (28, eI i)]) (σ' := [.row z.n z.cs, .row 5 [.agg [.own 2 1 i, .s (.slice none 0 0), .own 3 1 i, eI ((p.c.length : Int) + p.a.length), eI 0]], .row 1 (((begT p).rows.take i).map (eL eF)), .row 1 (((begT p).bas.take i).map eI), .row 1 ((tnL p i).map eB), .row 2 ((r1of p i).map eF)]) (kwk_st [0, 1, 2, 3, 4, 5] rfl xf ⟨⟨_, rfl, .rowE z.lo rfl⟩, ⟨_, rfl, bg_ren rfl rfl (.s _)⟩, ⟨_, rfl, .rowE (zcu _) rfl⟩, ⟨_, rfl, .rowE (zdb _) rfl⟩, ⟨_, rfl, .rowE (zav fun b c hc => by simp [eB, AV.cells] at hc; subst hc; exact .s _) rfl⟩, ⟨_, rfl, .rowE xb (by rw [hr1])⟩, trivial⟩ ⟨.lo _ (.ref _ (lo_P p).cells), .lo _ (.s _), .lo _ (.s _), .ptr 1 1 5 0 0 rfl, .own 4 4 1 _ _ rfl rfl, .lo _ (.s _), .own 5 5 2 _ _ rfl rfl, .lo _ (lo_FF _), .lo _ (.s _), .lo _ (.s _), trivial⟩) ?_
    have hl1 := r1of_len g1
    have hl1m : ((r1of p i).map eF).length = p.c.length + 2 * p.a.length := by rw [List.length_map, hl1]
    refine kw_region (kops_s rfl (kops_f tf88_3 rfl (kops_l ta30 rfl (kops_s rfl (kops_op rfl rfl (zaa rfl) (zal rfl ts30 ti45 rfl rfl rfl hxb rfl) (kops_w ta45 ti45 rfl (kops_op rfl rfl (zaa rfl) (zco rfl ts30 ti45 rfl rfl xf xf rfl rfl rfl (.agg _ (zah (.s _) (zah (.s _) zak)))) ?_)))))))
    refine kops_op rfl rfl (zaa rfl) (zbq rfl ts30 ti45 rfl xf rfl rfl xk rfl xe xg xg) ?_
    refine kops_s rfl (kops_nil (kw_seq (kw_seq ?_)))
    rw [hl1m]
    refine kw_region (kops_f tf88_3 rfl (kops_l ta30 rfl (kops_s rfl (kops_op rfl rfl (zaa rfl) (zal rfl ts30 ti45 rfl rfl rfl hxb rfl) (kops_f tf45_0 rfl (kops_l ta3 rfl ?_))))))
    refine kops_opP rfl rfl (zaa rfl) (za2 rfl rfl rfl) (fun h74 => ?_) (fun h74 => ?_)
    all_goals refine kops_nil (zai ?_)
    all_goals (first | refine kw_true rfl ?_ | refine kw_false rfl ?_)
    all_goals (repeat (first | refine kw_seq ?_ | refine kw_skip ?_))
    ·
     have hr2 : r2of p i = (r1of p i ++ [gti p.b i]).map fneg := by unfold r2of; rw [if_pos h74]
     have ht2 : tnL p (i + 1) = (tnL p i).set i true := by rw [tnL_step hb hlt, decide_eq_true h74]
     have htl := tnL_len (p := p) (i := i) hb xd
     have hxt : ((tnL p i).map eB)[i]? = some (eB (gti (tnL p i) i)) := zbb xd
     generalize hl : r1of p i ++ [gti p.b i] = l at hr2
     have hll : l.length = p.c.length + 2 * p.a.length + 1 := by rw [← hl, List.length_append, hl1]; rfl
     have hlok : ∀ x ∈ l, x.ok := hlo l hl
     refine kw_region (kops_s rfl (kops_s rfl (kops_op rfl rfl (zaa rfl) (za0 rfl ts131 ti4 rfl rfl rfl xd) (kops_eff rfl (zaa rfl) (zaj rfl ti4 rfl rfl rfl hxt rfl rfl xf xf) (kops_nil (kw_seq (kw_region (kops_s rfl (kops_op rfl rfl (zaa rfl) (zc7 rfl ts30 rfl) (kops_s rfl (kops_nil (zai (kw_block ?_)))))))))))))
     refine kw_loops (S := Nat) (fun j => [(1, .ref (eP p).cells), (4, eI p.c.length), (5, eI p.a.length), (6, .ptr 1 5 0 0), (7, .own 4 1 p.a.length), (8, eI i), (10, .own 5 2 (p.c.length + 2 * p.a.length + 1)), (26, eL (eL eF) p.a), (27, eI p.a.length), (28, eI i), (79, eI ((p.c.length + 2 * p.a.length + 1 : Nat) : Int)), (80, eI j)]) (fun j => [.row z.n z.cs, .row 5 [.agg [.own 2 1 i, .s (.slice none 0 0), .own 3 1 i, eI ((p.c.length : Int) + p.a.length), eI 0]], .row 1 (((begT p).rows.take i).map (eL eF)), .row 1 (((begT p).bas.take i).map eI), .row 1 ((tnL p (i + 1)).map eB), .row 2 ((ngL l j).map eF)]) (fun j => j ≤ p.c.length + 2 * p.a.length + 1) (fun j => p.c.length + 2 * p.a.length + 1 - j) 0
      (kwk_st [0, 1, 2, 3, 4, 6] rfl xf ⟨⟨_, rfl, .rowE z.lo rfl⟩, ⟨_, rfl, bg_ren rfl rfl (.s _)⟩, ⟨_, rfl, .rowE (zcu _) rfl⟩, ⟨_, rfl, .rowE (zdb _) rfl⟩, ⟨_, rfl, .rowE (zav fun b c hc => by simp [eB, AV.cells] at hc; subst hc; exact .s _) (by rw [ht2, List.map_set]; try rfl)⟩, ⟨_, rfl, .rowE xb (by rw [← hl]; simp [ngL]; try rfl)⟩, trivial⟩ ⟨.lo _ (.ref _ (lo_P p).cells), .lo _ (.s _), .lo _ (.s _), .ptr 1 1 5 0 0 rfl, .own 4 4 1 _ _ rfl rfl, .lo _ (.s _), .own 6 5 2 _ _ rfl rfl, .lo _ (lo_FF _), .lo _ (.s _), .lo _ (.s _), .lo _ (.s _), .lo _ (.s _), trivial⟩) (Nat.zero_le _) (fun j hj => ?_)
     refine kw_seq (kw_region ?_)
     refine kops_opP rfl rfl (zaa rfl) (za2 rfl rfl rfl) (fun h81 => ?_) (fun h81 => ?_)
     all_goals refine kops_nil (kw_seq ?_)
     all_goals (first | refine kw_true rfl ?_ | refine kw_false rfl ?_)
     all_goals (repeat (first | refine kw_seq ?_ | refine kw_skip ?_ | refine kw_block ?_))
     ·
      have hjl : j < l.length := by omega
      have hxj : ((ngL l j).map eF)[j]? = some (eF (gti l j)) := by rw [← ngL_get hjl]; exact zbb (by rw [ngL_len]; exact hjl)
      have hjo := hlok _ (zds hjl)
      have hng := sneg_pf (P := P) (gti l j) ⟨hjo.1, hjo.2.1⟩
      refine kw_region (kops_s rfl (kops_s rfl (kops_nil (zai (kw_region (kops_s rfl (kops_s rfl (kops_s rfl (kops_s rfl (kops_op rfl rfl (zaa rfl) (za0 rfl ts30 ti45 rfl rfl rfl xd) (kops_op rfl rfl (zaa rfl) (za8 rfl ta45 ti45 rfl rfl rfl hxj rfl) (kops_op rfl rfl (zaa rfl) (zam rfl rfl (hng) (zae rfl zap)) (kops_op rfl rfl (zaa rfl) (za0 rfl ts30 ti45 rfl rfl rfl xd) (kops_eff rfl (zaa rfl) (zaj rfl ti45 rfl rfl rfl hxj rfl rfl xf xf) (kops_nil (zbl (zai (kw_region ?_))))))))))))))))))
      refine kops_op rfl rfl (zaa rfl) (zax rfl rfl rfl (IntWalk.i64_in _ xd)) (kops_s rfl (kops_nil (zai ?_)))
      exact ⟨j + 1, by omega, by omega, (kwk_st [0, 1, 2, 3, 4, 5] rfl xf ⟨⟨_, rfl, .rowE z.lo rfl⟩, ⟨_, rfl, bg_ren rfl rfl (.s _)⟩, ⟨_, rfl, .rowE (zcu _) rfl⟩, ⟨_, rfl, .rowE (zdb _) rfl⟩, ⟨_, rfl, .rowE (zav fun b c hc => by simp [eB, AV.cells] at hc; subst hc; exact .s _) rfl⟩, ⟨_, rfl, .rowE xb (by rw [ngL_step hjl, List.map_set]; try rfl)⟩, trivial⟩ ⟨.lo _ (.ref _ (lo_P p).cells), .lo _ (.s _), .lo _ (.s _), .ptr 1 1 5 0 0 rfl, .own 4 4 1 _ _ rfl rfl, .lo _ (.s _), .own 5 5 2 _ _ rfl rfl, .lo _ (lo_FF _), .lo _ (.s _), .lo _ (.s _), .lo _ (.s _), .lo _ (.s _), trivial⟩)⟩
     ·
      have ej : j = l.length := by omega
      have hng : ngL l j = r2of p i := by rw [hr2, ej]; simp [ngL]
      rw [hng]
      (refine kw_exit ?_; repeat (first | refine zcr ?_ | refine zbt ?_ | refine zbk rfl ?_ | refine zbl ?_ | refine zai ?_ | refine kw_seq ?_ | refine kw_skip ?_ | refine kw_block ?_))
      have hl2 := r2of_len (p := p) (i := i) g1
      have hk2 : (p.c.length : Int) + (p.a.length : Int) + (i : Int) = ((p.c.length + p.a.length + i : Nat) : Int) := by omega
      have hxq : ((r2of p i).map eF)[p.c.length + p.a.length + i]? = some (eF (gti (r2of p i) (p.c.length + p.a.length + i))) := zbb xd
      have hrl := rows_len p
      have hbl := basB_len p
      refine kw_region (kops_s rfl (kops_s rfl (kops_s rfl (kops_op rfl rfl (zaa rfl) (zax rfl rfl rfl (IntWalk.i64_in _ xd)) (kops_s rfl (kops_op rfl rfl (zaa rfl) (zax rfl rfl rfl (IntWalk.i64_in _ xd)) (kops_op rfl rfl (zaa rfl) (zam rfl rfl (hw1) (zae rfl zap)) (kops_op rfl rfl (zaa rfl) (za0 rfl ts30 ti45 rfl rfl hk2 xd) (kops_eff rfl (zaa rfl) (zaj rfl ti45 rfl rfl rfl hxq rfl rfl xf xf) (kops_nil (zai ?_)))))))))))
      have hlB : (begR p i).length = p.c.length + 2 * p.a.length + 1 := by rw [begR_eq, List.length_set, hl2]
      refine kw_weak (F' := [(1, .ref (eP p).cells), (4, eI p.c.length), (5, eI p.a.length), (6, .ptr 1 5 0 0), (7, .own 4 1 p.a.length), (8, eI i), (10, .own 5 2 (p.c.length + 2 * p.a.length + 1)), (26, eL (eL eF) p.a), (27, eI p.a.length), (28, eI i)]) (σ' := [.row z.n z.cs, .row 5 [.agg [.own 2 1 i, .s (.slice none 0 0), .own 3 1 i, eI ((p.c.length : Int) + p.a.length), eI 0]], .row 1 (((begT p).rows.take i).map (eL eF)), .row 1 (((begT p).bas.take i).map eI), .row 1 ((tnL p (i + 1)).map eB), .row 2 ((begR p i).map eF)]) (kwk_st [0, 1, 2, 3, 4, 5] rfl xf ⟨⟨_, rfl, .rowE z.lo rfl⟩, ⟨_, rfl, bg_ren rfl rfl (.s _)⟩, ⟨_, rfl, .rowE (zcu _) rfl⟩, ⟨_, rfl, .rowE (zdb _) rfl⟩, ⟨_, rfl, .rowE (zav fun b c hc => by simp [eB, AV.cells] at hc; subst hc; exact .s _) rfl⟩, ⟨_, rfl, .rowE xb (by rw [begR_eq, List.map_set]; try rfl)⟩, trivial⟩ ⟨.lo _ (.ref _ (lo_P p).cells), .lo _ (.s _), .lo _ (.s _), .ptr 1 1 5 0 0 rfl, .own 4 4 1 _ _ rfl rfl, .lo _ (.s _), .own 5 5 2 _ _ rfl rfl, .lo _ (lo_FF _), .lo _ (.s _), .lo _ (.s _), trivial⟩) ?_
      refine kw_weak (kwk_froz (id := 5) rfl) ?_
      refine kw_weak (kwk_sl (d := 10) rfl rfl (by simp [hlB])) ?_
      refine kw_draw hmix ?_
      refine kdraw_ex ?_
      refine ex_s rfl (ex_s rfl (ex_s rfl (ex_s rfl (ex_f zc6 rfl (zbv rfl rfl (zaa rfl) (zbr rfl ta86 rfl rfl rfl rfl rfl) (ex_s rfl ?_))))))
      refine zay rfl rfl (zaa rfl) (fun _ => (lit1_slF rfl ts86 ti30 rfl rfl rfl rfl xa)) ?_
      refine zc9 rfl rfl (zaa rfl) (zbq rfl ts86 ti30 rfl xf rfl rfl (by simp [hrl]; omega) rfl xe xg xg) (fun _ h => zct h) ?_
      refine ex_s rfl (ex_s rfl (ex_f zdl rfl (zbv rfl rfl (zaa rfl) (zbr rfl ta22 rfl rfl rfl rfl rfl) (ex_s rfl (ex_s rfl (zay rfl rfl (zaa rfl) (fun _ => (zax rfl rfl rfl (IntWalk.i64_in _ xd))) (ex_s rfl (zay rfl rfl (zaa rfl) (fun _ => (zax rfl rfl rfl (IntWalk.i64_in _ xd))) (zay rfl rfl (zaa rfl) (fun _ => (lit1_sF rfl ts22 ti3 rfl rfl rfl rfl)) ?_)))))))))
      refine zc9 rfl rfl (zaa rfl) (zbq rfl ts22 ti3 rfl xf rfl rfl (by simp [hbl]; omega) rfl xe xg xg) (fun _ h => zct h) ?_
      refine ex_s rfl (ex_f zc6 rfl ?_)
      refine zci rfl (zaa rfl) (zaj rfl ti86 rfl rfl rfl rfl rfl rfl xf xf) (fun _ h => zbw h) ?_
      refine ex_s rfl (ex_f zdl rfl ?_)
      refine zci rfl (zaa rfl) (zaj rfl ti22 rfl rfl rfl rfl rfl rfl xf xf) (fun _ h => zbw h) ?_
      refine zcf xi ?_
      refine zbl (zai (kw_region (kops_op rfl rfl (zaa rfl) (zax rfl rfl rfl (IntWalk.i64_in _ xd)) (kops_s rfl (kops_nil (zai ?_))))))
      exact ⟨i + 1, by omega, by omega, kwk_st [0, 1, 6, 7, 4] rfl xf ⟨⟨_, rfl, .rowE z.lo rfl⟩, ⟨_, rfl, zc5 (.cons (.own _ _ _ _ _ rfl (by simp [hrl]; omega)) (.cons (.lo _ (.s _)) (.cons (.own _ _ _ _ _ rfl (by simp [hbl]; omega)) (.cons (.lo _ (.s _)) (.cons (.lo _ (.s _)) .nil)))))⟩, ⟨_, rfl, .rowE (zcu _) (by rw [zcq xd, rows_get hlt, List.map_append]; try rfl)⟩, ⟨_, rfl, .rowE (zdb _) (by rw [zcq xd, basB_get hlt, List.map_append]; simp [eI]; try rfl)⟩, ⟨_, rfl, .rowE (zav fun b c hc => by simp [eB, AV.cells] at hc; subst hc; exact .s _) rfl⟩, trivial⟩ ⟨.lo _ (.ref _ (lo_P p).cells), .lo _ (.s _), .lo _ (.s _), .ptr 1 1 5 0 0 rfl, .own 4 4 1 _ _ rfl rfl, .lo _ (lo_FF _), .lo _ (.s _), .lo _ (.s _), trivial⟩⟩
    ·
     have hr2 : r2of p i = r1of p i ++ [gti p.b i] := by unfold r2of; rw [if_neg h74]
     have ht2 : tnL p (i + 1) = tnL p i := by
      rw [tnL_step hb hlt, decide_eq_false h74]
      have := tnL_get hb hlt
      exact set_gtiB (by rw [tnL_len hb xd]; exact hlt) this
     refine kw_weak (F' := [(1, .ref (eP p).cells), (4, eI p.c.length), (5, eI p.a.length), (6, .ptr 1 5 0 0), (7, .own 4 1 p.a.length), (8, eI i), (10, .own 5 2 (p.c.length + 2 * p.a.length + 1)), (26, eL (eL eF) p.a), (27, eI p.a.length), (28, eI i)]) (σ' := [.row z.n z.cs, .row 5 [.agg [.own 2 1 i, .s (.slice none 0 0), .own 3 1 i, eI ((p.c.length : Int) + p.a.length), eI 0]], .row 1 (((begT p).rows.take i).map (eL eF)), .row 1 (((begT p).bas.take i).map eI), .row 1 ((tnL p (i + 1)).map eB), .row 2 ((r2of p i).map eF)]) (kwk_st [0, 1, 2, 3, 4, 6] rfl xf ⟨⟨_, rfl, .rowE z.lo rfl⟩, ⟨_, rfl, bg_ren rfl rfl (.s _)⟩, ⟨_, rfl, .rowE (zcu _) rfl⟩, ⟨_, rfl, .rowE (zdb _) rfl⟩, ⟨_, rfl, .rowE (zav fun b c hc => by simp [eB, AV.cells] at hc; subst hc; exact .s _) (by rw [ht2])⟩, ⟨_, rfl, .rowE xb (by rw [hr2, List.map_append]; try rfl)⟩, trivial⟩ ⟨.lo _ (.ref _ (lo_P p).cells), .lo _ (.s _), .lo _ (.s _), .ptr 1 1 5 0 0 rfl, .own 4 4 1 _ _ rfl rfl, .lo _ (.s _), .own 6 5 2 _ _ rfl rfl, .lo _ (lo_FF _), .lo _ (.s _), .lo _ (.s _), trivial⟩) ?_
     have hl2 := r2of_len (p := p) (i := i) g1
     have hk2 : (p.c.length : Int) + (p.a.length : Int) + (i : Int) = ((p.c.length + p.a.length + i : Nat) : Int) := by omega
     have hxq : ((r2of p i).map eF)[p.c.length + p.a.length + i]? = some (eF (gti (r2of p i) (p.c.length + p.a.length + i))) := zbb xd
     have hrl := rows_len p
     have hbl := basB_len p
     refine kw_region (kops_s rfl (kops_s rfl (kops_s rfl (kops_op rfl rfl (zaa rfl) (zax rfl rfl rfl (IntWalk.i64_in _ xd)) (kops_s rfl (kops_op rfl rfl (zaa rfl) (zax rfl rfl rfl (IntWalk.i64_in _ xd)) (kops_op rfl rfl (zaa rfl) (zam rfl rfl (hw1) (zae rfl zap)) (kops_op rfl rfl (zaa rfl) (za0 rfl ts30 ti45 rfl rfl hk2 xd) (kops_eff rfl (zaa rfl) (zaj rfl ti45 rfl rfl rfl hxq rfl rfl xf xf) (kops_nil (zai ?_)))))))))))
     have hlB : (begR p i).length = p.c.length + 2 * p.a.length + 1 := by rw [begR_eq, List.length_set, hl2]
     refine kw_weak (F' := [(1, .ref (eP p).cells), (4, eI p.c.length), (5, eI p.a.length), (6, .ptr 1 5 0 0), (7, .own 4 1 p.a.length), (8, eI i), (10, .own 5 2 (p.c.length + 2 * p.a.length + 1)), (26, eL (eL eF) p.a), (27, eI p.a.length), (28, eI i)]) (σ' := [.row z.n z.cs, .row 5 [.agg [.own 2 1 i, .s (.slice none 0 0), .own 3 1 i, eI ((p.c.length : Int) + p.a.length), eI 0]], .row 1 (((begT p).rows.take i).map (eL eF)), .row 1 (((begT p).bas.take i).map eI), .row 1 ((tnL p (i + 1)).map eB), .row 2 ((begR p i).map eF)]) (kwk_st [0, 1, 2, 3, 4, 5] rfl xf ⟨⟨_, rfl, .rowE z.lo rfl⟩, ⟨_, rfl, bg_ren rfl rfl (.s _)⟩, ⟨_, rfl, .rowE (zcu _) rfl⟩, ⟨_, rfl, .rowE (zdb _) rfl⟩, ⟨_, rfl, .rowE (zav fun b c hc => by simp [eB, AV.cells] at hc; subst hc; exact .s _) rfl⟩, ⟨_, rfl, .rowE xb (by rw [begR_eq, List.map_set]; try rfl)⟩, trivial⟩ ⟨.lo _ (.ref _ (lo_P p).cells), .lo _ (.s _), .lo _ (.s _), .ptr 1 1 5 0 0 rfl, .own 4 4 1 _ _ rfl rfl, .lo _ (.s _), .own 5 5 2 _ _ rfl rfl, .lo _ (lo_FF _), .lo _ (.s _), .lo _ (.s _), trivial⟩) ?_
     refine kw_weak (kwk_froz (id := 5) rfl) ?_
     refine kw_weak (kwk_sl (d := 10) rfl rfl (by simp [hlB])) ?_
     refine kw_draw hmix ?_
     refine kdraw_ex ?_
     refine ex_s rfl (ex_s rfl (ex_s rfl (ex_s rfl (ex_f zc6 rfl (zbv rfl rfl (zaa rfl) (zbr rfl ta86 rfl rfl rfl rfl rfl) (ex_s rfl ?_))))))
     refine zay rfl rfl (zaa rfl) (fun _ => (lit1_slF rfl ts86 ti30 rfl rfl rfl rfl xa)) ?_
     refine zc9 rfl rfl (zaa rfl) (zbq rfl ts86 ti30 rfl xf rfl rfl (by simp [hrl]; omega) rfl xe xg xg) (fun _ h => zct h) ?_
     refine ex_s rfl (ex_s rfl (ex_f zdl rfl (zbv rfl rfl (zaa rfl) (zbr rfl ta22 rfl rfl rfl rfl rfl) (ex_s rfl (ex_s rfl (zay rfl rfl (zaa rfl) (fun _ => (zax rfl rfl rfl (IntWalk.i64_in _ xd))) (ex_s rfl (zay rfl rfl (zaa rfl) (fun _ => (zax rfl rfl rfl (IntWalk.i64_in _ xd))) (zay rfl rfl (zaa rfl) (fun _ => (lit1_sF rfl ts22 ti3 rfl rfl rfl rfl)) ?_)))))))))
     refine zc9 rfl rfl (zaa rfl) (zbq rfl ts22 ti3 rfl xf rfl rfl (by simp [hbl]; omega) rfl xe xg xg) (fun _ h => zct h) ?_
     refine ex_s rfl (ex_f zc6 rfl ?_)
     refine zci rfl (zaa rfl) (zaj rfl ti86 rfl rfl rfl rfl rfl rfl xf xf) (fun _ h => zbw h) ?_
     refine ex_s rfl (ex_f zdl rfl ?_)
     refine zci rfl (zaa rfl) (zaj rfl ti22 rfl rfl rfl rfl rfl rfl xf xf) (fun _ h => zbw h) ?_
     refine zcf xi ?_
     refine zbl (zai (kw_region (kops_op rfl rfl (zaa rfl) (zax rfl rfl rfl (IntWalk.i64_in _ xd)) (kops_s rfl (kops_nil (zai ?_))))))
     exact ⟨i + 1, by omega, by omega, kwk_st [0, 1, 6, 7, 4] rfl xf ⟨⟨_, rfl, .rowE z.lo rfl⟩, ⟨_, rfl, zc5 (.cons (.own _ _ _ _ _ rfl (by simp [hrl]; omega)) (.cons (.lo _ (.s _)) (.cons (.own _ _ _ _ _ rfl (by simp [hbl]; omega)) (.cons (.lo _ (.s _)) (.cons (.lo _ (.s _)) .nil)))))⟩, ⟨_, rfl, .rowE (zcu _) (by rw [zcq xd, rows_get hlt, List.map_append]; try rfl)⟩, ⟨_, rfl, .rowE (zdb _) (by rw [zcq xd, basB_get hlt, List.map_append]; simp [eI]; try rfl)⟩, ⟨_, rfl, .rowE (zav fun b c hc => by simp [eB, AV.cells] at hc; subst hc; exact .s _) rfl⟩, trivial⟩ ⟨.lo _ (.ref _ (lo_P p).cells), .lo _ (.s _), .lo _ (.s _), .ptr 1 1 5 0 0 rfl, .own 4 4 1 _ _ rfl rfl, .lo _ (lo_FF _), .lo _ (.s _), .lo _ (.s _), trivial⟩⟩
 ·
  have ei : i = p.a.length := by omega
  subst ei
  (refine kw_exit ?_; repeat (first | refine zcr ?_ | refine zbt ?_ | refine zbk rfl ?_ | refine zbl ?_ | refine zai ?_ | refine kw_seq ?_ | refine kw_skip ?_ | refine kw_block ?_))
  refine kw_region (kops_s rfl (kops_s rfl (kops_s rfl (kops_s rfl (kops_nil (zai ?_))))))
  (refine kw_ret ?_; repeat (first | refine zbc ?_ | refine zbe ?_))
  have hrl := rows_len p
  have hbl := basB_len p
  refine ⟨.inr rfl, ?_, _, .cons _ _ _ _ (.tmp 2 _ rfl) (.cons _ _ _ _ (.tmp 3 _ rfl) .nil), rfl⟩
  simp only [stB, tnL, hrl, hbl, Nat.sub_self, List.replicate_zero, List.append_nil, List.cons_append, List.nil_append]
  rw [List.take_of_length_le xd, List.take_of_length_le xd, List.take_of_length_le (by rw [turnL_len]; omega)]
  rfl
end K1
end Go.Proofs.YtllkbjcemecmjaaGreat.Aw
end
section
namespace Go.Proofs.YtllkbjcemecmjaaGreat.Aw
open Go Go.RowKit Go.Proofs
variable {P : Program} [IsP P]
noncomputable def runC (vars : Nat) (t : Tb) : Tb × Int := open Classical in if h : ∃ r, ∃ f, runE vars f t = some r then Classical.choose h else (t, -1)
theorem runC_of {vars : Nat} {t : Tb} (h : ∃ f r, runE vars f t = some r) : ∃ f, runE vars f t = some (runC vars t) := by
 have h' : ∃ r, ∃ f, runE vars f t = some r := by obtain ⟨f, r, h⟩ := h; exact ⟨r, f, h⟩
 unfold runC
 rw [dif_pos h']
 exact Classical.choose_spec h'
theorem prcF_last : ∀ (f i : Nat) (t : Tb), (prcF f i t).last = t.last
 | 0, _, _ => rfl
 | f + 1, i, t => by
  unfold prcF
  split
  ·
   rfl
  ·
   dsimp only
   split
   ·
    exact prcF_last f (i + 1) t
   ·
    exact prcF_last f (i + 1) _
theorem prcE_last (c : List Fr) (t : Tb) : (prcE c t).last = t.last := prcF_last _ _ _
theorem runE_e {vars : Nat} {f : Nat} {t t' : Tb} {k : Int} (h : runE vars f t = some (t', k)) (he : t'.e = 0) : t.e = 0 := by
 refine Classical.byContradiction fun hne => ?_
 cases f with
 | zero => cases h
 | succ f =>
  unfold runE at h
  rw [show runS vars t = .inl (t, -1) by unfold runS; rw [if_pos hne]] at h
  cases h
  exact hne he
theorem runE_k {vars : Nat} : ∀ {f : Nat} {t t' : Tb} {k : Int}, runE vars f t = some (t', k) → 0 ≤ k → k < vars
 | 0, _, _, _, h, _ => by cases h
 | f + 1, t, t', k, h, hk => by
  unfold runE at h
  cases hr : runS vars t with
  | inr t1 => rw [hr] at h; exact runE_k (f := f) h hk
  | inl r =>
   rw [hr] at h
   cases h
   unfold runS at hr
   by_cases h0 : t.e ≠ 0
   ·
    rw [if_pos h0] at hr; cases hr; omega
   rw [if_neg h0] at hr
   dsimp only at hr
   split at hr
   ·
    cases hr; omega
   ·
    split at hr
    ·
     cases hr; omega
    ·
     split at hr
     ·
      rename_i h1 _ _
      obtain ⟨q, e1, e2, _⟩ := firstAt_get (p := negF) (l := t.cost.take vars) xd
      rw [List.length_take] at e2
      cases hr
      omega
     ·
      cases hr
def solZ : Sol := ⟨0, [], [], [], ⟨0, 0⟩⟩
def rayF (t : Tb) (n k : Nat) : Nat → List Fr
 | 0 => if k < n then (zbf n).set k (Fr.of 1) else zbf n
 | i + 1 => if gti t.bas i < n then (rayF t n k i).set (gti t.bas i).toNat (fneg (gti (gti t.rows i) k)) else rayF t n k i
theorem rayF_len (t : Tb) (n k : Nat) : ∀ i, (rayF t n k i).length = n
 | 0 => by unfold rayF; split <;> simp [zbf]
 | i + 1 => by unfold rayF; split <;> simp [rayF_len t n k i]
noncomputable def solE (p : LP) : Sol × Int :=
 let n := p.c.length
 let m := p.a.length
 let r1 := (runC (n + m) (prcE (cost1 n m) (begT p))).1
 if r1.e ≠ 0 then (solZ, r1.e) else
 if (gti r1.cost (n + 2 * m)).n ≠ 0 then (⟨2, [], (mulTE r1 (turnL p) 1).1, [], ⟨0, 0⟩⟩, (mulTE r1 (turnL p) 1).2) else
 let t2 := drvF m 0 r1
 if t2.e ≠ 0 then (solZ, t2.e) else
 let r2 := runC (n + m) (prcE (p.c ++ zbf (2 * m + 1)) t2)
 if r2.1.e ≠ 0 then (solZ, r2.1.e) else
 if 0 ≤ r2.2 then (⟨3, valsE r2.1 n, [], rayF r2.1 n r2.2.toNat m, ⟨0, 0⟩⟩, 0) else
 (⟨1, valsE r2.1 n, (mulTE r2.1 (turnL p) 0).1, [], (dotE p.c (valsE r2.1 n)).fr⟩, if (mulTE r2.1 (turnL p) 0).2 ≠ 0 then (mulTE r2.1 (turnL p) 0).2 else (dotE p.c (valsE r2.1 n)).e)
def zS : Zc := ⟨6, [.agg [eI 0, .s (.slice none 0 0), .s (.slice none 0 0), .s (.slice none 0 0), eI 0, eI 0]], xb⟩
theorem cut_weak {N : Nat} {F F' : Frm} {σ X : List Ob} (h0 : 0 < σ.length) (hσ : ∀ ob ∈ σ, LoOb σ.length ob) (hF : FrLo F σ.length F') : Weak N F (σ ++ X) F' σ := (kwk_cut h0 hσ hF).weak
theorem lo_Sol (s : Sol) : Lo 0 (eSol s) := .agg _ (zah (.s _) (zah (lo_Fs _) (zah (lo_Fs _) (zah (lo_Fs _) (zah (.s _) (zah (.s _) zak))))))
theorem stB_lo (z : Zc) (t : Tb) : ∀ ob ∈ [Ob.row 5 [.agg [.own 1 1 t.rows.length, .s (.slice none 0 0), .own 2 1 t.bas.length, eI t.last, eI 0]], .row 1 (t.rows.map (eL eF)), .row 1 (t.bas.map eI), .row z.n z.cs], LoOb 4 ob := by
 intro ob hob
 simp only [List.mem_cons, List.mem_nil_iff, or_false] at hob
 rcases hob with rfl | rfl | rfl | rfl
 ·
  intro x hx c hc
  simp only [List.mem_singleton] at hx
  subst hx
  simp only [AV.cells, List.mem_cons, List.mem_nil_iff, or_false] at hc
  rcases hc with rfl | rfl | rfl | rfl | rfl
  ·
   exact .own _ _ _ xf
  ·
   exact .s _
  ·
   exact .own _ _ _ xf
  ·
   exact .s _
  ·
   exact .s _
 ·
  exact zde t
 ·
  exact bas_lo t
 ·
  intro e he c hc; exact lo_up (z.lo e he c hc)
theorem cost1_eq (n m : Nat) : cost1 n m = (zbf (n + m) ++ List.replicate m (Fr.of 1)) ++ [Fr.of 0] := rfl
set_option maxHeartbeats 8000000 in
theorem solved_pf {n m : Nat} (p : LP) (h : LpOk p n m) : Pure P 68 [eP p] (.tup [eSol (solE p).1, eI (solE p).2]) := by
 have hb := K1.begin_call (P := P) zS p h
 have hn0 := h.cn
 have hm0 := h.am
 have hsm : m ≤ 12 ∧ n + 2 * m ≤ 40 := by have := h.hn; have := h.hm; omega
 have hnm : 1 ≤ n ∧ n ≤ 12 ∧ 1 ≤ m ∧ m ≤ 12 := by have := h.hn; have := h.hm; omega
 subst hn0 hm0
 obtain ⟨c1l, c1o⟩ := cost1_ok (n := p.c.length) (m := p.a.length)
 obtain ⟨b1, b2⟩ := begT_ok h (cost := cost1 p.c.length p.a.length) c1l c1o
 have hp1 := K4.priced_call (P := P) zS (.s (.slice none 0 0)) (begT p) (cost1 p.c.length p.a.length) (b1.sh hsm) rfl
 have hT1 : (prcE (cost1 p.c.length p.a.length) (begT p)).e = 0 → TbOk p.a.length (p.c.length + 2 * p.a.length) (prcE (cost1 p.c.length p.a.length) (begT p)) ∧ Bl.Can p.a.length (p.c.length + 2 * p.a.length) (zdd (prcE (cost1 p.c.length p.a.length) (begT p))) := fun he => by
  obtain ⟨g1, g2, _⟩ := prcE_ok b1 b2 rfl he
  exact ⟨g1, g2⟩
 have hl1 : (prcE (cost1 p.c.length p.a.length) (begT p)).last = ((p.c.length + p.a.length : Nat) : Int) := by rw [prcE_last]; show (p.c.length : Int) + p.a.length = _; omega
 obtain ⟨f1, hf1⟩ := runC_of (run_any (vars := p.c.length + p.a.length) xd hT1)
 have hI1 : (prcE (cost1 p.c.length p.a.length) (begT p)).e = 0 → I1 p.c.length p.a.length (prcE (cost1 p.c.length p.a.length) (begT p)) := fun he => by
  obtain ⟨g1, g2, _, _, _, g6⟩ := prcE_ok b1 b2 rfl he
  exact ⟨g1, g2, by rw [hl1]; omega, g6⟩
 have hbm := h.bm
 have HI : solE p = solE p := rfl
 conv at HI => rhs; unfold solE
 dsimp only at HI
 generalize solE p = R at HI ⊢
 refine zcl (by rw [IsP.eq (P := P)]; exact Tryz.func68) rfl rfl rfl rfl rfl xa xc (by simp only [argF]; rfl) ?_
 refine zag (zab (zaf rfl rfl (zaa rfl) (zb3 rfl rfl rfl rfl) (zaf rfl rfl (zaa rfl) (za1 rfl ti92 rfl rfl) (zac rfl (zad (zag ?_))))))
 refine zbg (zbm (id := 0) rfl) (zbg (zcb (d := 1) rfl rfl rfl) ?_)
 refine zb2 hmix ?_
 refine zbx xi ?_
 refine qx_f tf88_0 rfl (qx_l ta30 rfl (zby rfl rfl (zaa rfl) (zao rfl ts30 rfl) (qx_f tf88_1 rfl (qx_l ta86 rfl (zby rfl rfl (zaa rfl) (zao rfl ts86 rfl) (qx_s rfl (qx_s rfl ?_)))))))
 refine zdg ?_
 refine zag ?_
 refine zbg (F' := [(1, .ref (eP p).cells), (2, .ptr 0 6 0 0), (4, eI p.c.length), (5, eI p.a.length)]) (σ' := [.row zS.n zS.cs]) (zb8 [1] xf ⟨⟨_, rfl, .rowE zS.lo rfl⟩, trivial⟩ ⟨.lo _ (.ref _ (lo_P p).cells), .ptr 1 0 6 0 0 rfl, .lo _ (.s _), .lo _ (.s _), trivial⟩) ?_
 refine zab (zcx ta88 ti88 rfl (zaf rfl rfl (zaa rfl) (zbs rfl rfl hb (zae rfl zap)) (zac rfl (zac rfl (zac rfl (zac rfl (zac rfl (zad (zag ?_)))))))))
 refine zbg (zbm (id := 4) rfl) (zbg (wk_sl (d := 7) rfl rfl (by simp [turnL_len, hbm])) ?_)
 refine zbg (F' := [(1, .ref (eP p).cells), (2, .ptr 3 6 0 0), (4, eI p.c.length), (5, eI p.a.length), (6, .ptr 0 5 0 0), (7, eL eB (turnL p))]) (σ' := [.row 5 [.agg [.own 1 1 (begT p).rows.length, .s (.slice none 0 0), .own 2 1 (begT p).bas.length, eI (begT p).last, eI 0]], .row 1 ((begT p).rows.map (eL eF)), .row 1 ((begT p).bas.map eI), .row zS.n zS.cs]) (zb8 [1, 2, 3, 0] xf ⟨⟨_, rfl, zc5 (.cons (.own _ _ _ _ _ rfl rfl) (.cons (.lo _ (.s _)) (.cons (.own _ _ _ _ _ rfl rfl) (.cons (.lo _ (.s _)) (.cons (.lo _ (.s _)) .nil)))))⟩, ⟨_, rfl, .rowE (zde _) rfl⟩, ⟨_, rfl, .rowE (bas_lo _) rfl⟩, ⟨_, rfl, .rowE zS.lo rfl⟩, trivial⟩ ⟨.lo _ (.ref _ (lo_P p).cells), .ptr 0 3 6 0 0 rfl, .lo _ (.s _), .lo _ (.s _), .ptr 1 0 5 0 0 rfl, .lo _ (zan fun _ => .s _), trivial⟩) ?_
 have hz1 := zeros_po (P := P) (p.c.length + p.a.length) xd
 rw [show ((p.c.length + p.a.length : Nat) : Int) = (p.c.length : Int) + (p.a.length : Int) by omega] at hz1
 have ho1 := onesF_po (P := P) p.a.length xd
 have hzl : ((zbf (p.c.length + p.a.length)).map eF).length = p.c.length + p.a.length := by simp [zbf]
 have hol : ((List.replicate p.a.length (Fr.of 1)).map eF).length = p.a.length := by simp
 have hzl2 : (zbf (p.c.length + p.a.length)).length = p.c.length + p.a.length := by simp [zbf]
 have hc1m : ((zbf (p.c.length + p.a.length)).map eF ++ (List.replicate p.a.length (Fr.of 1)).map eF) ++ [eF (Fr.of 0)] = (cost1 p.c.length p.a.length).map eF := by simp [cost1_eq]
 refine zab (zac rfl (zac rfl (zac rfl (zaf rfl rfl (zaa rfl) (zax rfl rfl rfl (IntWalk.i64_in _ xd)) (zaf rfl rfl (zaa rfl) (does_callO rfl rfl (hz1) (zae rfl zap)) (zaf rfl rfl (zaa rfl) (zam rfl rfl ((swhole_pf 1)) (zae rfl zap)) (zaf rfl rfl (zaa rfl) (zco rfl ts30 ti45 rfl rfl xf xf rfl rfl rfl (.agg _ (zah (.s _) (zah (.s _) zak)))) (zac rfl (zaf rfl rfl (zaa rfl) (does_callO rfl rfl (ho1) (zae rfl (zae rfl zap))) ?_)))))))))
 refine zaf rfl rfl (zaa rfl) (zbq rfl ts30 ti45 rfl xf rfl rfl xk rfl xe xg xg) ?_
 refine zaf rfl rfl (zaa rfl) (zam rfl rfl ((swhole_pf 0)) (zae rfl zap)) (zaf rfl rfl (zaa rfl) (zco rfl ts30 ti45 rfl rfl xf xf rfl rfl rfl (.agg _ (zah (.s _) (zah (.s _) zak)))) ?_)
 refine zaf rfl rfl (zaa rfl) (zbq rfl ts30 ti45 rfl xf rfl rfl xk rfl xe xg xg) ?_
 refine za6 (zbm (id := 7) rfl) (za6 (wk_sl (d := 43) rfl rfl (by simp; omega)) (za6 (cut_weak (σ := [.row 5 [.agg [.own 1 1 (begT p).rows.length, .s (.slice none 0 0), .own 2 1 (begT p).bas.length, eI (begT p).last, eI 0]], .row 1 ((begT p).rows.map (eL eF)), .row 1 ((begT p).bas.map eI), .row zS.n zS.cs]) (F' := [(1, .ref (eP p).cells), (2, .ptr 3 6 0 0), (4, eI p.c.length), (5, eI p.a.length), (6, .ptr 0 5 0 0), (7, eL eB (turnL p)), (31, .ptr 0 5 0 0), (43, eL eF (cost1 p.c.length p.a.length))]) xo (stB_lo zS (begT p)) ⟨⟨rfl, lo_up (.ref _ (lo_P p).cells)⟩, ⟨rfl, .ptr _ _ _ _ xo⟩, ⟨rfl, lo_up (.s _)⟩, ⟨rfl, lo_up (.s _)⟩, ⟨rfl, .ptr _ _ _ _ xo⟩, ⟨rfl, lo_up (zan fun _ => .s _)⟩, ⟨rfl, .ptr _ _ _ _ xo⟩, ⟨congrArg AV.sl hc1m, lo_up (lo_Fs _)⟩, trivial⟩) ?_))
 refine zaf rfl rfl (zaa rfl) (zbs rfl rfl hp1 (zae rfl (zae rfl zap))) (zad (zag ?_))
 generalize prcE (cost1 p.c.length p.a.length) (begT p) = T1 at hp1 hT1 hl1 hf1 hI1 HI ⊢
 generalize hr1 : runC (p.c.length + p.a.length) T1 = r1 at hf1 HI
 obtain ⟨t1, k1⟩ := r1
 have hrun := K4.run_call (P := P) zS hsm (vars := p.c.length + p.a.length) xd T1 t1 f1 k1 (fun he => (hT1 he).1) hf1
 rw [← hl1] at hrun
 dsimp only at HI
 refine zab (zac rfl (zac rfl (zac rfl (zbz tf138_3 rfl (zaf rfl rfl (zaa rfl) (zaq rfl ta3 rfl rfl rfl rfl rfl) (zaf rfl rfl (zaa rfl) (zbs rfl rfl hrun (zae rfl (zae rfl zap))) (zad (zag (zag (zab (zac rfl (zac rfl (zbz zdu rfl (zaf rfl rfl (zaa rfl) (zaq rfl ta33 rfl rfl rfl rfl rfl) ?_))))))))))))))
 refine za3 rfl rfl (zaa rfl) (zbp rfl rfl rfl) (fun h55 => ?_) (fun h55 => ?_)
 all_goals refine zad (zai ?_)
 all_goals (first | refine za5 rfl ?_ | refine zau rfl ?_)
 all_goals (repeat (first | refine zag ?_ | refine zar ?_))
 ·
  rw [if_pos h55] at HI
  refine zb2 hmix ?_
  refine zc1 ?_
  refine zay rfl rfl (zaa rfl) (fun _ => (za9 rfl ti92 tp92 rfl rfl)) (ex_s rfl (ex_s rfl (ex_f zdu rfl (zbv rfl rfl (zaa rfl) (zbr rfl ta33 rfl rfl rfl rfl rfl) ?_))))
  refine zci rfl (zaa rfl) (zaj rfl ti92 rfl rfl rfl rfl rfl rfl xf xf) (fun _ h => zbw h) ?_
  refine ex_s rfl ?_
  refine zcf xi ?_
  refine zai ?_
  (refine za7 ?_; repeat (first | refine zbc ?_ | refine zbe ?_))
  subst HI
  exact post_cs (N := 0) (.inr rfl) ta92 ti92 rfl rfl rfl rfl rfl rfl (.agg _ _ rfl (zbd.cons (.refl _) (zbd.cons .nil (zbd.cons .nil (zbd.cons .nil (zbd.cons (.refl _) (zbd.cons (.refl _) zbd.nil)))))).2) (.refl _)
 rw [if_neg h55] at HI
 have e1 : t1.e = 0 := Decidable.not_not.1 h55
 have hj1 : I1 p.c.length p.a.length t1 := runE_inv (I1 p.c.length p.a.length) (fun _ _ => I1.step) f1 T1 t1 k1 (hI1 (runE_e hf1 e1)) hf1 e1
 clear hrun hp1 hT1 hI1 hf1 hr1 hb hz1 ho1 hzl hol hzl2 hc1m b1 b2
 have hsh1 := hj1.ok.sh hsm
 have hcl := hj1.ok.cl
 have hla := hj1.last
 have hxc : (t1.cost.map eF)[p.c.length + 2 * p.a.length]? = some (eF (gti t1.cost (p.c.length + 2 * p.a.length))) := zbb xd
 have hkc : ((t1.cost.length : Nat) : Int) - 1 = ((p.c.length + 2 * p.a.length : Nat) : Int) := by omega
 refine zb2 hmix ?_
 refine zbx xi ?_
 refine qx_s rfl (qx_s rfl (qx_f tf138_1 rfl (zby rfl rfl (zaa rfl) (zaq rfl ta30 rfl rfl rfl rfl rfl) (qx_s rfl (qx_s rfl (qx_f tf138_1 rfl (zby rfl rfl (zaa rfl) (zaq rfl ta30 rfl rfl rfl rfl rfl) (zby rfl rfl (zaa rfl) (zao rfl ts30 rfl) (zby rfl rfl (zaa rfl) (zdx rfl rfl rfl (IntWalk.i64_in _ xd)) (zby rfl rfl (zaa rfl) (zal rfl ts30 ti45 rfl rfl hkc hxc rfl) (qx_f tf45_0 rfl (qx_l ta3 rfl ?_))))))))))))
 refine qx_opP rfl rfl (zaa rfl) (zbp rfl rfl rfl) (fun h74 => ?_) (fun h74 => ?_)
 all_goals refine zdg ?_
 all_goals refine zai ?_
 all_goals (first | refine za5 rfl ?_ | refine zau rfl ?_)
 all_goals (repeat (first | refine zag ?_ | refine zar ?_))
 ·
  rw [if_pos h74] at HI
  have hmu := K4.mult_call (P := P) zS t1 hsh1 (turnL p) (by rw [turnL_len, hbm]) 1 xd
  refine zab (zac rfl (zac rfl (zaf rfl rfl (zaa rfl) (zbs rfl rfl hmu (zae rfl (zae rfl (zae rfl zap)))) (zac rfl (zad (zag ?_))))))
  refine zb2 hmix ?_
  refine zc1 ?_
  refine ex_s rfl (zay rfl rfl (zaa rfl) (fun _ => (za9 rfl ti92 tp92 rfl rfl)) (ex_s rfl (ex_s rfl (ex_f zdu rfl (zbv rfl rfl (zaa rfl) (zbr rfl ta33 rfl rfl rfl rfl rfl) ?_)))))
  refine zci rfl (zaa rfl) (zaj rfl ti92 rfl rfl rfl rfl rfl rfl xf xf) (fun _ h => zbw h) ?_
  refine ex_s rfl ?_
  refine zcf xi ?_
  refine zai ?_
  (refine za7 ?_; repeat (first | refine zbc ?_ | refine zbe ?_))
  subst HI
  exact post_cs (N := 0) (.inr rfl) ta92 ti92 rfl rfl rfl rfl rfl rfl (.agg _ _ rfl (zbd.cons (.refl _) (zbd.cons .nil (zbd.cons (.refl _) (zbd.cons .nil (zbd.cons (.refl _) (zbd.cons (.refl _) zbd.nil)))))).2) (.refl _)
 rw [if_neg h74] at HI
 have hJ : J1 p.c.length p.a.length t1 := ⟨hj1.ok, Can.toR hj1.can, hj1.last, art_zero hj1 (Decidable.not_not.1 h74)⟩
 clear hj1
 generalize hd : drvF p.a.length 0 t1 = t2 at HI
 have hbl1 := hJ.ok.bl
 refine zab (zac rfl (zac rfl (zbz zdl rfl (zaf rfl rfl (zaa rfl) (zaq rfl ta22 rfl rfl rfl rfl rfl) (zaf rfl rfl (zaa rfl) (zc7 rfl ts22 rfl) (zac rfl (zad (zai (zas ?_)))))))))
 refine zb1 (S := Nat × Tb) (fun s => [(1, .ref (eP p).cells), (2, .ptr 3 6 0 0), (4, eI p.c.length), (5, eI p.a.length), (6, .ptr 0 5 0 0), (7, eL eB (turnL p)), (87, .own 2 1 t1.bas.length), (88, eI t1.bas.length), (89, eI s.1)]) (fun s => [.row 5 [tbC s.2 s.2.e], .row 1 (s.2.rows.map (eL eF)), .row 1 (s.2.bas.map eI), .row zS.n zS.cs]) (fun s => s.1 ≤ p.a.length ∧ J1 p.c.length p.a.length s.2 ∧ s.2.e = 0 ∧ t2 = drvF (p.a.length - s.1) s.1 s.2) (fun s => p.a.length - s.1) (0, t1)
  (wk_sub _ ⟨rfl, rfl, rfl, rfl, rfl, rfl, rfl, rfl, rfl, trivial⟩) ⟨Nat.zero_le _, hJ, e1, hd.symm⟩ (fun s hs => ?_)
 obtain ⟨i, s⟩ := s
 obtain ⟨hi, hJs, hse, hd2⟩ := hs
 dsimp only at hi hJs hse hd2 ⊢
 clear hd hJ hsh1 hcl hla hxc hkc h74 h55
 have hsh := hJs.ok.sh hsm
 have hsb := hJs.ok.bl
 have hsr := hJs.ok.rl
 have hsl : s.last = ((p.c.length + p.a.length : Nat) : Int) := by rw [hJs.last]; omega
 refine zag (zab ?_)
 refine za3 rfl rfl (zaa rfl) (za2 rfl rfl rfl) (fun h90 => ?_) (fun h90 => ?_)
 all_goals refine zad (zag ?_)
 all_goals (first | refine za5 rfl ?_ | refine zau rfl ?_)
 all_goals (repeat (first | refine zag ?_ | refine zar ?_ | refine zas ?_))
 ·
  have hlt : i < p.a.length := by omega
  have hrow := hsh.row hlt
  have hxb : (s.bas.map eI)[i]? = some (eI (gti s.bas i)) := zbb xd
  have hxr : (s.rows.map (eL eF))[i]? = some (eL eF (gti s.rows i)) := zbb xd
  rw [show p.a.length - i = (p.a.length - (i + 1)) + 1 by omega] at hd2
  unfold drvF at hd2
  refine zab (zac rfl (zaf rfl rfl (zaa rfl) (za0 rfl ts22 ti3 rfl rfl rfl xd) (zaf rfl rfl (zaa rfl) (zaq rfl ta3 rfl rfl rfl hxb rfl) (zac rfl (zac rfl (zad (zag (zag (zab (zac rfl (zac rfl (zac rfl (zbz tf138_3 rfl (zaf rfl rfl (zaa rfl) (zaq rfl ta3 rfl rfl rfl rfl rfl) ?_))))))))))))))
  refine za3 rfl rfl (zaa rfl) (za2 rfl rfl rfl) (fun h99 => ?_) (fun h99 => ?_)
  all_goals refine zad (zai ?_)
  all_goals (first | refine za5 rfl ?_ | refine zau rfl ?_)
  all_goals (repeat (first | refine zag ?_ | refine zar ?_))
  ·
   rw [if_pos h99] at hd2
   (refine zb9 ?_; repeat (first | refine zcr ?_ | refine zbt ?_ | refine zbk rfl ?_ | refine zbl ?_ | refine zai ?_ | refine zag ?_ | refine zar ?_ | refine zas ?_))
   refine zab (zaf rfl rfl (zaa rfl) (zax rfl rfl rfl (IntWalk.i64_in _ xd)) (zac rfl (zad (zai ?_))))
   exact ⟨(i + 1, s), ⟨by show i + 1 ≤ p.a.length; omega, hJs, hse, hd2⟩, by show p.a.length - (i + 1) < p.a.length - i; omega, wk_sub _ ⟨rfl, rfl, rfl, rfl, rfl, rfl, rfl, rfl, rfl, trivial⟩⟩
  ·
   rw [if_neg h99] at hd2
   dsimp only at hd2
   rw [show s.last.toNat = p.c.length + p.a.length by omega] at hd2
   have hix : Pure P 73 [.sl (((gti s.rows i).map eF).take (p.c.length + p.a.length)), .fn 91 []] (eI (zc2 nzF ((gti s.rows i).take (p.c.length + p.a.length)))) := by
    rw [← List.map_take]
    exact indexFF_pf _ [] nzF _ lo_F (.fn _ _ xo) (fun a _ => solved1_pf a)
   have hfge := firstAt_ge nzF ((gti s.rows i).take (p.c.length + p.a.length))
   have hfl : 0 ≤ zc2 nzF ((gti s.rows i).take (p.c.length + p.a.length)) → zc2 nzF ((gti s.rows i).take (p.c.length + p.a.length)) < ((p.c.length + p.a.length : Nat) : Int) := fun h => by
    obtain ⟨q, e1, e2, _⟩ := firstAt_get h
    rw [List.length_take] at e2
    omega
   refine zb2 hmix ?_
   refine zbx xi ?_
   refine qx_s rfl (qx_s rfl (qx_f zc6 rfl (zby rfl rfl (zaa rfl) (zaq rfl ta86 rfl rfl rfl rfl rfl) (qx_s rfl (zby rfl rfl (zaa rfl) (za0 rfl ts86 ti30 rfl rfl rfl xd) (zby rfl rfl (zaa rfl) (zaq rfl ta30 rfl rfl rfl hxr rfl) (qx_s rfl (qx_s rfl (qx_f tf138_3 rfl (zby rfl rfl (zaa rfl) (zaq rfl ta3 rfl rfl rfl rfl rfl) ?_))))))))))
   refine zby rfl rfl (zaa rfl) (does_slice_h rfl ts30 ti45 rfl rfl hsl (by simp; omega) (by intro e he; simp at he; obtain ⟨_, _, rfl⟩ := he; rfl)) ?_
   refine zby rfl rfl (zaa rfl) (zam rfl rfl (hix) (zae rfl (zae rfl zap))) (qx_s rfl ?_)
   refine zdg ?_
   refine zag ?_
   generalize zc2 nzF ((gti s.rows i).take (p.c.length + p.a.length)) = kk at hix hd2 hfge hfl ⊢
   refine zab (zac rfl ?_)
   refine za3 rfl rfl (zaa rfl) (zcp rfl rfl rfl) (fun h114 => ?_) (fun h114 => ?_)
   all_goals refine zad (zai ?_)
   all_goals (first | refine za5 rfl ?_ | refine zau rfl ?_)
   all_goals (repeat (first | refine zag ?_ | refine zai ?_ | refine zar ?_ | refine zbl ?_))
   ·
    rw [if_neg xd] at hd2
    obtain ⟨q, rfl⟩ : ∃ q : Nat, kk = q := ⟨kk.toNat, by omega⟩
    have hq := hfl h114
    rw [show (q : Int).toNat = q from rfl] at hd2
    have hpv := K4.pivot_call (P := P) zS s hsh hse i q hlt xd
    have hJp := hJs.piv hse hlt (j := q) xd xd
    rw [hse]
    refine zab (zac rfl (zac rfl (zac rfl (zaf rfl rfl (zaa rfl) (zbs rfl rfl hpv (zae rfl (zae rfl (zae rfl zap)))) (zad (zag ?_))))))
    generalize pivE i q s = s2 at hpv hd2 hJp ⊢
    refine zab (zac rfl (zac rfl (zbz zdu rfl (zaf rfl rfl (zaa rfl) (zaq rfl ta33 rfl rfl rfl rfl rfl) ?_))))
    refine za3 rfl rfl (zaa rfl) (zbp rfl rfl rfl) (fun h123 => ?_) (fun h123 => ?_)
    all_goals refine zad (zai ?_)
    all_goals (first | refine za5 rfl ?_ | refine zau rfl ?_)
    all_goals (repeat (first | refine zag ?_ | refine zai ?_ | refine zar ?_ | refine zbl ?_))
    ·
     rw [if_pos h123] at hd2
     subst hd2
     rw [if_pos h123] at HI
     refine zb2 hmix ?_
     refine zc1 ?_
     refine zay rfl rfl (zaa rfl) (fun _ => (za9 rfl ti92 tp92 rfl rfl)) (ex_s rfl (ex_s rfl (ex_f zdu rfl (zbv rfl rfl (zaa rfl) (zbr rfl ta33 rfl rfl rfl rfl rfl) ?_))))
     refine zci rfl (zaa rfl) (zaj rfl ti92 rfl rfl rfl rfl rfl rfl xf xf) (fun _ h => zbw h) ?_
     refine ex_s rfl ?_
     refine zcf xi ?_
     refine zai ?_
     (refine za7 ?_; repeat (first | refine zbc ?_ | refine zbe ?_))
     subst HI
     exact post_cs (N := 0) (.inr rfl) ta92 ti92 rfl rfl rfl rfl rfl rfl (.agg _ _ rfl (zbd.cons (.refl _) (zbd.cons .nil (zbd.cons .nil (zbd.cons .nil (zbd.cons (.refl _) (zbd.cons (.refl _) zbd.nil)))))).2) (.refl _)
    ·
     rw [if_neg h123] at hd2
     have e2 : s2.e = 0 := Decidable.not_not.1 h123
     refine zab (zaf rfl rfl (zaa rfl) (zax rfl rfl rfl (IntWalk.i64_in _ xd)) (zac rfl (zad (zai ?_))))
     exact ⟨(i + 1, s2), ⟨by show i + 1 ≤ p.a.length; omega, hJp e2, e2, hd2⟩, by show p.a.length - (i + 1) < p.a.length - i; omega, wk_sub _ ⟨rfl, rfl, rfl, rfl, rfl, rfl, rfl, rfl, rfl, trivial⟩⟩
   ·
    rw [if_pos xd] at hd2
    refine zab (zaf rfl rfl (zaa rfl) (zax rfl rfl rfl (IntWalk.i64_in _ xd)) (zac rfl (zad (zai ?_))))
    exact ⟨(i + 1, s), ⟨by show i + 1 ≤ p.a.length; omega, hJs, hse, hd2⟩, by show p.a.length - (i + 1) < p.a.length - i; omega, wk_sub _ ⟨rfl, rfl, rfl, rfl, rfl, rfl, rfl, rfl, rfl, trivial⟩⟩
 have ei : i = p.a.length := by omega
 subst ei
 rw [Nat.sub_self] at hd2
 unfold drvF at hd2
 subst hd2
 rw [if_neg xd] at HI
 (refine zb9 ?_; repeat (first | refine zcr ?_ | refine zbt ?_ | refine zbk rfl ?_ | refine zbl ?_ | refine zai ?_ | refine zag ?_ | refine zar ?_ | refine zas ?_))
 clear hi hbl1 h90
 have hc2l : (p.c ++ zbf (2 * p.a.length + 1)).length = p.c.length + 2 * p.a.length + 1 := by simp [zbf]; omega
 have hc2o : ∀ x ∈ p.c ++ zbf (2 * p.a.length + 1), x.ok := fun x hx => by
  rcases List.mem_append.1 hx with hx | hx
  ·
   exact h.co x hx
  ·
   rw [List.eq_of_mem_replicate hx]; exact of_ok ⟨by decide, by decide⟩
 have hok2 : TbOk p.a.length (p.c.length + 2 * p.a.length) { t2 with cost := p.c ++ zbf (2 * p.a.length + 1) } := ⟨hJs.ok.rl, hJs.ok.rw_, hc2l, hc2o, hJs.ok.bl, hJs.ok.bs⟩
 have hp2 := K4.priced_call (P := P) zS (eL eF t2.cost) t2 (p.c ++ zbf (2 * p.a.length + 1)) (hok2.sh hsm) hse
 have hT2 : (prcE (p.c ++ zbf (2 * p.a.length + 1)) t2).e = 0 → TbOk p.a.length (p.c.length + 2 * p.a.length) (prcE (p.c ++ zbf (2 * p.a.length + 1)) t2) ∧ Bl.Can p.a.length (p.c.length + 2 * p.a.length) (zdd (prcE (p.c ++ zbf (2 * p.a.length + 1)) t2)) := fun he => by
  obtain ⟨g1, g2, _⟩ := prcE_ok hok2 hJs.can hse he
  exact ⟨g1, g2⟩
 have hl2 : (prcE (p.c ++ zbf (2 * p.a.length + 1)) t2).last = ((p.c.length + p.a.length : Nat) : Int) := by rw [prcE_last]; exact hsl
 obtain ⟨f2, hf2⟩ := runC_of (run_any (vars := p.c.length + p.a.length) xd hT2)
 have hcl := fun σ => cloneF_call (P := P) p.c xd xd σ
 have hz2 := zeros_po (P := P) (2 * p.a.length + 1) xd
 rw [show ((2 * p.a.length + 1 : Nat) : Int) = 2 * (p.a.length : Int) + 1 by omega] at hz2
 have hzl : ((zbf (2 * p.a.length + 1)).map eF).length = 2 * p.a.length + 1 := by simp [zbf]
 have hzl2 : (zbf (2 * p.a.length + 1)).length = 2 * p.a.length + 1 := by simp [zbf]
 have hcll : (p.c.map eF).length = p.c.length := by simp
 have hc2m : p.c.map eF ++ (zbf (2 * p.a.length + 1)).map eF = (p.c ++ zbf (2 * p.a.length + 1)).map eF := by simp
 rw [hse]
 refine zab (zac rfl (zbz tf88_0 rfl (zbu ta30 rfl (zaf rfl rfl (zaa rfl) (zbs rfl rfl (hcl _) (zae rfl zap)) (zac rfl (zaf rfl rfl (zaa rfl) (does_mul rfl rfl rfl (IntWalk.i64_in _ xd)) (zaf rfl rfl (zaa rfl) (zax rfl rfl rfl (IntWalk.i64_in _ xd)) (zaf rfl rfl (zaa rfl) (does_callO rfl rfl (hz2) (zae rfl zap)) ?_))))))))
 refine zaf rfl rfl (zaa rfl) (zbq rfl ts30 ti45 rfl xf rfl rfl xk rfl xe xg xg) ?_
 refine za6 (zbm (id := 6) rfl) (za6 (wk_sl (d := 138) rfl rfl xo) (za6 (cut_weak (σ := stE zS t2 0) (F' := [(1, .ref (eP p).cells), (2, .ptr 3 6 0 0), (4, eI p.c.length), (5, eI p.a.length), (6, .ptr 0 5 0 0), (7, eL eB (turnL p)), (130, .ptr 0 5 0 0), (138, eL eF (p.c ++ zbf (2 * p.a.length + 1)))]) (by simp [stE]) (stE_lo _ _ _) ⟨⟨rfl, lo_up (.ref _ (lo_P p).cells)⟩, ⟨rfl, .ptr _ _ _ _ (by simp [stE])⟩, ⟨rfl, lo_up (.s _)⟩, ⟨rfl, lo_up (.s _)⟩, ⟨rfl, .ptr _ _ _ _ (by simp [stE])⟩, ⟨rfl, lo_up (zan fun _ => .s _)⟩, ⟨rfl, .ptr _ _ _ _ (by simp [stE])⟩, ⟨congrArg AV.sl hc2m, lo_up (lo_Fs _)⟩, trivial⟩) ?_))
 refine zaf rfl rfl (zaa rfl) (zbs rfl rfl hp2 (zae rfl (zae rfl zap))) (zad (zag ?_))
 generalize prcE (p.c ++ zbf (2 * p.a.length + 1)) t2 = T2 at hp2 hT2 hl2 hf2 HI ⊢
 generalize hr2 : runC (p.c.length + p.a.length) T2 = r2 at hf2 HI
 obtain ⟨t4, k2⟩ := r2
 have hrun := K4.run_call (P := P) zS hsm (vars := p.c.length + p.a.length) xd T2 t4 f2 k2 (fun he => (hT2 he).1) hf2
 rw [← hl2] at hrun
 dsimp only at HI
 refine zab (zac rfl (zac rfl (zac rfl (zbz tf138_3 rfl (zaf rfl rfl (zaa rfl) (zaq rfl ta3 rfl rfl rfl rfl rfl) (zaf rfl rfl (zaa rfl) (zbs rfl rfl hrun (zae rfl (zae rfl zap))) (zac rfl (zad (zag (zag (zab (zac rfl (zac rfl (zbz zdu rfl (zaf rfl rfl (zaa rfl) (zaq rfl ta33 rfl rfl rfl rfl rfl) ?_)))))))))))))))
 refine za3 rfl rfl (zaa rfl) (zbp rfl rfl rfl) (fun h150 => ?_) (fun h150 => ?_)
 all_goals refine zad (zai ?_)
 all_goals (first | refine za5 rfl ?_ | refine zau rfl ?_)
 all_goals (repeat (first | refine zag ?_ | refine zar ?_))
 ·
  rw [if_pos h150] at HI
  refine zb2 hmix ?_
  refine zc1 ?_
  refine zay rfl rfl (zaa rfl) (fun _ => (za9 rfl ti92 tp92 rfl rfl)) (ex_s rfl (ex_s rfl (ex_f zdu rfl (zbv rfl rfl (zaa rfl) (zbr rfl ta33 rfl rfl rfl rfl rfl) ?_))))
  refine zci rfl (zaa rfl) (zaj rfl ti92 rfl rfl rfl rfl rfl rfl xf xf) (fun _ h => zbw h) ?_
  refine ex_s rfl ?_
  refine zcf xi ?_
  refine zai ?_
  (refine za7 ?_; repeat (first | refine zbc ?_ | refine zbe ?_))
  subst HI
  exact post_cs (N := 0) (.inr rfl) ta92 ti92 rfl rfl rfl rfl rfl rfl (.agg _ _ rfl (zbd.cons (.refl _) (zbd.cons .nil (zbd.cons .nil (zbd.cons .nil (zbd.cons (.refl _) (zbd.cons (.refl _) zbd.nil)))))).2) (.refl _)
 rw [if_neg h150] at HI
 have e4 : t4.e = 0 := Decidable.not_not.1 h150
 have hok4 : TbOk p.a.length (p.c.length + 2 * p.a.length) t4 := runE_inv (TbOk p.a.length (p.c.length + 2 * p.a.length)) (fun _ _ g1 g2 g3 => (runS_step xd g1 g2 g3).2.1) f2 T2 t4 k2 (hT2 (runE_e hf2 e4)).1 hf2 e4
 have hl4 : t4.last = ((p.c.length + p.a.length : Nat) : Int) := runE_inv (fun t => TbOk p.a.length (p.c.length + 2 * p.a.length) t ∧ t.last = ((p.c.length + p.a.length : Nat) : Int)) (fun _ _ g1 g2 g3 => ⟨(runS_step xd g1.1 g2 g3).2.1, (runS_step xd g1.1 g2 g3).2.2.1.trans g1.2⟩) f2 T2 t4 k2 ⟨(hT2 (runE_e hf2 e4)).1, hl2⟩ hf2 e4 |>.2
 have hsh4 := hok4.sh hsm
 have hbl4 := hok4.bl
 have hrl4 := hok4.rl
 have hva := K4.values_call (P := P) zS t4 hsh4 p.c.length xd
 have hkk := runE_k hf2
 rw [e4]
 refine zab (zac rfl (zac rfl (zaf rfl rfl (zaa rfl) (zbs rfl rfl hva (zae rfl (zae rfl zap))) (zac rfl (zad (zag (zag (zab (zac rfl ?_)))))))))
 refine za3 rfl rfl (zaa rfl) (zcp rfl rfl rfl) (fun h160 => ?_) (fun h160 => ?_)
 all_goals refine zad (zai ?_)
 all_goals (first | refine za5 rfl ?_ | refine zau rfl ?_)
 all_goals (repeat (first | refine zag ?_ | refine zar ?_))
 ·
  rw [if_pos xd] at HI
  obtain ⟨q, rfl⟩ : ∃ q : Nat, k2 = q := ⟨k2.toNat, by omega⟩
  have hq := hkk xd
  rw [show (q : Int).toNat = q from rfl] at HI
  have hz3 := zeros_po (P := P) p.c.length xd
  have hz3l : ((zbf p.c.length).map eF).length = p.c.length := by simp [zbf]
  have hw1 := swhole_pf (P := P) 1
  refine zab (zac rfl (zaf rfl rfl (zaa rfl) (does_callO rfl rfl (hz3) (zae rfl zap)) (zac rfl (zad (zag (zag (zab (zac rfl (zac rfl ?_)))))))))
  refine za3 rfl rfl (zaa rfl) (za2 rfl rfl rfl) (fun h165 => ?_) (fun h165 => ?_)
  all_goals refine zad (zai ?_)
  all_goals (first | refine za5 rfl ?_ | refine zau rfl ?_)
  all_goals (repeat (first | refine zag ?_ | refine zar ?_))
  ·
   have hqn : q < p.c.length := by omega
   have hxz : ((zbf p.c.length).map eF)[q]? = some (eF (gti (zbf p.c.length) q)) := zbb (by simp [zbf]; exact hqn)
   have hray : rayF t4 p.c.length q 0 = (zbf p.c.length).set q (Fr.of 1) := by unfold rayF; rw [if_pos hqn]
   refine zab (zac rfl (zac rfl (zaf rfl rfl (zaa rfl) (zam rfl rfl (hw1) (zae rfl zap)) (zaf rfl rfl (zaa rfl) (za0 rfl ts30 ti45 rfl rfl rfl xd) (zba rfl (zaa rfl) (zaj rfl ti45 rfl rfl rfl hxz rfl rfl xf xf) (zad (zag (zag (zab (zac rfl (zac rfl (zbz zdl rfl (zaf rfl rfl (zaa rfl) (zaq rfl ta22 rfl rfl rfl rfl rfl) (zaf rfl rfl (zaa rfl) (zc7 rfl ts22 rfl) (zac rfl (zad (zai (zas ?_))))))))))))))))))
   refine zb1 (S := Nat) (fun i => [(2, .ptr 3 6 0 0), (4, eI p.c.length), (6, .ptr 0 5 0 0), (12, eI q), (13, eL eF (valsE t4 p.c.length)), (14, .own 4 2 p.c.length), (173, .own 2 1 t4.bas.length), (174, eI t4.bas.length), (175, eI i)]) (fun i => [.row 5 [tbC t4 0], .row 1 (t4.rows.map (eL eF)), .row 1 (t4.bas.map eI), .row zS.n zS.cs, .row 2 ((rayF t4 p.c.length q i).map eF)]) (fun i => i ≤ p.a.length) (fun i => p.a.length - i) 0
    (zb8 [0, 1, 2, 3, 4] (by decide) ⟨⟨_, rfl, tb_ren rfl rfl⟩, ⟨_, rfl, .rowE (zde t4) rfl⟩, ⟨_, rfl, .rowE (bas_lo t4) rfl⟩, ⟨_, rfl, .rowE zS.lo rfl⟩, ⟨_, rfl, .rowE (by repeat' (first | exact Lo.s _ | exact zaz | refine zaw ?_ ?_ | refine zav ?_ | refine Lo.cells ?_ | refine Lo.agg _ ?_ | exact zak | refine zah ?_ ?_ | intro _)) (by rw [hray]; try (first | rfl | (rw [List.map_set]; rfl)))⟩, trivial⟩ ⟨.ptr 3 3 6 0 0 rfl, .lo _ (.s _), .ptr 0 0 5 0 0 rfl, .lo _ (.s _), .lo _ (lo_Fs _), .own 4 4 2 _ _ rfl (by first | rfl | (simp [zbf]; done)), .own 2 2 1 _ _ rfl rfl, .lo _ (.s _), .lo _ (.s _), trivial⟩) (Nat.zero_le _) (fun i hi => ?_)
   refine zag (zab ?_)
   refine za3 rfl rfl (zaa rfl) (za2 rfl rfl rfl) (fun h176 => ?_) (fun h176 => ?_)
   all_goals refine zad (zag ?_)
   all_goals (first | refine za5 rfl ?_ | refine zau rfl ?_)
   all_goals (repeat (first | refine zag ?_ | refine zar ?_ | refine zas ?_))
   ·
    have hlt : i < p.a.length := by omega
    have hbi := hsh4.bs i hlt
    have hrow := hsh4.row hlt
    have hxb : (t4.bas.map eI)[i]? = some (eI (gti t4.bas i)) := zbb xd
    have hxr : (t4.rows.map (eL eF))[i]? = some (eL eF (gti t4.rows i)) := zbb xd
    have hxq : ((gti t4.rows i).map eF)[q]? = some (eF (gti (gti t4.rows i) q)) := zbb xd
    have hqo := hok4.cell (i := i) (j := q) hlt xd
    have hng := sneg_pf (P := P) (gti (gti t4.rows i) q) ⟨hqo.1, hqo.2.1⟩
    have hrl := rayF_len t4 p.c.length q i
    refine zab (zac rfl (zaf rfl rfl (zaa rfl) (za0 rfl ts22 ti3 rfl rfl rfl xd) (zaf rfl rfl (zaa rfl) (zaq rfl ta3 rfl rfl rfl hxb rfl) (zac rfl (zac rfl (zad (zag (zab (zac rfl (zac rfl ?_))))))))))
    refine za3 rfl rfl (zaa rfl) (za2 rfl rfl rfl) (fun h182 => ?_) (fun h182 => ?_)
    all_goals refine zad (zai ?_)
    all_goals (first | refine za5 rfl ?_ | refine zau rfl ?_)
    all_goals (repeat (first | refine zai ?_ | refine zar ?_ | refine zbl ?_))
    ·
     obtain ⟨b, hb⟩ : ∃ b : Nat, gti t4.bas i = b := ⟨(gti t4.bas i).toNat, by omega⟩
     have hbn : b < p.c.length := by omega
     have hxo : ((rayF t4 p.c.length q i).map eF)[b]? = some (eF (gti (rayF t4 p.c.length q i) b)) := zbb xd
     have hv : rayF t4 p.c.length q (i + 1) = (rayF t4 p.c.length q i).set b (fneg (gti (gti t4.rows i) q)) := by rw [rayF, if_pos h182, hb]; rfl
     refine zab (zac rfl (zac rfl (zac rfl (zac rfl (zbz zc6 rfl (zaf rfl rfl (zaa rfl) (zaq rfl ta86 rfl rfl rfl rfl rfl) (zac rfl (zaf rfl rfl (zaa rfl) (za0 rfl ts86 ti30 rfl rfl rfl xd) (zaf rfl rfl (zaa rfl) (zaq rfl ta30 rfl rfl rfl hxr rfl) (zac rfl (zaf rfl rfl (zaa rfl) (zal rfl ts30 ti45 rfl rfl rfl hxq rfl) (zcx ta45 ti45 rfl (zaf rfl rfl (zaa rfl) (zam rfl rfl (hng) (zae rfl zap)) (zaf rfl rfl (zaa rfl) (za0 rfl ts30 ti45 rfl rfl hb hbn) ?_))))))))))))))
     refine zba rfl (zaa rfl) (zaj rfl ti45 rfl rfl rfl hxo rfl rfl xf xf) (zad (zbl (zai (zab (zaf rfl rfl (zaa rfl) (zax rfl rfl rfl (IntWalk.i64_in _ xd)) (zac rfl (zad (zai ?_))))))))
     exact ⟨i + 1, by omega, by omega, (zb8 [0, 1, 2, 3, 4] xf ⟨⟨_, rfl, tb_ren rfl rfl⟩, ⟨_, rfl, .rowE (zde t4) rfl⟩, ⟨_, rfl, .rowE (bas_lo t4) rfl⟩, ⟨_, rfl, .rowE zS.lo rfl⟩, ⟨_, rfl, .rowE xb (by rw [hv, List.map_set]; try rfl)⟩, trivial⟩ ⟨.ptr 3 3 6 0 0 rfl, .lo _ (.s _), .ptr 0 0 5 0 0 rfl, .lo _ (.s _), .lo _ (lo_Fs _), .own 4 4 2 _ _ rfl (by first | rfl | (simp [zbf]; done)), .own 2 2 1 _ _ rfl rfl, .lo _ (.s _), .lo _ (.s _), trivial⟩)⟩
    ·
     have hv : rayF t4 p.c.length q (i + 1) = rayF t4 p.c.length q i := by rw [rayF, if_neg h182]
     refine zab (zaf rfl rfl (zaa rfl) (zax rfl rfl rfl (IntWalk.i64_in _ xd)) (zac rfl (zad (zai ?_))))
     exact ⟨i + 1, by omega, by omega, (zb8 [0, 1, 2, 3, 4] xf ⟨⟨_, rfl, tb_ren rfl rfl⟩, ⟨_, rfl, .rowE (zde t4) rfl⟩, ⟨_, rfl, .rowE (bas_lo t4) rfl⟩, ⟨_, rfl, .rowE zS.lo rfl⟩, ⟨_, rfl, .rowE xb (by rw [hv])⟩, trivial⟩ ⟨.ptr 3 3 6 0 0 rfl, .lo _ (.s _), .ptr 0 0 5 0 0 rfl, .lo _ (.s _), .lo _ (lo_Fs _), .own 4 4 2 _ _ rfl (by first | rfl | (simp [zbf]; done)), .own 2 2 1 _ _ rfl rfl, .lo _ (.s _), .lo _ (.s _), trivial⟩)⟩
   ·
    have ei : i = p.a.length := by omega
    subst ei
    (refine zb9 ?_; repeat (first | refine zcr ?_ | refine zbt ?_ | refine zbk rfl ?_ | refine zbl ?_ | refine zai ?_ | refine zag ?_ | refine zar ?_ | refine zas ?_))
    refine zbg (zbm (id := 4) rfl) (zbg (wk_sl (d := 14) rfl rfl (by rw [List.length_map, rayF_len])) ?_)
    refine zab (zac rfl (zac rfl (zaf rfl rfl (zaa rfl) (za9 rfl ti92 tp92 rfl rfl) (zba rfl (zaa rfl) (zaj rfl ti92 rfl rfl rfl rfl rfl rfl xf xf) (zac rfl (zad (zai ?_)))))))
    (refine za7 ?_; repeat (first | refine zbc ?_ | refine zbe ?_))
    subst HI
    exact post_cs (N := 0) (.inr rfl) ta92 ti92 rfl rfl rfl rfl rfl rfl (.agg _ _ rfl (zbd.cons (.refl _) (zbd.cons (.refl _) (zbd.cons .nil (zbd.cons (.refl _) (zbd.cons (.refl _) (zbd.cons (.refl _) zbd.nil)))))).2) (.refl _)
  ·
   have hqn : ¬ q < p.c.length := by omega
   have hray : rayF t4 p.c.length q 0 = zbf p.c.length := by unfold rayF; rw [if_neg hqn]
   refine zab (zac rfl (zac rfl (zbz zdl rfl (zaf rfl rfl (zaa rfl) (zaq rfl ta22 rfl rfl rfl rfl rfl) (zaf rfl rfl (zaa rfl) (zc7 rfl ts22 rfl) (zac rfl (zad (zai (zas ?_)))))))))
   refine zb1 (S := Nat) (fun i => [(2, .ptr 3 6 0 0), (4, eI p.c.length), (6, .ptr 0 5 0 0), (12, eI q), (13, eL eF (valsE t4 p.c.length)), (14, .own 4 2 p.c.length), (173, .own 2 1 t4.bas.length), (174, eI t4.bas.length), (175, eI i)]) (fun i => [.row 5 [tbC t4 0], .row 1 (t4.rows.map (eL eF)), .row 1 (t4.bas.map eI), .row zS.n zS.cs, .row 2 ((rayF t4 p.c.length q i).map eF)]) (fun i => i ≤ p.a.length) (fun i => p.a.length - i) 0
    (zb8 [0, 1, 2, 3, 4] (by decide) ⟨⟨_, rfl, tb_ren rfl rfl⟩, ⟨_, rfl, .rowE (zde t4) rfl⟩, ⟨_, rfl, .rowE (bas_lo t4) rfl⟩, ⟨_, rfl, .rowE zS.lo rfl⟩, ⟨_, rfl, .rowE (by repeat' (first | exact Lo.s _ | exact zaz | refine zaw ?_ ?_ | refine zav ?_ | refine Lo.cells ?_ | refine Lo.agg _ ?_ | exact zak | refine zah ?_ ?_ | intro _)) (by rw [hray]; try (first | rfl | (rw [List.map_set]; rfl)))⟩, trivial⟩ ⟨.ptr 3 3 6 0 0 rfl, .lo _ (.s _), .ptr 0 0 5 0 0 rfl, .lo _ (.s _), .lo _ (lo_Fs _), .own 4 4 2 _ _ rfl (by first | rfl | (simp [zbf]; done)), .own 2 2 1 _ _ rfl rfl, .lo _ (.s _), .lo _ (.s _), trivial⟩) (Nat.zero_le _) (fun i hi => ?_)
   refine zag (zab ?_)
   refine za3 rfl rfl (zaa rfl) (za2 rfl rfl rfl) (fun h176 => ?_) (fun h176 => ?_)
   all_goals refine zad (zag ?_)
   all_goals (first | refine za5 rfl ?_ | refine zau rfl ?_)
   all_goals (repeat (first | refine zag ?_ | refine zar ?_ | refine zas ?_))
   ·
    have hlt : i < p.a.length := by omega
    have hbi := hsh4.bs i hlt
    have hrow := hsh4.row hlt
    have hxb : (t4.bas.map eI)[i]? = some (eI (gti t4.bas i)) := zbb xd
    have hxr : (t4.rows.map (eL eF))[i]? = some (eL eF (gti t4.rows i)) := zbb xd
    have hxq : ((gti t4.rows i).map eF)[q]? = some (eF (gti (gti t4.rows i) q)) := zbb xd
    have hqo := hok4.cell (i := i) (j := q) hlt xd
    have hng := sneg_pf (P := P) (gti (gti t4.rows i) q) ⟨hqo.1, hqo.2.1⟩
    have hrl := rayF_len t4 p.c.length q i
    refine zab (zac rfl (zaf rfl rfl (zaa rfl) (za0 rfl ts22 ti3 rfl rfl rfl xd) (zaf rfl rfl (zaa rfl) (zaq rfl ta3 rfl rfl rfl hxb rfl) (zac rfl (zac rfl (zad (zag (zab (zac rfl (zac rfl ?_))))))))))
    refine za3 rfl rfl (zaa rfl) (za2 rfl rfl rfl) (fun h182 => ?_) (fun h182 => ?_)
    all_goals refine zad (zai ?_)
    all_goals (first | refine za5 rfl ?_ | refine zau rfl ?_)
    all_goals (repeat (first | refine zai ?_ | refine zar ?_ | refine zbl ?_))
    ·
     obtain ⟨b, hb⟩ : ∃ b : Nat, gti t4.bas i = b := ⟨(gti t4.bas i).toNat, by omega⟩
     have hbn : b < p.c.length := by omega
     have hxo : ((rayF t4 p.c.length q i).map eF)[b]? = some (eF (gti (rayF t4 p.c.length q i) b)) := zbb xd
     have hv : rayF t4 p.c.length q (i + 1) = (rayF t4 p.c.length q i).set b (fneg (gti (gti t4.rows i) q)) := by rw [rayF, if_pos h182, hb]; rfl
     refine zab (zac rfl (zac rfl (zac rfl (zac rfl (zbz zc6 rfl (zaf rfl rfl (zaa rfl) (zaq rfl ta86 rfl rfl rfl rfl rfl) (zac rfl (zaf rfl rfl (zaa rfl) (za0 rfl ts86 ti30 rfl rfl rfl xd) (zaf rfl rfl (zaa rfl) (zaq rfl ta30 rfl rfl rfl hxr rfl) (zac rfl (zaf rfl rfl (zaa rfl) (zal rfl ts30 ti45 rfl rfl rfl hxq rfl) (zcx ta45 ti45 rfl (zaf rfl rfl (zaa rfl) (zam rfl rfl (hng) (zae rfl zap)) (zaf rfl rfl (zaa rfl) (za0 rfl ts30 ti45 rfl rfl hb hbn) ?_))))))))))))))
     refine zba rfl (zaa rfl) (zaj rfl ti45 rfl rfl rfl hxo rfl rfl xf xf) (zad (zbl (zai (zab (zaf rfl rfl (zaa rfl) (zax rfl rfl rfl (IntWalk.i64_in _ xd)) (zac rfl (zad (zai ?_))))))))
     exact ⟨i + 1, by omega, by omega, (zb8 [0, 1, 2, 3, 4] xf ⟨⟨_, rfl, tb_ren rfl rfl⟩, ⟨_, rfl, .rowE (zde t4) rfl⟩, ⟨_, rfl, .rowE (bas_lo t4) rfl⟩, ⟨_, rfl, .rowE zS.lo rfl⟩, ⟨_, rfl, .rowE xb (by rw [hv, List.map_set]; try rfl)⟩, trivial⟩ ⟨.ptr 3 3 6 0 0 rfl, .lo _ (.s _), .ptr 0 0 5 0 0 rfl, .lo _ (.s _), .lo _ (lo_Fs _), .own 4 4 2 _ _ rfl (by first | rfl | (simp [zbf]; done)), .own 2 2 1 _ _ rfl rfl, .lo _ (.s _), .lo _ (.s _), trivial⟩)⟩
    ·
     have hv : rayF t4 p.c.length q (i + 1) = rayF t4 p.c.length q i := by rw [rayF, if_neg h182]
     refine zab (zaf rfl rfl (zaa rfl) (zax rfl rfl rfl (IntWalk.i64_in _ xd)) (zac rfl (zad (zai ?_))))
     exact ⟨i + 1, by omega, by omega, (zb8 [0, 1, 2, 3, 4] xf ⟨⟨_, rfl, tb_ren rfl rfl⟩, ⟨_, rfl, .rowE (zde t4) rfl⟩, ⟨_, rfl, .rowE (bas_lo t4) rfl⟩, ⟨_, rfl, .rowE zS.lo rfl⟩, ⟨_, rfl, .rowE xb (by rw [hv])⟩, trivial⟩ ⟨.ptr 3 3 6 0 0 rfl, .lo _ (.s _), .ptr 0 0 5 0 0 rfl, .lo _ (.s _), .lo _ (lo_Fs _), .own 4 4 2 _ _ rfl (by first | rfl | (simp [zbf]; done)), .own 2 2 1 _ _ rfl rfl, .lo _ (.s _), .lo _ (.s _), trivial⟩)⟩
   ·
    have ei : i = p.a.length := by omega
    subst ei
    (refine zb9 ?_; repeat (first | refine zcr ?_ | refine zbt ?_ | refine zbk rfl ?_ | refine zbl ?_ | refine zai ?_ | refine zag ?_ | refine zar ?_ | refine zas ?_))
    refine zbg (zbm (id := 4) rfl) (zbg (wk_sl (d := 14) rfl rfl (by rw [List.length_map, rayF_len])) ?_)
    refine zab (zac rfl (zac rfl (zaf rfl rfl (zaa rfl) (za9 rfl ti92 tp92 rfl rfl) (zba rfl (zaa rfl) (zaj rfl ti92 rfl rfl rfl rfl rfl rfl xf xf) (zac rfl (zad (zai ?_)))))))
    (refine za7 ?_; repeat (first | refine zbc ?_ | refine zbe ?_))
    subst HI
    exact post_cs (N := 0) (.inr rfl) ta92 ti92 rfl rfl rfl rfl rfl rfl (.agg _ _ rfl (zbd.cons (.refl _) (zbd.cons (.refl _) (zbd.cons .nil (zbd.cons (.refl _) (zbd.cons (.refl _) (zbd.cons (.refl _) zbd.nil)))))).2) (.refl _)
 ·
  rw [if_neg xd] at HI
  have hmu := K4.mult_call (P := P) zS t4 hsh4 (turnL p) (by rw [turnL_len, hbm]) 0 xd
  rw [e4] at hmu
  have hdot := fDot_pf (P := P) p.c (valsE t4 p.c.length)
  generalize dotE p.c (valsE t4 p.c.length) = dd at hdot HI
  generalize mulTE t4 (turnL p) 0 = mm at hmu HI
  refine zab (zac rfl (zac rfl (zaf rfl rfl (zaa rfl) (zbs rfl rfl hmu (zae rfl (zae rfl (zae rfl zap)))) (zac rfl (zad (zag (zab (zbz tf88_0 rfl (zbu ta30 rfl (zac rfl (zaf rfl rfl (zaa rfl) (zam rfl rfl (hdot) (zae rfl (zae rfl zap))) (zac rfl (zac rfl (zac rfl (zaf rfl rfl (zaa rfl) (za1 rfl ti45 rfl rfl) (zba rfl (zaa rfl) (zaj rfl ti45 rfl rfl rfl rfl rfl rfl xf xf) (zac rfl (zad (zag (zag (zab (zac rfl (zac rfl ?_)))))))))))))))))))))))
  refine zbz zdu rfl (zaf rfl rfl (zaa rfl) (zaq rfl ta33 rfl rfl rfl rfl rfl) ?_)
  refine za3 rfl rfl (zaa rfl) (zbp rfl rfl rfl) (fun h215 => ?_) (fun h215 => ?_)
  all_goals refine zad (zai ?_)
  all_goals (first | refine za5 rfl ?_ | refine zau rfl ?_)
  all_goals (repeat (first | refine zag ?_ | refine zar ?_))
  ·
   rw [if_pos h215] at HI
   refine zab (zac rfl (zac rfl (zbz zdu rfl (zaf rfl rfl (zaa rfl) (zaq rfl ta33 rfl rfl rfl rfl rfl) (zac rfl (zad (zag (zab (zac rfl (zac rfl (zaf rfl rfl (zaa rfl) (za8 rfl ta45 ti45 rfl rfl rfl rfl rfl) (zaf rfl rfl (zaa rfl) (za9 rfl ti92 tp92 rfl rfl) (zac rfl (zba rfl (zaa rfl) (zaj rfl ti92 rfl rfl rfl rfl rfl rfl xf xf) (zac rfl (zad (zai ?_)))))))))))))))))
   (refine za7 ?_; repeat (first | refine zbc ?_ | refine zbe ?_))
   subst HI
   exact post_cs (N := 0) (.inr rfl) ta92 ti92 rfl rfl rfl rfl rfl rfl (.agg _ _ rfl (zbd.cons (.refl _) (zbd.cons (.refl _) (zbd.cons (.refl _) (zbd.cons .nil (zbd.cons (.refl _) (zbd.cons (.refl _) zbd.nil)))))).2) (.refl _)
  ·
   rw [if_neg h215] at HI
   refine zab (zac rfl (zac rfl (zaf rfl rfl (zaa rfl) (za8 rfl ta45 ti45 rfl rfl rfl rfl rfl) (zaf rfl rfl (zaa rfl) (za9 rfl ti92 tp92 rfl rfl) (zac rfl (zba rfl (zaa rfl) (zaj rfl ti92 rfl rfl rfl rfl rfl rfl xf xf) (zac rfl (zad (zai ?_)))))))))
   (refine za7 ?_; repeat (first | refine zbc ?_ | refine zbe ?_))
   subst HI
   exact post_cs (N := 0) (.inr rfl) ta92 ti92 rfl rfl rfl rfl rfl rfl (.agg _ _ rfl (zbd.cons (.refl _) (zbd.cons (.refl _) (zbd.cons (.refl _) (zbd.cons .nil (zbd.cons (.refl _) (zbd.cons (.refl _) zbd.nil)))))).2) (.refl _)
end Go.Proofs.YtllkbjcemecmjaaGreat.Aw
end
section
namespace Go.Proofs.YtllkbjcemecmjaaGreat.Aw
open Go Go.RowKit Go.Proofs
variable {P : Program} [IsP P]
theorem lpOk_of {p : LP} (hv : validP p = true) : LpOk p p.c.length p.a.length := by
 obtain ⟨⟨q1, q2, q3, q4, q5, q6, q7, q8⟩, qr⟩ := validP_iff hv
 exact ⟨rfl, rfl, q7, q5, ⟨q1, q2⟩, ⟨q3, q4⟩, fun x hx => (Fr.okB_iff _).1 (List.all_eq_true.1 q6 x hx), fun x hx => (Fr.okB_iff _).1 (List.all_eq_true.1 q8 x hx), fun i hi => ⟨(qr i hi).1, fun x hx => (Fr.okB_iff _).1 (List.all_eq_true.1 (qr i hi).2.1 x hx)⟩⟩
noncomputable def slvE (p : LP) : Sol × Int :=
 if validP p = false then (solZ, 1) else
 if (solE p).2 ≠ 0 then (solZ, 6) else
 if checkB p (solE p).1 = false then (solZ, 6) else ((solE p).1, 0)
set_option maxHeartbeats 2000000 in
theorem solve_pf (p : LP) : Pure P 48 [eP p] (.tup [eSol (slvE p).1, eI (slvE p).2]) := by
 have hva := sValid_pf (P := P) p
 have hlo : Lo 0 (.ref (eP p).cells) := .ref _ (lo_P p).cells
 refine zcl (by rw [IsP.eq (P := P)]; exact Tryz.func48) rfl rfl rfl rfl rfl xa xc (by simp only [argF]; rfl) ?_
 refine zag (zab (zaf rfl rfl (zaa rfl) (zb3 rfl rfl rfl rfl) (zaf rfl rfl (zaa rfl) (za1 rfl ti92 rfl rfl) (zac rfl (zad (zag (zag ?_)))))))
 refine zbg (zbm (id := 0) rfl) (zbg (zcb (d := 1) rfl rfl rfl) ?_)
 cases hv : validP p with
 | false =>
  rw [hv] at hva
  have hR : slvE p = (solZ, 1) := by unfold slvE; rw [if_pos hv]
  rw [hR]
  refine zab (zcx ta88 ti88 rfl (zaf rfl rfl (zaa rfl) (zam rfl rfl (hva) (zae rfl zap)) (zaf rfl rfl (zaa rfl) (zbj rfl rfl) (zad (zai (za5 rfl (zag (zab (zaf rfl rfl (zaa rfl) (za9 rfl ti92 tp92 rfl rfl) (zba rfl (zaa rfl) (zaj rfl ti92 rfl rfl rfl rfl rfl rfl xf xf) (zac rfl (zad (zai ?_)))))))))))))
  (refine za7 ?_; repeat (first | refine zbc ?_ | refine zbe ?_))
  exact post_cs (N := 0) (.inr rfl) ta92 ti92 rfl rfl rfl rfl rfl rfl (.agg _ _ rfl (zbd.cons (.refl _) (zbd.cons .nil (zbd.cons .nil (zbd.cons .nil (zbd.cons (.refl _) (zbd.cons (.refl _) zbd.nil)))))).2) (.refl _)
 | true =>
  rw [hv] at hva
  have hs := solved_pf (P := P) p (lpOk_of hv)
  have hc := sCheck_pf (P := P) p (solE p).1
  have HI : slvE p = if (solE p).2 ≠ 0 then (solZ, 6) else if checkB p (solE p).1 = false then (solZ, 6) else ((solE p).1, 0) := by
   unfold slvE; rw [if_neg (by rw [hv]; simp)]
  generalize slvE p = R at HI ⊢
  generalize solE p = s at hs hc HI
  refine zab (zcx ta88 ti88 rfl (zaf rfl rfl (zaa rfl) (zam rfl rfl (hva) (zae rfl zap)) (zaf rfl rfl (zaa rfl) (zbj rfl rfl) (zad (zai (zau rfl (zar (zag (zab (zcx ta88 ti88 rfl (zaf rfl rfl (zaa rfl) (zam rfl rfl (hs) (zae rfl zap)) (zac rfl (zac rfl (zac rfl (zaf rfl rfl (zaa rfl) (za1 rfl ti92 rfl rfl) (zba rfl (zaa rfl) (zaj rfl ti92 rfl rfl rfl rfl rfl rfl xf xf) (zac rfl (zad (zag (zag ?_))))))))))))))))))))
  by_cases he : s.2 ≠ 0
  ·
   rw [if_pos he] at HI
   refine zab (zac rfl (zaf rfl rfl (zaa rfl) (zdc he (zbp rfl rfl rfl)) (zac rfl (za4 rfl (za4 rfl (za4 rfl (za4 rfl (zac rfl (zad (zai (za5 rfl (zag (zab (zaf rfl rfl (zaa rfl) (za9 rfl ti92 tp92 rfl rfl) (zba rfl (zaa rfl) (zaj rfl ti92 rfl rfl rfl rfl rfl rfl xf xf) (zac rfl (zad (zai ?_))))))))))))))))))
   (refine za7 ?_; repeat (first | refine zbc ?_ | refine zbe ?_))
   subst HI
   exact post_cs (N := 0) (.inr rfl) ta92 ti92 rfl rfl rfl rfl rfl rfl (.agg _ _ rfl (zbd.cons (.refl _) (zbd.cons .nil (zbd.cons .nil (zbd.cons .nil (zbd.cons (.refl _) (zbd.cons (.refl _) zbd.nil)))))).2) (.refl _)
  ·
   rw [if_neg he] at HI
   cases hck : checkB p s.1 with
   | false =>
    rw [hck] at hc
    rw [if_pos hck] at HI
    refine zab (zac rfl (zaf rfl rfl (zaa rfl) (dec_f he (zbp rfl rfl rfl)) (zac rfl (zcx ta88 ti88 rfl (zaf rfl rfl (zat rfl rfl rfl) (za8 rfl ta92 ti92 rfl rfl rfl rfl rfl) (zaf rfl rfl (zat rfl rfl rfl) (zam rfl rfl (hc) (zae rfl (zae rfl zap))) (zaf rfl rfl (zat rfl rfl rfl) (zbj rfl rfl) (zac rfl (zad (zai (za5 rfl (zag (zab (zaf rfl rfl (zaa rfl) (za9 rfl ti92 tp92 rfl rfl) (zba rfl (zaa rfl) (zaj rfl ti92 rfl rfl rfl rfl rfl rfl xf xf) ?_)))))))))))))))
    refine zac rfl (zad (zai ?_))
    (refine za7 ?_; repeat (first | refine zbc ?_ | refine zbe ?_))
    subst HI
    exact post_cs (N := 0) (.inr rfl) ta92 ti92 rfl rfl rfl rfl rfl rfl (.agg _ _ rfl (zbd.cons (.refl _) (zbd.cons .nil (zbd.cons .nil (zbd.cons .nil (zbd.cons (.refl _) (zbd.cons (.refl _) zbd.nil)))))).2) (.refl _)
   | true =>
    rw [hck] at hc
    rw [if_neg (by rw [hck]; simp)] at HI
    refine zab (zac rfl (zaf rfl rfl (zaa rfl) (dec_f he (zbp rfl rfl rfl)) (zac rfl (zcx ta88 ti88 rfl (zaf rfl rfl (zat rfl rfl rfl) (za8 rfl ta92 ti92 rfl rfl rfl rfl rfl) (zaf rfl rfl (zat rfl rfl rfl) (zam rfl rfl (hc) (zae rfl (zae rfl zap))) (zaf rfl rfl (zat rfl rfl rfl) (zbj rfl rfl) (zac rfl (zad (zai (zau rfl (zar (zag (zab (zaf rfl rfl (zaa rfl) (za8 rfl ta92 ti92 rfl rfl rfl rfl rfl) (zba rfl (zaa rfl) (zaj rfl ti92 rfl rfl rfl rfl rfl rfl xf xf) ?_))))))))))))))))
    refine zac rfl (zad (zai ?_))
    (refine za7 ?_; repeat (first | refine zbc ?_ | refine zbe ?_))
    subst HI
    exact post_cs (N := 0) (.inr rfl) ta92 ti92 rfl rfl rfl rfl rfl rfl (.refl _) (.refl _)
end Go.Proofs.YtllkbjcemecmjaaGreat.Aw
end
