import Derived.Test.YtllkbjcemecmjaaJR8
import Derived.Test.YtllkbjcemecmjaaJR6
set_option linter.unusedSimpArgs false
set_option linter.unusedVariables false
set_option linter.unusedSectionVars false
section
namespace Go.Proofs.Ytllkbjcemecmjaa.Aw
open Go Go.RowKit Go.Proofs
variable {P : Program} [IsP P]
structure TbSh (m N : Nat) (t : Tb) : Prop where
 rl : t.rows.length = m
 rw_ : ∀ r ∈ t.rows, r.length = N + 1
 cl : t.cost.length = N + 1
 bl : t.bas.length = m
 bs : ∀ i, i < m → 0 ≤ gti t.bas i ∧ gti t.bas i < N
 sm : m ≤ 12 ∧ N ≤ 40
theorem TbSh.row {m N : Nat} {t : Tb} (h : TbSh m N t) {i : Nat} (hi : i < m) : (gti t.rows i).length = N + 1 := h.rw_ _ (zdm (by rw [h.rl]; exact hi))
theorem TbOk.sh {m N : Nat} {t : Tb} (h : TbOk m N t) (hs : m ≤ 12 ∧ N ≤ 40) : TbSh m N t := ⟨h.rl, fun r hr => (h.rw_ r hr).1, h.cl, h.bl, h.bs, hs⟩
theorem less_len {by_ : Fr} : ∀ (a b : List Fr), (zdo by_ a b).2 = 0 → (zdo by_ a b).1.length = a.length
 | [], _, _ => rfl
 | a :: xs, b, h => by
  rw [zdo] at h ⊢
  dsimp only at h ⊢
  by_cases h1 : (mulE by_ (gti b 0)).e ≠ 0
  ·
   rw [if_pos h1] at h; exact absurd h h1
  ·
   rw [if_neg h1] at h ⊢
   by_cases h2 : (subE a (mulE by_ (gti b 0)).fr).e ≠ 0
   ·
    rw [if_pos h2] at h; exact absurd h h2
   ·
    rw [if_neg h2] at h ⊢
    by_cases h3 : (zdo by_ xs (b.drop 1)).2 ≠ 0
    ·
     rw [if_pos h3] at h; exact absurd h h3
    ·
     rw [if_neg h3]
     exact congrArg (· + 1) (less_len xs (b.drop 1) (Decidable.not_not.1 h3))
theorem div_len {by_ : Fr} : ∀ (a : List Fr), (divL by_ a).2 = 0 → (divL by_ a).1.length = a.length
 | [], _ => rfl
 | a :: xs, h => by
  rw [divL] at h ⊢
  dsimp only at h ⊢
  by_cases h1 : (divE a by_).e ≠ 0
  ·
   rw [if_pos h1] at h; exact absurd h h1
  ·
   rw [if_neg h1] at h ⊢
   by_cases h3 : (divL by_ xs).2 ≠ 0
   ·
    rw [if_pos h3] at h; exact absurd h h3
   ·
    rw [if_neg h3]
    exact congrArg (· + 1) (div_len xs (Decidable.not_not.1 h3))
theorem div_err {by_ : Fr} : ∀ (a : List Fr), (divL by_ a).2 ≠ 0 → (divL by_ a).1 = []
 | [], h => absurd rfl h
 | a :: xs, h => by
  rw [divL] at h ⊢
  dsimp only at h ⊢
  by_cases h1 : (divE a by_).e ≠ 0
  ·
   rw [if_pos h1]
  ·
   rw [if_neg h1] at h ⊢
   by_cases h3 : (divL by_ xs).2 ≠ 0
   ·
    rw [if_pos h3]
   ·
    rw [if_neg h3] at h; exact absurd rfl h
theorem div_step {by_ : Fr} {a : List Fr} {i : Nat} (h : i < a.length) : divL by_ (a.drop i) =
  if (divE (gti a i) by_).e ≠ 0 then ([], (divE (gti a i) by_).e) else cmbL [(divE (gti a i) by_).fr] (divL by_ (a.drop (i + 1))) := by
 rw [dropF h, divL]
 rfl
def invT (t : Tb) (σ : List Ob) : Prop := ∃ e, σ[0]? = some (.row 5 [tbC t e])
theorem invT_app {t : Tb} {x : Ob} : ∀ s : List Ob, invT t s → invT t (s ++ [x]) := fun s ⟨e, h⟩ =>
 ⟨e, by rw [List.getElem?_append_left (List.getElem?_eq_some_iff.1 h).1]; exact h⟩
def pivFin (k : Nat) (row : List Fr) (t1 : Tb) : Tb := if t1.e ≠ 0 then t1 else pivC k row t1
namespace K4
theorem kw_stEq {N : Nat} {c : Code} {F : Frm} {σ σ' : List Ob} {Q : Exit → Frm → List Ob → Prop} (h : σ = σ') (k : KWp P N c F σ' Q) : KWp P N c F σ Q := by rw [h]; exact k
set_option maxHeartbeats 4000000 in
theorem pivot_call {m N : Nat} (z : Zc) (t : Tb) (ht : TbSh m N t) (he : t.e = 0) (i k : Nat) (hi : i < m) (hk : k < N) :
  CallE P 61 [.ptr 0 5 0 0, eI i, eI k] (stE z t 0) (.tup []) (stE z (pivE i k t) (pivE i k t).e) := by
 have hrl := ht.rl
 have hbl := ht.bl
 have hsm := ht.sm
 have hri := ht.row hi
 have HI : pivE i k t = (let d := divL (gti (gti t.rows i) k) (gti t.rows i)
  if d.2 ≠ 0 then { t with e := d.2 } else
  pivFin k d.1 (pivJ i k d.1 t.rows.length 0 { t with rows := t.rows.set i d.1, bas := t.bas.set i k })) := rfl
 have hdl := div_len (by_ := gti (gti t.rows i) k) (gti t.rows i)
 have HD : divL (gti (gti t.rows i) k) (gti t.rows i) = cmbL [] (divL (gti (gti t.rows i) k) ((gti t.rows i).drop 0)) := by
  rw [List.drop_zero, cmb_nil (div_err _)]
 generalize pivE i k t = R at HI ⊢
 generalize divL (gti (gti t.rows i) k) (gti t.rows i) = d at HI HD hdl
 have hxr : (t.rows.map (eL eF))[i]? = some (eL eF (gti t.rows i)) := zbd (by omega)
 have hxk : ((gti t.rows i).map eF)[k]? = some (eF (gti (gti t.rows i) k)) := zbd (by omega)
 generalize hby : gti (gti t.rows i) k = by_ at HD hxk
 generalize hrow : gti t.rows i = row at HD hxk hdl hri hxr
 refine callE_fn0 (Nat.le_refl _) (by rw [IsP.eq (P := P)]; exact Try.func61) rfl rfl (Nat.le_of_ble_eq_true rfl) rfl ?_
 simp only [argF]
 refine kw_seq (kw_region (kops_s rfl (kops_s rfl (kops_f zc4 rfl (kops_op rfl rfl (zaa rfl) (zap rfl ta45 rfl rfl rfl rfl rfl) (kops_s rfl (kops_op rfl rfl (zaa rfl) (zau rfl ts45 ti30 rfl rfl rfl (by omega)) (kops_op rfl rfl (zaa rfl) (zap rfl ta30 rfl rfl rfl hxr rfl) (kops_s rfl (kops_op rfl rfl (zaa rfl) (zal rfl ts30 ti51 rfl rfl rfl hxk rfl) (kops_w ta51 ti51 rfl (kops_op rfl rfl (zaa rfl) (za0 rfl ti51 rfl rfl) (kops_eff rfl (zaa rfl) (zaj rfl ti51 rfl rfl rfl rfl rfl rfl (by decide) (by decide)) ?_)))))))))))))
 refine kops_nil (kw_seq (kw_region (kops_s rfl (kops_nil (kw_seq (kw_seq ?_))))))
 refine kw_weak (kwk_froz (id := 4) rfl) ?_
 refine kw_weak (kwk_ref (d := 6) rfl rfl rfl) ?_
 refine kw_weak (kwk_own (d := 7) 2 rfl (.inr rfl)) ?_
 refine kw_region (kops_s rfl (kops_s rfl (kops_f zc4 rfl (kops_op rfl rfl (zaa rfl) (zap rfl ta45 rfl rfl rfl rfl rfl) (kops_s rfl (kops_op rfl rfl (zaa rfl) (zau rfl ts45 ti30 rfl rfl rfl (by omega)) (kops_op rfl rfl (zaa rfl) (zap rfl ta30 rfl rfl rfl hxr rfl) (kops_op rfl rfl (zaa rfl) (zao rfl ts30 rfl) (kops_s rfl (kops_nil (zai (kw_block ?_))))))))))))
 refine kw_loops (S := Nat × List Fr) (fun s => [(0, .ptr 0 5 0 0), (1, eI i), (2, eI k), (6, .ref (eF by_).cells), (7, .own 4 2 s.1), (27, eL eF row), (28, eI row.length), (29, eI s.1)]) (fun s => [.row 5 [tbC t 0], .row 1 (t.rows.map (eL eF)), .row 1 (t.bas.map eI), .row z.n z.cs, .row 2 (s.2.map eF)]) (fun s => s.1 ≤ row.length ∧ s.2.length = s.1 ∧ d = cmbL s.2 (divL by_ (row.drop s.1))) (fun s => row.length - s.1) (0, [])
  (kwk_st [0, 1, 2, 3, 5] rfl rfl rfl rfl (by decide) ⟨⟨_, rfl, tb_ren rfl rfl⟩, ⟨_, rfl, .rowE (zdb t) rfl⟩, ⟨_, rfl, .rowE (bas_lo t) rfl⟩, ⟨_, rfl, .rowE z.lo rfl⟩, ⟨_, rfl, .rowE (za2) rfl⟩, trivial⟩ ⟨.ptr 0 0 5 0 0 rfl, .lo _ (.s _), .lo _ (.s _), .lo _ (by repeat' (first | exact Lo.s _ | exact zak | refine zag ?_ ?_ | refine zan ?_ | refine Lo.cells ?_ | refine Lo.agg _ ?_ | refine Lo.ref _ ?_ | refine Lo.tup _ ?_ | refine Lo.fn _ _ ?_ | refine Lo.sl _ ?_ | intro _)), .own 5 4 2 _ _ rfl rfl, .lo _ (lo_Fs _), .lo _ (.s _), .lo _ (.s _), trivial⟩) ⟨Nat.zero_le _, rfl, HD⟩ (fun s hs => ?_)
 obtain ⟨v, pre⟩ := s
 obtain ⟨hv, hp, hr⟩ := hs
 dsimp only at hv hp hr ⊢
 refine kw_seq (kw_region ?_)
 refine kops_opP rfl rfl (zaa rfl) (za4 rfl rfl rfl) (fun h30 => ?_) (fun h30 => ?_)
 all_goals refine kops_nil (kw_seq ?_)
 all_goals (first | refine kw_true rfl ?_ | refine kw_false rfl ?_)
 all_goals (repeat (first | refine kw_seq ?_ | refine kw_skip ?_ | refine kw_block ?_))
 ·
  have hlt : v < row.length := by omega
  rw [div_step hlt] at hr
  have hxa : (row.map eF)[v]? = some (eF (gti row v)) := zbd hlt
  have hnd := fun R hR => note0 (P := P) t R hR (divE (gti row v) by_).fr (divE (gti row v) by_).e
  have hpl : (pre.map eF).length = v := by simp [hp]
  refine kw_region (kops_op rfl rfl (zaa rfl) (zal rfl ts30 ti51 rfl rfl rfl hxa rfl) (kops_w ta51 ti51 rfl (kops_op rfl rfl (zaa rfl) (za0 rfl ti51 rfl rfl) (kops_eff rfl (zaa rfl) (zaj rfl ti51 rfl rfl rfl rfl rfl rfl (by decide) (by decide)) (kops_nil (kw_seq ?_))))))
  refine kw_weak (kwk_froz (id := 5) rfl) ?_
  refine kw_weak (kwk_ref (d := 9) rfl rfl rfl) ?_
  refine kw_region (kops_s rfl (kops_s rfl (kops_w ta51 ti51 rfl (kops_w ta51 ti51 rfl (kops_op rfl rfl (zaa rfl) (zam rfl rfl ((fDiv_pf (gti row v) by_)) (zad rfl (zad rfl zaq))) (kops_s rfl (kops_s rfl (kops_op rfl rfl (zaa rfl) (zbo rfl rfl (hnd _ (by simp)) (zad rfl (zad rfl (zad rfl zaq)))) (kops_op rfl rfl (zaa rfl) (zcr rfl ts30 ti51 rfl rfl (by decide) (by decide) rfl rfl rfl (.agg _ (zag (.s _) (zag (.s _) zak)))) ?_)))))))))
  refine kops_op rfl rfl (zaa rfl) (zbm rfl ts30 ti51 rfl (by decide) rfl rfl (by first | rfl | (simp; done) | (simp; omega)) rfl (by first | exact .own _ _ _ rfl rfl _ (by first | rfl | simp) | exact .emp | exact .nil | exact .sl _ (by first | simp; done | intro e he; simp at he; obtain ⟨_, _, rfl⟩ := he; rfl)) (by first | omega | (simp; omega) | (unfold maxLen; simp; omega)) (by first | omega | (simp; omega) | (unfold maxLen; simp; omega))) ?_
  refine kops_s rfl (kops_nil (kw_seq (kw_region (kops_s rfl (kops_s rfl (kops_f zdu rfl (kops_op rfl rfl (zaa rfl) (zap rfl ta33 rfl rfl rfl rfl rfl) ?_)))))))
  refine kops_opP rfl rfl (zaa rfl) (zbw rfl rfl rfl) (fun h47 => ?_) (fun h47 => ?_)
  all_goals refine kops_nil (zai ?_)
  all_goals (first | refine kw_true rfl ?_ | refine kw_false rfl ?_)
  all_goals (repeat (first | refine zai ?_ | refine kw_skip ?_ | refine zbu ?_))
  ·
   rw [if_pos h47] at hr
   refine kw_weak (kwk_cut (σ := stE z t (divE (gti row v) by_).e) (F' := []) (by simp [stE]) (stE_lo _ _ _) trivial) ?_
   (refine kw_ret ?_; repeat (first | refine zbg ?_ | refine zbh ?_))
   subst hr
   simp only [cmbL] at HI
   rw [if_pos h47, if_pos h47] at HI
   subst HI
   exact ⟨.inr rfl, rfl⟩
  ·
   rw [if_neg h47, cmb_assoc] at hr
   have h1 : (divE (gti row v) by_).e = 0 := Decidable.not_not.1 h47
   rw [h1]
   refine kw_region (kops_op rfl rfl (zaa rfl) (zav rfl rfl rfl (IntWalk.i64_in _ (by omega))) (kops_s rfl (kops_nil (zai ?_))))
   exact ⟨(v + 1, pre ++ [(divE (gti row v) by_).fr]), ⟨by show v + 1 ≤ row.length; omega, by simp [hp], hr⟩, by show row.length - (v + 1) < row.length - v; omega, kwk_st [0, 1, 2, 3, 6] rfl rfl rfl rfl (by decide) ⟨⟨_, rfl, tb_ren rfl rfl⟩, ⟨_, rfl, .rowE (zdb t) rfl⟩, ⟨_, rfl, .rowE (bas_lo t) rfl⟩, ⟨_, rfl, .rowE z.lo rfl⟩, ⟨_, rfl, .rowE (by repeat' (first | exact Lo.s _ | exact za2 | refine zax ?_ ?_ | refine zar ?_ | refine Lo.cells ?_ | refine Lo.agg _ ?_ | exact zak | refine zag ?_ ?_ | intro _)) (by rw [List.map_append]; rfl)⟩, trivial⟩ ⟨.ptr 0 0 5 0 0 rfl, .lo _ (.s _), .lo _ (.s _), .lo _ (by repeat' (first | exact Lo.s _ | exact zak | refine zag ?_ ?_ | refine zan ?_ | refine Lo.cells ?_ | refine Lo.agg _ ?_ | refine Lo.ref _ ?_ | refine Lo.tup _ ?_ | refine Lo.fn _ _ ?_ | refine Lo.sl _ ?_ | intro _)), .own 6 4 2 _ _ rfl (by simp [hp]), .lo _ (lo_Fs _), .lo _ (.s _), .lo _ (.s _), trivial⟩⟩
 have ev : v = row.length := by omega
 subst ev
 have hd : d = (pre, 0) := by rw [hr, List.drop_length]; simp [divL, cmbL]
 subst hd
 clear hr HD
 rw [if_neg (by simp)] at HI
 (refine kw_exit ?_; repeat (first | refine zc3 ?_ | refine zb2 ?_ | refine zbq rfl ?_ | refine zbu ?_ | refine zai ?_ | refine kw_seq ?_ | refine kw_skip ?_ | refine kw_block ?_))
 refine kw_weak (kwk_froz (id := 4) rfl) ?_
 refine kw_weak (kwk_sl (d := 7) rfl rfl (by simp [hp])) ?_
 refine kw_weak (kwk_cut (σ := stE z t 0) (F' := [(0, .ptr 0 5 0 0), (1, eI i), (2, eI k), (7, .sl (pre.map eF))]) (by simp [stE]) (stE_lo _ _ _) ⟨⟨rfl, .ptr _ _ _ _ (by simp [stE])⟩, ⟨rfl, lo_up (.s _)⟩, ⟨rfl, lo_up (.s _)⟩, ⟨rfl, lo_up (by repeat' (first | exact Lo.s _ | exact zak | refine zag ?_ ?_ | refine zan ?_ | refine Lo.agg _ ?_ | refine Lo.sl _ ?_ | intro _))⟩, trivial⟩) ?_
 have hxr2 : (t.rows.map (eL eF))[i]? = some (eL eF row) := hxr
 have hxb : (t.bas.map eI)[i]? = some (eI (gti t.bas i)) := zbd (by omega)
 refine kw_draw hmix ?_
 refine kdraw_ex ?_
 refine ex_s rfl (ex_s rfl (ex_f zc4 rfl (zbt rfl rfl (zaa rfl) (zbn rfl ta45 rfl rfl rfl rfl rfl) (ex_s rfl (ex_s rfl (ex_s rfl (ex_f zdi rfl (zbt rfl rfl (zaa rfl) (zbn rfl ta22 rfl rfl rfl rfl rfl) (ex_s rfl (ex_s rfl (ex_s rfl (zaz rfl rfl (zaa rfl) (fun _ => (zau rfl ts45 ti30 rfl rfl rfl (by omega))) ?_))))))))))))
 refine zci rfl (zaa rfl) (zaj rfl ti30 rfl rfl rfl hxr2 rfl rfl (by decide) (by decide)) (fun _ h => zbr h) ?_
 refine zaz rfl rfl (zaa rfl) (fun _ => (zau rfl ts22 ti3 rfl rfl rfl (by omega))) ?_
 refine zci rfl (zaa rfl) (zaj rfl ti3 rfl rfl rfl hxb rfl rfl (by decide) (by decide)) (fun _ h => zbr h) ?_
 refine zcc (by kernel_rfl) ?_
 refine kw_seq (kw_seq ?_)
 generalize hT : ({ t with rows := t.rows.set i pre, bas := t.bas.set i (k : Int) } : Tb) = T1 at HI
 have hT1 : TbSh m N T1 := by
  subst hT
  refine ⟨by show (t.rows.set i pre).length = m; rw [List.length_set]; exact hrl, fun r hr => ?_, ht.cl, by show (t.bas.set i (k : Int)).length = m; rw [List.length_set]; exact hbl, fun q hq => ?_, hsm⟩
  ·
   rcases List.mem_or_eq_of_mem_set hr with hr | rfl
   ·
    exact ht.rw_ r hr
   ·
    omega
  ·
   show 0 ≤ gti (t.bas.set i (k : Int)) q ∧ gti (t.bas.set i (k : Int)) q < N
   rw [gtiI_set _ _ _ _ (by rw [hbl]; exact hi)]
   split
   ·
    omega
   ·
    exact ht.bs q hq
 have he1 : T1.e = 0 := by subst hT; exact he
 have hc1 : T1.cost = t.cost := by subst hT; rfl
 refine kw_stEq (σ' := stE z T1 0) (by
  subst hT
  simp only [stE, tbC, List.length_set, List.map_set]
  rfl) ?_
 refine kw_region (kops_s rfl (kops_s rfl (kops_f zc4 rfl (kops_op rfl rfl (zaa rfl) (zap rfl ta45 rfl rfl rfl rfl rfl) (kops_op rfl rfl (zaa rfl) (zc6 rfl ts45 rfl) (kops_s rfl (kops_nil (zai (kw_block ?_)))))))))
 rw [hrl] at HI
 refine kw_loops (S := Nat × Tb) (fun s => [(0, .ptr 0 5 0 0), (1, eI i), (2, eI k), (7, eL eF pre), (67, eI m), (68, eI s.1)]) (fun s => [.row 5 [tbC s.2 0], .row 1 (s.2.rows.map (eL eF)), .row 1 (s.2.bas.map eI), .row z.n z.cs]) (fun s => s.1 ≤ m ∧ TbSh m N s.2 ∧ s.2.e = 0 ∧ R = pivFin k pre (pivJ i k pre (m - s.1) s.1 s.2)) (fun s => m - s.1) (0, T1)
  (kwk_sub ⟨rfl, rfl, rfl, rfl, by rw [← hT1.rl]; rfl, rfl, trivial⟩) ⟨Nat.zero_le _, hT1, he1, HI⟩ (fun s hs => ?_)
 obtain ⟨j, tj⟩ := s
 obtain ⟨hj, hs1, hs2, HJ⟩ := hs
 dsimp only at hj hs1 hs2 HJ ⊢
 clear hT he1 hc1 hT1 HI T1 hxr2 hxb hxk hxr hrow hby ht hdl hv h30
 have hrj := hs1.rl
 refine kw_seq (kw_region ?_)
 refine kops_opP rfl rfl (zaa rfl) (za4 rfl rfl rfl) (fun h69 => ?_) (fun h69 => ?_)
 all_goals refine kops_nil (kw_seq ?_)
 all_goals (first | refine kw_true rfl ?_ | refine kw_false rfl ?_)
 all_goals (repeat (first | refine kw_seq ?_ | refine kw_skip ?_ | refine kw_block ?_))
 ·
  have hlt : j < m := by omega
  have hrow := hs1.row hlt
  have hxr : (tj.rows.map (eL eF))[j]? = some (eL eF (gti tj.rows j)) := zbd (by omega)
  have hxk : ((gti tj.rows j).map eF)[k]? = some (eF (gti (gti tj.rows j) k)) := zbd (by omega)
  rw [show m - j = (m - (j + 1)) + 1 by omega] at HJ
  unfold pivJ at HJ
  refine kw_region (kops_s rfl (kops_s rfl (kops_nil (kw_seq (kw_seq (kw_region (kops_s rfl (kops_s rfl ?_))))))))
  refine kops_opP rfl rfl (zaa rfl) (zbk rfl rfl rfl) (fun h73 => ?_) (fun h73 => ?_)
  all_goals refine kops_s rfl ?_
  all_goals (first | refine kops_s rfl ?_ | refine kops_z rfl ?_)
  all_goals (first | refine kops_s rfl ?_ | refine kops_z rfl ?_)
  all_goals (first | refine kops_f zc4 rfl ?_ | refine kops_z rfl ?_)
  all_goals (first | refine kops_op rfl rfl (zas rfl rfl rfl) (zap rfl ta45 rfl rfl rfl rfl rfl) ?_ | refine kops_z rfl ?_)
  all_goals (first | refine kops_s rfl ?_ | refine kops_z rfl ?_)
  all_goals (first | refine kops_op rfl rfl (zas rfl rfl rfl) (zau rfl ts45 ti30 rfl rfl rfl (by omega)) ?_ | refine kops_z rfl ?_)
  all_goals (first | refine kops_op rfl rfl (zas rfl rfl rfl) (zap rfl ta30 rfl rfl rfl hxr rfl) ?_ | refine kops_z rfl ?_)
  all_goals (first | refine kops_s rfl ?_ | refine kops_z rfl ?_)
  all_goals (first | refine kops_op rfl rfl (zas rfl rfl rfl) (zal rfl ts30 ti51 rfl rfl rfl hxk rfl) ?_ | refine kops_z rfl ?_)
  all_goals (first | refine kops_f tf51_0 rfl ?_ | refine kops_z rfl ?_)
  all_goals (first | refine kops_l ta3 rfl ?_ | refine kops_z rfl ?_)
  all_goals (first | refine kops_opP rfl rfl (zas rfl rfl rfl) (zbk rfl rfl rfl) (fun h86 => ?_) (fun h86 => ?_) | refine kops_z rfl ?_)
  all_goals refine kops_s rfl (kops_nil (zai ?_))
  all_goals (first | refine kw_true rfl ?_ | refine kw_false rfl ?_)
  all_goals (repeat (first | refine kw_seq ?_ | refine kw_skip ?_))
  ·
   rw [if_pos (.inl (by omega))] at HJ
   (refine kw_exit ?_; repeat (first | refine zc3 ?_ | refine zb2 ?_ | refine zbq rfl ?_ | refine zbu ?_ | refine zai ?_ | refine kw_seq ?_ | refine kw_skip ?_ | refine kw_block ?_))
   refine kw_region (kops_op rfl rfl (zaa rfl) (zav rfl rfl rfl (IntWalk.i64_in _ (by omega))) (kops_s rfl (kops_nil (zai ?_))))
   exact ⟨(j + 1, tj), ⟨by show j + 1 ≤ m; omega, hs1, hs2, HJ⟩, by show m - (j + 1) < m - j; omega, kwk_sub ⟨rfl, rfl, rfl, rfl, rfl, rfl, trivial⟩⟩
  ·
   rw [if_pos (.inr h86)] at HJ
   (refine kw_exit ?_; repeat (first | refine zc3 ?_ | refine zb2 ?_ | refine zbq rfl ?_ | refine zbu ?_ | refine zai ?_ | refine kw_seq ?_ | refine kw_skip ?_ | refine kw_block ?_))
   refine kw_region (kops_op rfl rfl (zaa rfl) (zav rfl rfl rfl (IntWalk.i64_in _ (by omega))) (kops_s rfl (kops_nil (zai ?_))))
   exact ⟨(j + 1, tj), ⟨by show j + 1 ≤ m; omega, hs1, hs2, HJ⟩, by show m - (j + 1) < m - j; omega, kwk_sub ⟨rfl, rfl, rfl, rfl, rfl, rfl, trivial⟩⟩
  ·
   have hji : ¬ j = i := by omega
   rw [if_neg (by intro h; rcases h with h | h <;> contradiction)] at HJ
   have hls := less_call (P := P) z tj (gti tj.rows j) pre (gti (gti tj.rows j) k) (by omega) (by omega)
   have hll := less_len (by_ := gti (gti tj.rows j) k) (gti tj.rows j) pre
   generalize zdo (gti (gti tj.rows j) k) (gti tj.rows j) pre = L at HJ hls hll
   dsimp only at HJ
   refine kw_draw hmix ?_
   refine edraw_lastT rfl (by kernel_rfl) ?_
   simp only [List.dropLast]
   refine edraw_f0 (invT tj) (invT_app) ?_
   refine zbc rfl rfl (zaa rfl) (fun _ => (mv_ptr (.inl rfl) rfl)) ⟨rfl, ⟨_, rfl⟩⟩ ?_
   refine zbc rfl rfl (zaa rfl) (fun _ => (zco rfl rfl)) ⟨rfl, ⟨_, rfl⟩⟩ ?_
   refine zbc rfl rfl (zaa rfl) (fun _ => (zbz rfl zc4 (by decide) rfl)) ⟨rfl, ⟨_, rfl⟩⟩ ?_
   refine fx_inv rfl rfl (zaa rfl) (fun σ2 h => by obtain ⟨_, h⟩ := h; exact zap rfl ta45 rfl h rfl rfl rfl) ⟨rfl, ⟨_, rfl⟩⟩ ?_
   refine zbc rfl rfl (zaa rfl) (fun _ => (mv_s (.inl rfl) rfl)) ⟨rfl, ⟨_, rfl⟩⟩ ?_
   refine zbc rfl rfl (zaa rfl) (fun _ => (mv_ptr (.inl rfl) rfl)) ⟨rfl, ⟨_, rfl⟩⟩ ?_
   refine zbc rfl rfl (zaa rfl) (fun _ => (mv_ptr (.inl rfl) rfl)) ⟨rfl, ⟨_, rfl⟩⟩ ?_
   refine zbc rfl rfl (zaa rfl) (fun _ => (zco rfl rfl)) ⟨rfl, ⟨_, rfl⟩⟩ ?_
   refine zbc rfl rfl (zaa rfl) (fun _ => (zbz rfl zc4 (by decide) rfl)) ⟨rfl, ⟨_, rfl⟩⟩ ?_
   refine fx_inv rfl rfl (zaa rfl) (fun σ2 h => by obtain ⟨_, h⟩ := h; exact zap rfl ta45 rfl h rfl rfl rfl) ⟨rfl, ⟨_, rfl⟩⟩ ?_
   refine zbc rfl rfl (zaa rfl) (fun _ => (mv_s (.inl rfl) rfl)) ⟨rfl, ⟨_, rfl⟩⟩ ?_
   refine zbc rfl rfl (zaa rfl) (fun _ => (zau rfl ts45 ti30 rfl rfl rfl (by omega))) ⟨rfl, ⟨_, rfl⟩⟩ ?_
   refine fx_look rfl rfl (zaa rfl) (zbn rfl ta30 rfl rfl rfl hxr rfl) ⟨rfl, ⟨_, rfl⟩⟩ (by intro id h; simp at h; subst h; exact Nat.le_of_ble_eq_true rfl) ?_
   refine zbc rfl rfl (zaa rfl) (fun _ => (mv_sl (.inl rfl) rfl)) ⟨rfl, ⟨_, rfl⟩⟩ ?_
   refine zbc rfl rfl (zaa rfl) (fun _ => (mv_ptr (.inl rfl) rfl)) ⟨rfl, ⟨_, rfl⟩⟩ ?_
   refine zbc rfl rfl (zaa rfl) (fun _ => (zco rfl rfl)) ⟨rfl, ⟨_, rfl⟩⟩ ?_
   refine zbc rfl rfl (zaa rfl) (fun _ => (zbz rfl zc4 (by decide) rfl)) ⟨rfl, ⟨_, rfl⟩⟩ ?_
   refine fx_inv rfl rfl (zaa rfl) (fun σ2 h => by obtain ⟨_, h⟩ := h; exact zap rfl ta45 rfl h rfl rfl rfl) ⟨rfl, ⟨_, rfl⟩⟩ ?_
   refine zbc rfl rfl (zaa rfl) (fun _ => (mv_s (.inl rfl) rfl)) ⟨rfl, ⟨_, rfl⟩⟩ ?_
   refine zbc rfl rfl (zaa rfl) (fun _ => (zau rfl ts45 ti30 rfl rfl rfl (by omega))) ⟨rfl, ⟨_, rfl⟩⟩ ?_
   refine fx_look rfl rfl (zaa rfl) (zbn rfl ta30 rfl rfl rfl hxr rfl) ⟨rfl, ⟨_, rfl⟩⟩ (by intro id h; simp at h; subst h; exact Nat.le_of_ble_eq_true rfl) ?_
   refine zbc rfl rfl (zaa rfl) (fun _ => (mv_s (.inl rfl) rfl)) ⟨rfl, ⟨_, rfl⟩⟩ ?_
   refine zbc rfl rfl (zaa rfl) (fun _ => (zal rfl ts30 ti51 rfl rfl rfl hxk rfl)) ⟨rfl, ⟨_, rfl⟩⟩ ?_
   refine zbc rfl rfl (zaa rfl) (fun _ => (zcv rfl ta51 ti51 rfl rfl)) ⟨rfl, ⟨_, rfl⟩⟩ ?_
   refine fx_m0 rfl rfl rfl (zaa rfl) (zbo rfl rfl (hls) (zad rfl (zad rfl (zad rfl (zad rfl zaq))))) ⟨rfl, ⟨_, rfl⟩⟩ ?_
   refine zbc rfl rfl (zaa rfl) (fun _ => (zau rfl ts45 ti30 rfl rfl rfl (by omega))) ⟨rfl, ⟨_, rfl⟩⟩ ?_
   refine fx_nil ⟨rfl, ⟨_, rfl⟩⟩ (by kernel_rfl) (.inr ⟨rfl, Nat.le_refl _⟩) ?_
   simp only [if_true, Bool.false_eq_true, if_false, List.append_nil, List.cons_append, List.nil_append]
   refine zai (eops_eff rfl (zaa rfl) (zaj rfl ti30 rfl rfl rfl hxr rfl rfl (by decide) (by decide)) (zdd (kw_seq ?_)))
   refine kw_stEq (σ' := stE z { tj with rows := tj.rows.set j L.1 } L.2) (by
    simp only [stE, tbC, List.length_set, List.map_set]
    rfl) ?_
   refine kw_region (kops_s rfl (kops_s rfl (kops_f zdu rfl (kops_op rfl rfl (zaa rfl) (zap rfl ta33 rfl rfl rfl rfl rfl) ?_))))
   refine kops_opP rfl rfl (zaa rfl) (zbw rfl rfl rfl) (fun h118 => ?_) (fun h118 => ?_)
   all_goals refine kops_nil (zai ?_)
   all_goals (first | refine kw_true rfl ?_ | refine kw_false rfl ?_)
   all_goals (repeat (first | refine zai ?_ | refine kw_skip ?_ | refine zbu ?_))
   ·
    rw [if_pos h118] at HJ
    unfold pivFin at HJ
    rw [if_pos h118] at HJ
    (refine kw_ret ?_; repeat (first | refine zbg ?_ | refine zbh ?_))
    subst HJ
    exact ⟨.inr rfl, rfl⟩
   ·
    rw [if_neg h118] at HJ
    have h1 : L.2 = 0 := Decidable.not_not.1 h118
    rw [h1]
    refine kw_region (kops_op rfl rfl (zaa rfl) (zav rfl rfl rfl (IntWalk.i64_in _ (by omega))) (kops_s rfl (kops_nil (zai ?_))))
    refine ⟨(j + 1, { tj with rows := tj.rows.set j L.1 }), ⟨by show j + 1 ≤ m; omega, ⟨by show (tj.rows.set j L.1).length = m; rw [List.length_set]; exact hrj, fun r hr => ?_, hs1.cl, hs1.bl, hs1.bs, hsm⟩, hs2, HJ⟩, by show m - (j + 1) < m - j; omega, kwk_sub ⟨rfl, rfl, rfl, rfl, rfl, rfl, trivial⟩⟩
    rcases List.mem_or_eq_of_mem_set hr with hr | rfl
    ·
     exact hs1.rw_ r hr
    ·
     have := hll h1; omega
 ·
  have ej : j = m := by omega
  subst ej
  rw [Nat.sub_self] at HJ
  unfold pivJ pivFin at HJ
  rw [if_neg (by omega)] at HJ
  (refine kw_exit ?_; repeat (first | refine zc3 ?_ | refine zb2 ?_ | refine zbq rfl ?_ | refine zbu ?_ | refine zai ?_ | refine kw_seq ?_ | refine kw_skip ?_ | refine kw_block ?_))
  have hcl := hs1.cl
  have hxc : (tj.cost.map eF)[k]? = some (eF (gti tj.cost k)) := zbd (by omega)
  refine kw_region (kops_s rfl (kops_s rfl (kops_f tf108_1 rfl (kops_op rfl rfl (zaa rfl) (zap rfl ta30 rfl rfl rfl rfl rfl) (kops_s rfl (kops_op rfl rfl (zaa rfl) (zal rfl ts30 ti51 rfl rfl rfl hxc rfl) (kops_f tf51_0 rfl (kops_l ta3 rfl ?_))))))))
  refine kops_opP rfl rfl (zaa rfl) (zbw rfl rfl rfl) (fun h128 => ?_) (fun h128 => ?_)
  all_goals refine kops_nil (zai ?_)
  all_goals (first | refine kw_true rfl ?_ | refine kw_false rfl ?_)
  all_goals repeat refine kw_skip ?_
  ·
   have hR : R = { tj with cost := (zdo (gti tj.cost k) tj.cost pre).1, e := (zdo (gti tj.cost k) tj.cost pre).2 } := by rw [HJ]; unfold pivC; rw [if_neg h128]
   have hls := less_call (P := P) z tj tj.cost pre (gti tj.cost k) (by omega) (by omega)
   generalize zdo (gti tj.cost k) tj.cost pre = L at hR hls
   refine kw_draw hmix ?_
   refine edraw_lastT rfl (by kernel_rfl) ?_
   simp only [List.dropLast]
   refine edraw_f0 (invT tj) (invT_app) ?_
   refine zbc rfl rfl (zaa rfl) (fun _ => (mv_ptr (.inl rfl) rfl)) ⟨rfl, ⟨_, rfl⟩⟩ ?_
   refine zbc rfl rfl (zaa rfl) (fun _ => (mv_ptr (.inl rfl) rfl)) ⟨rfl, ⟨_, rfl⟩⟩ ?_
   refine zbc rfl rfl (zaa rfl) (fun _ => (mv_ptr (.inl rfl) rfl)) ⟨rfl, ⟨_, rfl⟩⟩ ?_
   refine zbc rfl rfl (zaa rfl) (fun _ => (zco rfl rfl)) ⟨rfl, ⟨_, rfl⟩⟩ ?_
   refine zbc rfl rfl (zaa rfl) (fun _ => (zbz rfl tf108_1 (by decide) rfl)) ⟨rfl, ⟨_, rfl⟩⟩ ?_
   refine fx_inv rfl rfl (zaa rfl) (fun σ2 h => by obtain ⟨_, h⟩ := h; exact zap rfl ta30 rfl h rfl rfl rfl) ⟨rfl, ⟨_, rfl⟩⟩ ?_
   refine zbc rfl rfl (zaa rfl) (fun _ => (mv_sl (.inl rfl) rfl)) ⟨rfl, ⟨_, rfl⟩⟩ ?_
   refine zbc rfl rfl (zaa rfl) (fun _ => (mv_ptr (.inl rfl) rfl)) ⟨rfl, ⟨_, rfl⟩⟩ ?_
   refine zbc rfl rfl (zaa rfl) (fun _ => (zco rfl rfl)) ⟨rfl, ⟨_, rfl⟩⟩ ?_
   refine zbc rfl rfl (zaa rfl) (fun _ => (zbz rfl tf108_1 (by decide) rfl)) ⟨rfl, ⟨_, rfl⟩⟩ ?_
   refine fx_inv rfl rfl (zaa rfl) (fun σ2 h => by obtain ⟨_, h⟩ := h; exact zap rfl ta30 rfl h rfl rfl rfl) ⟨rfl, ⟨_, rfl⟩⟩ ?_
   refine zbc rfl rfl (zaa rfl) (fun _ => (mv_s (.inl rfl) rfl)) ⟨rfl, ⟨_, rfl⟩⟩ ?_
   refine zbc rfl rfl (zaa rfl) (fun _ => (zal rfl ts30 ti51 rfl rfl rfl hxc rfl)) ⟨rfl, ⟨_, rfl⟩⟩ ?_
   refine zbc rfl rfl (zaa rfl) (fun _ => (zcv rfl ta51 ti51 rfl rfl)) ⟨rfl, ⟨_, rfl⟩⟩ ?_
   refine fx_m0 rfl rfl rfl (zaa rfl) (zbo rfl rfl (hls) (zad rfl (zad rfl (zad rfl (zad rfl zaq))))) ⟨rfl, ⟨_, rfl⟩⟩ ?_
   refine zbc rfl rfl (zaa rfl) (fun _ => (zco rfl rfl)) ⟨rfl, ⟨_, rfl⟩⟩ ?_
   refine zbc rfl rfl (zaa rfl) (fun _ => (zbz rfl tf108_1 (by decide) rfl)) ⟨rfl, ⟨_, rfl⟩⟩ ?_
   refine fx_nil ⟨rfl, ⟨_, rfl⟩⟩ (by kernel_rfl) (.inr ⟨rfl, Nat.le_refl _⟩) ?_
   simp only [if_true, Bool.false_eq_true, if_false, List.append_nil, List.cons_append, List.nil_append]
   refine zai (eops_eff rfl (zaa rfl) (zaj rfl ti30 rfl rfl rfl rfl rfl rfl (by decide) (by decide)) (zdd ?_))
   subst hR
   exact ⟨.inl rfl, rfl⟩
  ·
   have hR : R = tj := by rw [HJ]; unfold pivC; rw [if_pos (by omega)]
   subst hR
   exact ⟨.inl rfl, by rw [hs2]; rfl⟩
end K4
end Go.Proofs.Ytllkbjcemecmjaa.Aw
end
section
namespace Go.Proofs.Ytllkbjcemecmjaa.Aw
open Go Go.RowKit Go.Proofs
variable {P : Program} [IsP P]
namespace K4
set_option maxHeartbeats 4000000 in
theorem leave_call {m N : Nat} (z : Zc) (t : Tb) (ht : TbSh m N t) (k : Nat) (hk : k ≤ N) :
  CallE P 82 [.ptr 0 5 0 0, eI k] (stE z t 0) (eI (lvE k t).1) (stE z t (lvE k t).2) := by
 have hrl := ht.rl
 have hbl := ht.bl
 have hsm := ht.sm
 have HI : lvE k t = lvF k t m 0 (-1) ⟨0, 0⟩ := by unfold lvE; rw [hrl]
 generalize lvE k t = R at HI ⊢
 refine callE_fn1 (Nat.le_refl _) (by rw [IsP.eq (P := P)]; exact Try.func82) rfl rfl (Nat.le_of_ble_eq_true rfl) rfl ?_
 simp only [argF]
 refine kw_seq (kw_region (kops_s rfl (kops_nil (kw_seq (kw_region (kops_s rfl (kops_nil (kw_seq (kw_region (kops_op rfl rfl (zaa rfl) (za0 rfl ti51 rfl rfl) (kops_nil (kw_seq (kw_seq (kw_region (kops_s rfl (kops_s rfl (kops_f zc4 rfl (kops_op rfl rfl (zaa rfl) (zap rfl ta45 rfl rfl rfl rfl rfl) (kops_op rfl rfl (zaa rfl) (zc6 rfl ts45 rfl) (kops_s rfl (kops_nil (zai (kw_block ?_)))))))))))))))))))))))
 refine kw_loops (S := Nat × Int × Fr) (fun s => [(0, .ptr 0 5 0 0), (1, eI k), (5, eI s.2.1), (6, .ptr 4 2 0 0), (14, .own 1 1 t.rows.length), (15, eI m), (16, eI s.1)]) (fun s => [.row 5 [tbC t 0], .row 1 (t.rows.map (eL eF)), .row 1 (t.bas.map eI), .row z.n z.cs, .row 2 [eF s.2.2]]) (fun s => s.1 ≤ m ∧ (s.2.1 = -1 ∨ ∃ b : Nat, s.2.1 = b ∧ b < m) ∧ R = lvF k t (m - s.1) s.1 s.2.1 s.2.2) (fun s => m - s.1) (0, -1, ⟨0, 0⟩)
  (kwk_sub ⟨rfl, rfl, rfl, rfl, rfl, by rw [← hrl]; rfl, rfl, trivial⟩) ⟨Nat.zero_le _, .inl rfl, HI⟩ (fun s hs => ?_)
 obtain ⟨i, best, least⟩ := s
 obtain ⟨hi, hb, HJ⟩ := hs
 dsimp only at hi hb HJ ⊢
 clear HI
 refine kw_seq (kw_region ?_)
 refine kops_opP rfl rfl (zaa rfl) (za4 rfl rfl rfl) (fun h17 => ?_) (fun h17 => ?_)
 all_goals refine kops_nil (kw_seq ?_)
 all_goals (first | refine kw_true rfl ?_ | refine kw_false rfl ?_)
 all_goals (repeat (first | refine kw_seq ?_ | refine kw_skip ?_ | refine kw_block ?_))
 ·
  have hlt : i < m := by omega
  have hrow := ht.row hlt
  have hxr : (t.rows.map (eL eF))[i]? = some (eL eF (gti t.rows i)) := zbd (by omega)
  have hxk : ((gti t.rows i).map eF)[k]? = some (eF (gti (gti t.rows i) k)) := zbd (by omega)
  have hxN : ((gti t.rows i).map eF)[N]? = some (eF (gti (gti t.rows i) N)) := zbd (by omega)
  have hxb : (t.bas.map eI)[i]? = some (eI (gti t.bas i)) := zbd (by omega)
  rw [show m - i = (m - (i + 1)) + 1 by omega] at HJ
  unfold lvF at HJ
  dsimp only at HJ
  rw [show (gti t.rows i).length - 1 = N by omega] at HJ
  refine kw_region (kops_s rfl (kops_op rfl rfl (zaa rfl) (zau rfl ts45 ti30 rfl rfl rfl (by omega)) (kops_op rfl rfl (zaa rfl) (zap rfl ta30 rfl rfl rfl hxr rfl) (kops_s rfl (kops_s rfl (kops_nil (kw_seq (kw_seq (kw_region (kops_s rfl (kops_s rfl (kops_op rfl rfl (zaa rfl) (zal rfl ts30 ti51 rfl rfl rfl hxk rfl) (kops_f tf51_0 rfl (kops_l ta3 rfl ?_))))))))))))))
  refine kops_opP rfl rfl (zaa rfl) (does_leq rfl rfl rfl) (fun h26 => ?_) (fun h26 => ?_)
  all_goals refine kops_nil (zai ?_)
  all_goals (first | refine kw_true rfl ?_ | refine kw_false rfl ?_)
  all_goals (repeat (first | refine kw_seq ?_ | refine kw_skip ?_))
  ·
   rw [if_pos h26] at HJ
   (refine kw_exit ?_; repeat (first | refine zc3 ?_ | refine zb2 ?_ | refine zbq rfl ?_ | refine zbu ?_ | refine zai ?_ | refine kw_seq ?_ | refine kw_skip ?_ | refine kw_block ?_))
   refine kw_region (kops_op rfl rfl (zaa rfl) (zav rfl rfl rfl (IntWalk.i64_in _ (by omega))) (kops_s rfl (kops_nil (zai ?_))))
   exact ⟨(i + 1, best, least), ⟨by show i + 1 ≤ m; omega, hb, HJ⟩, by show m - (i + 1) < m - i; omega, kwk_sub ⟨rfl, rfl, rfl, rfl, rfl, rfl, rfl, trivial⟩⟩
  ·
   rw [if_neg h26] at HJ
   have hnr := fun R hR => note0 (P := P) t R hR (divE (gti (gti t.rows i) N) (gti (gti t.rows i) k)).fr (divE (gti (gti t.rows i) N) (gti (gti t.rows i) k)).e
   have hkN : (((gti t.rows i).length : Nat) : Int) - 1 = ((N : Nat) : Int) := by omega
   refine kw_draw hmix ?_
   refine edraw_lastT rfl (by kernel_rfl) ?_
   simp only [List.dropLast]
   refine edraw_fx 15 (.row 2 [.agg [eI 0, eI 0]]) (fun _ => True) (fun _ _ => trivial) ?_
   refine zbc rfl rfl (zaa rfl) (fun _ => (mv_ptr (.inl rfl) rfl)) ⟨rfl, trivial⟩ ?_
   refine zbc rfl rfl (zaa rfl) (fun _ => (mv_sl (.inl rfl) rfl)) ⟨rfl, trivial⟩ ?_
   refine zbc rfl rfl (zaa rfl) (fun _ => (mv_sl (.inl rfl) rfl)) ⟨rfl, trivial⟩ ?_
   refine zbc rfl rfl (zaa rfl) (fun _ => (zao rfl ts30 rfl)) ⟨rfl, trivial⟩ ?_
   refine zbc rfl rfl (zaa rfl) (fun _ => (does_sub rfl rfl rfl (IntWalk.i64_in _ (by omega)))) ⟨rfl, trivial⟩ ?_
   refine zbc rfl rfl (zaa rfl) (fun _ => (zal rfl ts30 ti51 rfl rfl hkN hxN rfl)) ⟨rfl, trivial⟩ ?_
   refine zbc rfl rfl (zaa rfl) (fun _ => (zcv rfl ta51 ti51 rfl rfl)) ⟨rfl, trivial⟩ ?_
   refine zbc rfl rfl (zaa rfl) (fun _ => (mv_sl (.inl rfl) rfl)) ⟨rfl, trivial⟩ ?_
   refine zbc rfl rfl (zaa rfl) (fun _ => (mv_s (.inl rfl) rfl)) ⟨rfl, trivial⟩ ?_
   refine zbc rfl rfl (zaa rfl) (fun _ => (zal rfl ts30 ti51 rfl rfl rfl hxk rfl)) ⟨rfl, trivial⟩ ?_
   refine zbc rfl rfl (zaa rfl) (fun _ => (zcv rfl ta51 ti51 rfl rfl)) ⟨rfl, trivial⟩ ?_
   refine zbc rfl rfl (zaa rfl) (fun _ => (zam rfl rfl ((fDiv_pf (gti (gti t.rows i) N) (gti (gti t.rows i) k))) (zad rfl (zad rfl zaq)))) ⟨rfl, trivial⟩ ?_
   refine zbc rfl rfl (zaa rfl) (fun _ => (zde rfl rfl rfl)) ⟨rfl, trivial⟩ ?_
   refine zbc rfl rfl (zaa rfl) (fun _ => (zde rfl rfl rfl)) ⟨rfl, trivial⟩ ?_
   refine fx_n0 rfl rfl (zaa rfl) (fun X => zbo rfl rfl (hnr _ (by simp <;> omega)) (zad rfl (zad rfl (zad rfl zaq)))) ⟨rfl, trivial⟩ ?_
   refine fx_flt rfl rfl (zaa rfl) (does_alloc_flt (fun σ => (za0 rfl ti51 rfl rfl))) ⟨rfl, trivial⟩ ?_
   refine fx_nil ⟨rfl, trivial⟩ (by kernel_rfl) (.inl ⟨rfl, rfl⟩) ?_
   simp only [if_true, Bool.false_eq_true, if_false, List.append_nil, List.cons_append, List.nil_append]
   refine zai (eops_eff rfl (zaa rfl) (zaj rfl ti51 rfl rfl rfl rfl rfl rfl (by decide) (by decide)) (zdd (kw_seq (kw_seq ?_))))
   generalize divE (gti (gti t.rows i) N) (gti (gti t.rows i) k) = r at HJ hnr ⊢
   refine kw_region (kops_s rfl (kops_s rfl (kops_f zdu rfl (kops_op rfl rfl (zaa rfl) (zap rfl ta33 rfl rfl rfl rfl rfl) ?_))))
   refine kops_opP rfl rfl (zaa rfl) (zbw rfl rfl rfl) (fun h46 => ?_) (fun h46 => ?_)
   all_goals refine kops_nil (zai ?_)
   all_goals (first | refine kw_true rfl ?_ | refine kw_false rfl ?_)
   all_goals (repeat (first | refine kw_seq ?_ | refine kw_skip ?_))
   ·
    rw [if_pos h46] at HJ
    refine kw_region (kops_s rfl (kops_nil (zai ?_)))
    refine kw_weak (kwk_cut (σ := stE z t r.e) (F' := [(4, eI (-1))]) (by simp [stE]) (stE_lo _ _ _) ⟨⟨rfl, .s _⟩, trivial⟩) ?_
    (refine kw_ret ?_; repeat (first | refine zbg ?_ | refine zbh ?_))
    subst HJ
    exact ⟨.inr rfl, rfl, rfl⟩
   ·
    rw [if_neg h46] at HJ
    have h0 : r.e = 0 := Decidable.not_not.1 h46
    rw [h0]
    refine kw_region (kops_s rfl (kops_nil (kw_seq (kw_seq (kw_region (kops_s rfl ?_))))))
    refine kops_opP rfl rfl (zaa rfl) (zcz rfl rfl rfl) (fun h48 => ?_) (fun h48 => ?_)
    all_goals refine kops_nil (zai ?_)
    all_goals (first | refine kw_true rfl ?_ | refine kw_false rfl ?_)
    all_goals (repeat (first | refine kw_seq ?_ | refine kw_skip ?_))
    ·
     obtain ⟨b, rfl, hbm⟩ : ∃ b : Nat, best = b ∧ b < m := by
      rcases hb with hb | hb
      ·
       omega
      ·
       exact hb
     rw [if_neg (show ¬ ((b : Int) < 0) by omega), show (b : Int).toNat = b from rfl] at HJ
     have hxbb : (t.bas.map eI)[b]? = some (eI (gti t.bas b)) := zbd (by omega)
     refine kw_region (kops_op rfl rfl (zaa rfl) (zba rfl ta51 ti51 rfl rfl rfl rfl rfl) (kops_op rfl rfl (zaa rfl) (zba rfl ta51 ti51 rfl rfl rfl rfl rfl) (kops_op rfl rfl (zaa rfl) (zam rfl rfl ((fCmp_pf r.fr least)) (zad rfl (zad rfl zaq))) (kops_s rfl (kops_s rfl (kops_s rfl (kops_s rfl (kops_nil (kw_seq ?_)))))))))
     generalize (cmpE r.fr least).1 = c at HJ ⊢
     by_cases c1 : c < 0
     ·
      rw [if_pos (.inl c1)] at HJ
      refine kw_draw hmix ?_
      refine kdraw_ex ?_
      refine ex_s rfl (zaz rfl rfl (zaa rfl) (fun _ => (zds c1 (za4 rfl rfl rfl))) (ex_s rfl (ex_z rfl (ex_z rfl (ex_z rfl (zb9 rfl rfl (zbf rfl rfl rfl) (zb9 rfl rfl (zbf rfl rfl rfl) (zb9 rfl rfl (zbf rfl rfl rfl) (zb9 rfl rfl (zbf rfl rfl rfl) (zb9 rfl rfl (zbf rfl rfl rfl) (zb9 rfl rfl (zbf rfl rfl rfl) (zb9 rfl rfl (zbf rfl rfl rfl) (zb9 rfl rfl (zbf rfl rfl rfl) (zb9 rfl rfl (zbf rfl rfl rfl) (zb9 rfl rfl (zbf rfl rfl rfl) (zb9 rfl rfl (zbf rfl rfl rfl) (zb9 rfl rfl (zbf rfl rfl rfl) ?_)))))))))))))))))
      refine zb9 rfl rfl (zbf rfl rfl rfl) (zb9 rfl rfl (zbf rfl rfl rfl) (zb9 rfl rfl (zbf rfl rfl rfl) (ex_z rfl (ex_s rfl ?_))))
      refine zcc (by kernel_rfl) ?_
      refine zai (kw_true rfl ?_)
      refine kw_draw hmix ?_
      refine kdraw_ex ?_
      refine ex_s rfl (zbt rfl rfl (zaa rfl) (look_whole rfl ta51 ti51 rfl rfl rfl rfl rfl) (ex_s rfl ?_))
      refine zci rfl (zaa rfl) (zaj rfl ti51 rfl rfl rfl rfl rfl rfl (by decide) (by decide)) (fun _ h => zbr h) ?_
      refine zcc (by kernel_rfl) ?_
      refine zbu (zai (kw_region (kops_op rfl rfl (zaa rfl) (zav rfl rfl rfl (IntWalk.i64_in _ (by omega))) (kops_s rfl (kops_nil (zai ?_))))))
      exact ⟨(i + 1, i, r.fr), ⟨by show i + 1 ≤ m; omega, .inr ⟨i, rfl, hlt⟩, HJ⟩, by show m - (i + 1) < m - i; omega, kwk_st [0, 1, 2, 3, 4] rfl rfl rfl rfl (by decide) ⟨⟨_, rfl, tb_ren rfl rfl⟩, ⟨_, rfl, .rowE (zdb t) rfl⟩, ⟨_, rfl, .rowE (bas_lo t) rfl⟩, ⟨_, rfl, .rowE z.lo rfl⟩, ⟨_, rfl, .rowE (by repeat' (first | exact Lo.s _ | exact za2 | refine zax ?_ ?_ | refine zar ?_ | refine Lo.cells ?_ | refine Lo.agg _ ?_ | exact zak | refine zag ?_ ?_ | intro _)) rfl⟩, trivial⟩ ⟨.ptr 0 0 5 0 0 rfl, .lo _ (.s _), .lo _ (.s _), .ptr 4 4 2 0 0 rfl, .own 1 1 1 _ _ rfl rfl, .lo _ (.s _), .lo _ (.s _), trivial⟩⟩
     ·
      by_cases c2 : c = 0
      ·
       by_cases c3 : gti t.bas i < gti t.bas b
       ·
        rw [if_pos (.inr ⟨c2, c3⟩)] at HJ
        refine kw_draw hmix ?_
        refine kdraw_ex ?_
        refine ex_s rfl (zaz rfl rfl (zaa rfl) (fun _ => (dec_f c1 (za4 rfl rfl rfl))) (ex_s rfl (ex_s rfl (zaz rfl rfl (zas rfl rfl rfl) (fun _ => (zds c2 (zbk rfl rfl rfl))) (ex_s rfl (ex_s rfl (ex_s rfl (ex_f zdi rfl (zbt rfl rfl (zas rfl rfl rfl) (zbn rfl ta22 rfl rfl rfl rfl rfl) (ex_s rfl (zaz rfl rfl (zas rfl rfl rfl) (fun _ => (zau rfl ts22 ti3 rfl rfl rfl (by omega))) (zbt rfl rfl (zas rfl rfl rfl) (zbn rfl ta3 rfl rfl rfl hxb rfl) (ex_s rfl (ex_s rfl (ex_f zdi rfl (zbt rfl rfl (zas rfl rfl rfl) (zbn rfl ta22 rfl rfl rfl rfl rfl) ?_))))))))))))))))
        refine ex_s rfl (zaz rfl rfl (zas rfl rfl rfl) (fun _ => (zau rfl ts22 ti3 rfl rfl rfl (by omega))) (zbt rfl rfl (zas rfl rfl rfl) (zbn rfl ta3 rfl rfl rfl hxbb rfl) (zaz rfl rfl (zas rfl rfl rfl) (fun _ => (zds c3 (za4 rfl rfl rfl))) (ex_s rfl (ex_s rfl ?_)))))
        refine zcc (by kernel_rfl) ?_
        refine zai (kw_true rfl ?_)
        refine kw_draw hmix ?_
        refine kdraw_ex ?_
        refine ex_s rfl (zbt rfl rfl (zaa rfl) (look_whole rfl ta51 ti51 rfl rfl rfl rfl rfl) (ex_s rfl ?_))
        refine zci rfl (zaa rfl) (zaj rfl ti51 rfl rfl rfl rfl rfl rfl (by decide) (by decide)) (fun _ h => zbr h) ?_
        refine zcc (by kernel_rfl) ?_
        refine zbu (zai (kw_region (kops_op rfl rfl (zaa rfl) (zav rfl rfl rfl (IntWalk.i64_in _ (by omega))) (kops_s rfl (kops_nil (zai ?_))))))
        exact ⟨(i + 1, i, r.fr), ⟨by show i + 1 ≤ m; omega, .inr ⟨i, rfl, hlt⟩, HJ⟩, by show m - (i + 1) < m - i; omega, kwk_st [0, 1, 2, 3, 4] rfl rfl rfl rfl (by decide) ⟨⟨_, rfl, tb_ren rfl rfl⟩, ⟨_, rfl, .rowE (zdb t) rfl⟩, ⟨_, rfl, .rowE (bas_lo t) rfl⟩, ⟨_, rfl, .rowE z.lo rfl⟩, ⟨_, rfl, .rowE (by repeat' (first | exact Lo.s _ | exact za2 | refine zax ?_ ?_ | refine zar ?_ | refine Lo.cells ?_ | refine Lo.agg _ ?_ | exact zak | refine zag ?_ ?_ | intro _)) rfl⟩, trivial⟩ ⟨.ptr 0 0 5 0 0 rfl, .lo _ (.s _), .lo _ (.s _), .ptr 4 4 2 0 0 rfl, .own 1 1 1 _ _ rfl rfl, .lo _ (.s _), .lo _ (.s _), trivial⟩⟩
       ·
        rw [if_neg (by intro h; rcases h with h | h; exact c1 h; exact c3 h.2)] at HJ
        refine kw_draw hmix ?_
        refine kdraw_ex ?_
        refine ex_s rfl (zaz rfl rfl (zaa rfl) (fun _ => (dec_f c1 (za4 rfl rfl rfl))) (ex_s rfl (ex_s rfl (zaz rfl rfl (zas rfl rfl rfl) (fun _ => (zds c2 (zbk rfl rfl rfl))) (ex_s rfl (ex_s rfl (ex_s rfl (ex_f zdi rfl (zbt rfl rfl (zas rfl rfl rfl) (zbn rfl ta22 rfl rfl rfl rfl rfl) (ex_s rfl (zaz rfl rfl (zas rfl rfl rfl) (fun _ => (zau rfl ts22 ti3 rfl rfl rfl (by omega))) (zbt rfl rfl (zas rfl rfl rfl) (zbn rfl ta3 rfl rfl rfl hxb rfl) (ex_s rfl (ex_s rfl (ex_f zdi rfl (zbt rfl rfl (zas rfl rfl rfl) (zbn rfl ta22 rfl rfl rfl rfl rfl) ?_))))))))))))))))
        refine ex_s rfl (zaz rfl rfl (zas rfl rfl rfl) (fun _ => (zau rfl ts22 ti3 rfl rfl rfl (by omega))) (zbt rfl rfl (zas rfl rfl rfl) (zbn rfl ta3 rfl rfl rfl hxbb rfl) (zaz rfl rfl (zas rfl rfl rfl) (fun _ => (dec_f c3 (za4 rfl rfl rfl))) (ex_s rfl (ex_s rfl ?_)))))
        refine zcc (by kernel_rfl) ?_
        refine zai (kw_false rfl (kw_skip (zbu (zai (kw_region (kops_op rfl rfl (zaa rfl) (zav rfl rfl rfl (IntWalk.i64_in _ (by omega))) (kops_s rfl (kops_nil (zai ?_)))))))))
        exact ⟨(i + 1, (b : Int), least), ⟨by show i + 1 ≤ m; omega, .inr ⟨b, rfl, hbm⟩, HJ⟩, by show m - (i + 1) < m - i; omega, kwk_st [0, 1, 2, 3, 4] rfl rfl rfl rfl (by decide) ⟨⟨_, rfl, tb_ren rfl rfl⟩, ⟨_, rfl, .rowE (zdb t) rfl⟩, ⟨_, rfl, .rowE (bas_lo t) rfl⟩, ⟨_, rfl, .rowE z.lo rfl⟩, ⟨_, rfl, .rowE (by repeat' (first | exact Lo.s _ | exact za2 | refine zax ?_ ?_ | refine zar ?_ | refine Lo.cells ?_ | refine Lo.agg _ ?_ | exact zak | refine zag ?_ ?_ | intro _)) rfl⟩, trivial⟩ ⟨.ptr 0 0 5 0 0 rfl, .lo _ (.s _), .lo _ (.s _), .ptr 4 4 2 0 0 rfl, .own 1 1 1 _ _ rfl rfl, .lo _ (.s _), .lo _ (.s _), trivial⟩⟩
      ·
       rw [if_neg (by intro h; rcases h with h | h; exact c1 h; exact c2 h.1)] at HJ
       refine kw_draw hmix ?_
       refine kdraw_ex ?_
       refine ex_s rfl (zaz rfl rfl (zaa rfl) (fun _ => (dec_f c1 (za4 rfl rfl rfl))) (ex_s rfl (ex_s rfl (zaz rfl rfl (zas rfl rfl rfl) (fun _ => (dec_f c2 (zbk rfl rfl rfl))) (ex_s rfl (ex_z rfl (ex_z rfl (ex_z rfl (ex_z rfl (ex_z rfl (ex_z rfl (ex_z rfl (ex_z rfl (ex_z rfl (ex_z rfl (ex_z rfl (ex_z rfl (ex_z rfl (ex_z rfl (ex_z rfl (ex_s rfl (ex_s rfl ?_))))))))))))))))))))))
       refine zcc (by kernel_rfl) ?_
       refine zai (kw_false rfl (kw_skip (zbu (zai (kw_region (kops_op rfl rfl (zaa rfl) (zav rfl rfl rfl (IntWalk.i64_in _ (by omega))) (kops_s rfl (kops_nil (zai ?_)))))))))
       exact ⟨(i + 1, (b : Int), least), ⟨by show i + 1 ≤ m; omega, .inr ⟨b, rfl, hbm⟩, HJ⟩, by show m - (i + 1) < m - i; omega, kwk_st [0, 1, 2, 3, 4] rfl rfl rfl rfl (by decide) ⟨⟨_, rfl, tb_ren rfl rfl⟩, ⟨_, rfl, .rowE (zdb t) rfl⟩, ⟨_, rfl, .rowE (bas_lo t) rfl⟩, ⟨_, rfl, .rowE z.lo rfl⟩, ⟨_, rfl, .rowE (by repeat' (first | exact Lo.s _ | exact za2 | refine zax ?_ ?_ | refine zar ?_ | refine Lo.cells ?_ | refine Lo.agg _ ?_ | exact zak | refine zag ?_ ?_ | intro _)) rfl⟩, trivial⟩ ⟨.ptr 0 0 5 0 0 rfl, .lo _ (.s _), .lo _ (.s _), .ptr 4 4 2 0 0 rfl, .own 1 1 1 _ _ rfl rfl, .lo _ (.s _), .lo _ (.s _), trivial⟩⟩
    ·
     rw [if_pos (show best < 0 by omega), if_pos (.inl (by omega))] at HJ
     have cm : (-1 : Int) < 0 := by omega
     refine kw_draw hmix ?_
     refine kdraw_ex ?_
     refine ex_s rfl (zaz rfl rfl (zaa rfl) (fun _ => (zds cm (za4 rfl rfl rfl))) (ex_s rfl (ex_z rfl (ex_z rfl (ex_z rfl (zb9 rfl rfl (zbf rfl rfl rfl) (zb9 rfl rfl (zbf rfl rfl rfl) (zb9 rfl rfl (zbf rfl rfl rfl) (zb9 rfl rfl (zbf rfl rfl rfl) (zb9 rfl rfl (zbf rfl rfl rfl) (zb9 rfl rfl (zbf rfl rfl rfl) (zb9 rfl rfl (zbf rfl rfl rfl) (zb9 rfl rfl (zbf rfl rfl rfl) (zb9 rfl rfl (zbf rfl rfl rfl) (zb9 rfl rfl (zbf rfl rfl rfl) (zb9 rfl rfl (zbf rfl rfl rfl) (zb9 rfl rfl (zbf rfl rfl rfl) ?_)))))))))))))))))
     refine zb9 rfl rfl (zbf rfl rfl rfl) (zb9 rfl rfl (zbf rfl rfl rfl) (zb9 rfl rfl (zbf rfl rfl rfl) (ex_z rfl (ex_s rfl ?_))))
     refine zcc (by kernel_rfl) ?_
     refine zai (kw_true rfl ?_)
     refine kw_draw hmix ?_
     refine kdraw_ex ?_
     refine ex_s rfl (zbt rfl rfl (zaa rfl) (look_whole rfl ta51 ti51 rfl rfl rfl rfl rfl) (ex_s rfl ?_))
     refine zci rfl (zaa rfl) (zaj rfl ti51 rfl rfl rfl rfl rfl rfl (by decide) (by decide)) (fun _ h => zbr h) ?_
     refine zcc (by kernel_rfl) ?_
     refine zbu (zai (kw_region (kops_op rfl rfl (zaa rfl) (zav rfl rfl rfl (IntWalk.i64_in _ (by omega))) (kops_s rfl (kops_nil (zai ?_))))))
     exact ⟨(i + 1, i, r.fr), ⟨by show i + 1 ≤ m; omega, .inr ⟨i, rfl, hlt⟩, HJ⟩, by show m - (i + 1) < m - i; omega, kwk_st [0, 1, 2, 3, 4] rfl rfl rfl rfl (by decide) ⟨⟨_, rfl, tb_ren rfl rfl⟩, ⟨_, rfl, .rowE (zdb t) rfl⟩, ⟨_, rfl, .rowE (bas_lo t) rfl⟩, ⟨_, rfl, .rowE z.lo rfl⟩, ⟨_, rfl, .rowE (by repeat' (first | exact Lo.s _ | exact za2 | refine zax ?_ ?_ | refine zar ?_ | refine Lo.cells ?_ | refine Lo.agg _ ?_ | exact zak | refine zag ?_ ?_ | intro _)) rfl⟩, trivial⟩ ⟨.ptr 0 0 5 0 0 rfl, .lo _ (.s _), .lo _ (.s _), .ptr 4 4 2 0 0 rfl, .own 1 1 1 _ _ rfl rfl, .lo _ (.s _), .lo _ (.s _), trivial⟩⟩
 ·
  have e : i = m := by omega
  subst e
  rw [Nat.sub_self] at HJ
  unfold lvF at HJ
  subst HJ
  (refine kw_exit ?_; repeat (first | refine zc3 ?_ | refine zb2 ?_ | refine zbq rfl ?_ | refine zbu ?_ | refine zai ?_ | refine kw_seq ?_ | refine kw_skip ?_ | refine kw_block ?_))
  refine kw_region (kops_s rfl (kops_s rfl (kops_nil (zai ?_))))
  refine kw_weak (kwk_cut (σ := stE z t 0) (F' := [(4, eI best)]) (by simp [stE]) (stE_lo _ _ _) ⟨⟨rfl, .s _⟩, trivial⟩) ?_
  (refine kw_ret ?_; repeat (first | refine zbg ?_ | refine zbh ?_))
  exact ⟨.inr rfl, rfl, rfl⟩
end K4
end Go.Proofs.Ytllkbjcemecmjaa.Aw
end
section
namespace Go.Proofs.Ytllkbjcemecmjaa.Aw
open Go Go.RowKit Go.Proofs
variable {P : Program} [IsP P]
theorem run1_pf (a : Fr) : Pure P 81 [eF a] (eB (negF a)) := by
 refine zcu (by rw [IsP.eq (P := P)]; exact Try.func81) rfl rfl rfl rfl rfl (by repeat' (first | exact Lo.s _ | exact zak | refine zag ?_ ?_ | refine zan ?_ | refine Lo.agg _ ?_ | refine Lo.sl _ ?_ | intro _)) (.s _) (by simp only [argF]; rfl) ?_
 refine zah (zab (zaf rfl rfl (zaa rfl) (zb4 rfl rfl rfl rfl) (zac rfl (zae (zah (zab (zb1 tf51_0 rfl (zaf rfl rfl (zaa rfl) (zap rfl ta3 rfl rfl rfl rfl rfl) (zaf rfl rfl (zaa rfl) (za4 rfl rfl rfl) (zac rfl (zae (zai ?_))))))))))))
 (refine za8 ?_; repeat (first | refine zbg ?_ | refine zbh ?_))
 exact zcb (.inr rfl) rfl rfl
theorem solved1_pf (a : Fr) : Pure P 60 [eF a] (eB (nzF a)) := by
 refine zcu (by rw [IsP.eq (P := P)]; exact Try.func60) rfl rfl rfl rfl rfl (by repeat' (first | exact Lo.s _ | exact zak | refine zag ?_ ?_ | refine zan ?_ | refine Lo.agg _ ?_ | refine Lo.sl _ ?_ | intro _)) (.s _) (by simp only [argF]; rfl) ?_
 refine zah (zab (zaf rfl rfl (zaa rfl) (zb4 rfl rfl rfl rfl) (zac rfl (zae (zah (zab (zb1 tf51_0 rfl (zaf rfl rfl (zaa rfl) (zap rfl ta3 rfl rfl rfl rfl rfl) (zaf rfl rfl (zaa rfl) (zbw rfl rfl rfl) (zac rfl (zae (zai ?_))))))))))))
 (refine za8 ?_; repeat (first | refine zbg ?_ | refine zbh ?_))
 exact zcb (.inr rfl) rfl rfl
namespace K4
set_option maxHeartbeats 4000000 in
theorem run_call {m N vars : Nat} (z : Zc) (hm : m ≤ 12 ∧ N ≤ 40) (hv : vars ≤ N) (t t' : Tb) (f : Nat) (k : Int) (ht : t.e = 0 → TbOk m N t) (hr : runE vars f t = some (t', k)) :
  CallE P 57 [.ptr 0 5 0 0, eI vars] (stE z t t.e) (eI k) (stE z t' t'.e) := by
 refine callE_fn1 (Nat.le_refl _) (by rw [IsP.eq (P := P)]; exact Try.func57) rfl rfl (Nat.le_of_ble_eq_true rfl) rfl ?_
 simp only [argF]
 refine kw_seq (kw_region (kops_s rfl (kops_nil (kw_seq (kw_block ?_)))))
 refine kw_loops (S := Nat × Tb) (fun s => [(0, .ptr 0 5 0 0), (1, eI vars)]) (fun s => [.row 5 [tbC s.2 s.2.e], .row 1 (s.2.rows.map (eL eF)), .row 1 (s.2.bas.map eI), .row z.n z.cs]) (fun s => (s.2.e = 0 → TbOk m N s.2) ∧ runE vars s.1 s.2 = some (t', k)) (fun s => s.1) (f, t)
  (kwk_sub ⟨rfl, rfl, trivial⟩) ⟨ht, hr⟩ (fun s hs => ?_)
 obtain ⟨f, s⟩ := s
 obtain ⟨hs1, hs2⟩ := hs
 dsimp only at hs1 hs2 ⊢
 clear ht hr
 cases f with
 | zero => cases hs2
 | succ f =>
 unfold runE at hs2
 refine kw_seq (kw_seq (kw_region (kops_s rfl (kops_s rfl (kops_f zdu rfl (kops_op rfl rfl (zaa rfl) (zap rfl ta33 rfl rfl rfl rfl rfl) ?_))))))
 refine kops_opP rfl rfl (zaa rfl) (zbk rfl rfl rfl) (fun h11 => ?_) (fun h11 => ?_)
 all_goals refine kops_nil (zai ?_)
 all_goals (first | refine kw_true rfl ?_ | refine kw_false rfl ?_)
 all_goals (repeat (first | refine kw_seq ?_ | refine zai ?_ | refine kw_skip ?_ | refine kw_block ?_))
 ·
  have hok := hs1 h11
  have hsh := hok.sh hm
  have hcl := hok.cl
  have hix : Pure P 59 [.sl ((s.cost.map eF).take vars), .fn 81 []] (eI (zct negF (s.cost.take vars))) := by
   rw [← List.map_take]
   exact indexFF_pf _ [] negF (s.cost.take vars) lo_F (.fn _ _ (by simp)) (fun a _ => run1_pf a)
  have hst : ∀ t2, runS vars s = .inr t2 → t2.e = 0 → TbOk m N t2 := fun t2 h1 h2 => (runS_step hv hok h1 h2).2.1
  have hR : runS vars s = (let k := zct negF (s.cost.take vars)
   if k < 0 then .inl (s, -1) else
   let l := lvE k.toNat s
   if l.2 ≠ 0 then .inl ({ s with e := l.2 }, -1) else
   if l.1 < 0 then .inl (s, k) else .inr (pivE l.1.toNat k.toNat s)) := by
   unfold runS
   rw [if_neg (by simpa using h11)]
  have hfge := firstAt_ge negF (s.cost.take vars)
  have hfl : 0 ≤ zct negF (s.cost.take vars) → zct negF (s.cost.take vars) < vars := fun h => by
   obtain ⟨q, e1, e2, _⟩ := firstAt_get h
   rw [List.length_take] at e2
   omega
  rw [h11]
  refine kw_region (kops_s rfl (kops_s rfl (kops_f tf108_1 rfl (kops_op rfl rfl (zaa rfl) (zap rfl ta30 rfl rfl rfl rfl rfl) (kops_s rfl ?_)))))
  refine kops_op rfl rfl (zaa rfl) (does_slice_h rfl ts30 ti51 rfl rfl rfl (by simp; omega) (by intro e he; simp at he; obtain ⟨_, _, rfl⟩ := he; rfl)) ?_
  refine kops_op rfl rfl (zaa rfl) (zam rfl rfl (hix) (zad rfl (zad rfl zaq))) (kops_s rfl (kops_nil (kw_seq (kw_seq ?_))))
  generalize zct negF (s.cost.take vars) = kk at hix hR hfge hfl ⊢
  refine kw_region (kops_s rfl ?_)
  refine kops_opP rfl rfl (zaa rfl) (za4 rfl rfl rfl) (fun h20 => ?_) (fun h20 => ?_)
  all_goals refine kops_nil (zai ?_)
  all_goals (first | refine kw_true rfl ?_ | refine kw_false rfl ?_)
  all_goals (repeat (first | refine kw_seq ?_ | refine kw_skip ?_))
  ·
   rw [hR] at hs2
   dsimp only at hs2
   rw [if_pos h20] at hs2
   cases hs2
   refine kw_region (kops_s rfl (kops_nil (zai ?_)))
   (refine kw_ret ?_; repeat (first | refine zbg ?_ | refine zbh ?_))
   exact ⟨.inr rfl, rfl, by rw [h11]; rfl⟩
  ·
   obtain ⟨q, rfl⟩ : ∃ q : Nat, kk = q := ⟨kk.toNat, by omega⟩
   have hq := hfl (by omega)
   dsimp only at hR
   rw [if_neg h20, show (q : Int).toNat = q from rfl] at hR
   have hlv := leave_call (P := P) z s hsh q (by omega)
   have hlb : (lvE q s).2 = 0 → (lvE q s).1 < 0 ∨ ∃ b : Nat, (lvE q s).1 = b ∧ b < m := fun h => by
    have hrl := hok.rl
    have e1 : lvE q s = lvF q s m 0 (-1) ⟨0, 0⟩ := by unfold lvE; rw [hrl]
    rw [e1] at h ⊢
    obtain ⟨l, hI⟩ := lvF_ok hok (k := q) (by omega) m 0 (-1) ⟨0, 0⟩ (by omega) (.inl ⟨rfl, fun q hq => by omega⟩) h
    rcases hI with ⟨g1, _⟩ | ⟨b, g1, g2, _⟩
    ·
     exact .inl (by omega)
    ·
     exact .inr ⟨b, g1, g2⟩
   generalize lvE q s = l at hlv hlb hR
   refine kw_region (kops_s rfl (kops_s rfl (kops_op rfl rfl (zaa rfl) (zbo rfl rfl hlv (zad rfl (zad rfl zaq))) (kops_s rfl (kops_nil (kw_seq (kw_seq (kw_region (kops_s rfl (kops_s rfl (kops_f zdu rfl (kops_op rfl rfl (zaa rfl) (zap rfl ta33 rfl rfl rfl rfl rfl) ?_))))))))))))
   refine kops_opP rfl rfl (zaa rfl) (zbw rfl rfl rfl) (fun h28 => ?_) (fun h28 => ?_)
   all_goals refine kops_nil (zai ?_)
   all_goals (first | refine kw_true rfl ?_ | refine kw_false rfl ?_)
   all_goals (repeat (first | refine kw_seq ?_ | refine kw_skip ?_))
   ·
    rw [if_pos h28] at hR
    rw [hR] at hs2
    cases hs2
    (refine kw_exit ?_; repeat (first | refine zc3 ?_ | refine zb2 ?_ | refine zbq rfl ?_ | refine zbu ?_ | refine zai ?_ | refine kw_seq ?_ | refine kw_skip ?_ | refine kw_block ?_))
    refine kw_region (kops_s rfl (kops_nil (zai ?_)))
    (refine kw_ret ?_; repeat (first | refine zbg ?_ | refine zbh ?_))
    exact ⟨.inr rfl, rfl, rfl⟩
   ·
    rw [if_neg h28] at hR
    have h0 : l.2 = 0 := Decidable.not_not.1 h28
    rw [h0]
    refine kw_region (kops_s rfl ?_)
    refine kops_opP rfl rfl (zaa rfl) (za4 rfl rfl rfl) (fun h30 => ?_) (fun h30 => ?_)
    all_goals refine kops_nil (zai ?_)
    all_goals (first | refine kw_true rfl ?_ | refine kw_false rfl ?_)
    all_goals (repeat (first | refine kw_seq ?_ | refine zai ?_ | refine kw_skip ?_))
    ·
     rw [if_pos h30] at hR
     rw [hR] at hs2
     cases hs2
     refine kw_region (kops_s rfl (kops_s rfl (kops_nil (zai ?_))))
     (refine kw_ret ?_; repeat (first | refine zbg ?_ | refine zbh ?_))
     exact ⟨.inr rfl, rfl, by rw [h11]⟩
    ·
     rw [if_neg h30] at hR
     obtain ⟨b, e1, hb⟩ : ∃ b : Nat, l.1 = b ∧ b < m := by
      rcases hlb h0 with h | h
      ·
       exact absurd h h30
      ·
       exact h
     rw [e1] at hR ⊢
     rw [show (b : Int).toNat = b from rfl] at hR
     rw [hR] at hs2
     have hpv := pivot_call (P := P) z s hsh h11 b q hb (by omega)
     refine kw_region (kops_s rfl (kops_s rfl (kops_s rfl (kops_op rfl rfl (zaa rfl) (zbo rfl rfl hpv (zad rfl (zad rfl (zad rfl zaq)))) (kops_nil (zbu (zai ?_)))))))
     exact ⟨(f, pivE b q s), ⟨hst _ hR, hs2⟩, Nat.lt_succ_self f, kwk_sub ⟨rfl, rfl, trivial⟩⟩
 ·
  have hR : runS vars s = .inl (s, -1) := by unfold runS; rw [if_pos h11]
  rw [hR] at hs2
  cases hs2
  (refine kw_exit ?_; repeat (first | refine zc3 ?_ | refine zb2 ?_ | refine zbq rfl ?_ | refine zbu ?_ | refine zai ?_ | refine kw_seq ?_ | refine kw_skip ?_ | refine kw_block ?_))
  refine kw_region (kops_s rfl (kops_nil (zai ?_)))
  (refine kw_ret ?_; repeat (first | refine zbg ?_ | refine zbh ?_))
  exact ⟨.inr rfl, rfl, rfl⟩
end K4
end Go.Proofs.Ytllkbjcemecmjaa.Aw
end
section
namespace Go.Proofs.Ytllkbjcemecmjaa.Aw
open Go Go.RowKit Go.Proofs
variable {P : Program} [IsP P]
theorem onesF_po (n : Nat) (h : 1 ≤ n ∧ n ≤ 12) : PureO P 55 [eL eF [Fr.of 1], eI n] 2 ((List.replicate n (Fr.of 1)).map eF) :=
 repO (K1.repF_call (Fr.of 1) n ⟨h.1, by omega⟩) h.1 (zag (.sl _ (zag (lo_F _) zak)) (zag (.s _) zak))
end Go.Proofs.Ytllkbjcemecmjaa.Aw
end
section
namespace Go.Proofs.Ytllkbjcemecmjaa.Aw
open Go Go.RowKit Go.Proofs
variable {P : Program} [IsP P]
theorem valsF_len {t : Tb} {n : Nat} : ∀ i, (valsF t n i).length = n
 | 0 => by simp [valsF]
 | i + 1 => by unfold valsF; split <;> simp [valsF_len i]
theorem note_e (t : Tb) (e : Int) (R : List Ob) (hR : 2 ≤ R.length) (x : Fr) (e' : Int) : CallE P 83 [.ptr 0 5 0 0, eF x, eI e'] (.row 5 [tbC t e] :: R) (eF x) (.row 5 [tbC t (if e = 0 then e' else e)] :: R) :=
 note_call (P := P) (c0 := AV.own 1 1 t.rows.length) (c1 := eL eF t.cost) (c2 := AV.own 2 1 t.bas.length) (c3 := eI t.last) (e := e) (R := R) x e' (tbC_lo (by omega))
theorem sneg_pf (a : Fr) (h : -1073741824 ≤ a.n ∧ a.n ≤ 1073741824) : Pure P 64 [eF a] (eF (fneg a)) := by
 rw [show eF (fneg a) = .agg [eI (0 - a.n), eI a.d] by simp [eF, fneg]]
 refine zcu (by rw [IsP.eq (P := P)]; exact Try.func64) rfl rfl rfl rfl rfl (by repeat' (first | exact Lo.s _ | exact zak | refine zag ?_ ?_ | refine zan ?_ | refine Lo.agg _ ?_ | refine Lo.sl _ ?_ | intro _)) (.agg _ (zag (.s _) (zag (.s _) zak))) (by simp only [argF]; rfl) ?_
 refine zah (zab (zaf rfl rfl (zaa rfl) (zb4 rfl rfl rfl rfl) ?_))
 refine za5 (zbs (id := 0) rfl) (za5 (zch (d := 1) rfl rfl rfl) ?_)
 refine zaf rfl rfl (zaa rfl) (za0 rfl ti51 rfl rfl) (zae (zah (zab (zb1 tf51_0 rfl (zby ta3 rfl (zaf rfl rfl (zaa rfl) (does_neg rfl rfl (IntWalk.i64_in _ (by omega))) (zb1 tf51_1 rfl (zby ta3 rfl (zaf rfl rfl (zaa rfl) (za6 rfl ti51 tp51 rfl rfl) (zbe rfl (zaa rfl) (zaj rfl ti51 rfl rfl rfl rfl rfl rfl (by decide) (by decide)) (zae (zai ?_))))))))))))
 (refine za8 ?_; repeat (first | refine zbg ?_ | refine zbh ?_))
 exact post_c (N := 0) (.inr rfl) ta51 ti51 rfl rfl rfl rfl rfl (.refl _)
theorem subE_bd (a b : Fr) : -1073741824 ≤ (subE a b).fr.n ∧ (subE a b).fr.n ≤ 1073741824 := by
 unfold subE
 split
 ·
  rename_i h
  rw [Bool.and_eq_true] at h
  cases hs : fsub a b with
  | none => exact ⟨by decide, by decide⟩
  | some c =>
   have ha := (Fr.okB_iff _).1 h.1
   have hb := (Fr.okB_iff _).1 h.2
   have hc : c.ok := mkF_ok (by have := Int.mul_pos (d_pos ha) (d_pos (fneg_ok hb)); omega) hs
   exact ⟨hc.1, hc.2.1⟩
 ·
  exact ⟨by decide, by decide⟩
namespace K4
set_option maxHeartbeats 4000000 in
theorem values_call {m N : Nat} (z : Zc) (t : Tb) (ht : TbSh m N t) (n : Nat) (hn : 1 ≤ n ∧ n ≤ 12) :
  CallE P 63 [.ptr 0 5 0 0, eI n] (stE z t 0) (eL eF (valsE t n)) (stE z t 0) := by
 have hrl := ht.rl
 have hbl := ht.bl
 have hsm := ht.sm
 have hz := zeros_po (P := P) n (by omega)
 have hz0 : za9 n = valsF t n 0 := rfl
 rw [hz0] at hz
 refine callE_fn1 (Nat.le_refl _) (by rw [IsP.eq (P := P)]; exact Try.func63) rfl rfl (Nat.le_of_ble_eq_true rfl) rfl ?_
 simp only [argF]
 refine kw_seq (kw_region (kops_s rfl (kops_nil (kw_seq (kw_region (kops_s rfl (kops_op rfl rfl (zaa rfl) (does_callO rfl rfl (hz) (zad rfl zaq)) (kops_s rfl (kops_nil (kw_seq (kw_seq (kw_region (kops_s rfl (kops_s rfl (kops_f zdi rfl (kops_op rfl rfl (zaa rfl) (zap rfl ta22 rfl rfl rfl rfl rfl) (kops_op rfl rfl (zaa rfl) (zc6 rfl ts22 rfl) (kops_s rfl (kops_nil (zai (kw_block ?_)))))))))))))))))))))
 refine kw_loops (S := Nat) (fun i => [(0, .ptr 0 5 0 0), (1, eI n), (5, .own 4 2 n), (14, .own 2 1 t.bas.length), (15, eI t.bas.length), (16, eI i)]) (fun i => [.row 5 [tbC t 0], .row 1 (t.rows.map (eL eF)), .row 1 (t.bas.map eI), .row z.n z.cs, .row 2 ((valsF t n i).map eF)]) (fun i => i ≤ m) (fun i => m - i) 0
  (kwk_st [0, 1, 2, 3, 4] rfl rfl rfl rfl (by decide) ⟨⟨_, rfl, tb_ren rfl rfl⟩, ⟨_, rfl, .rowE (zdb t) rfl⟩, ⟨_, rfl, .rowE (bas_lo t) rfl⟩, ⟨_, rfl, .rowE z.lo rfl⟩, ⟨_, rfl, .rowE (by repeat' (first | exact Lo.s _ | exact za2 | refine zax ?_ ?_ | refine zar ?_ | refine Lo.cells ?_ | refine Lo.agg _ ?_ | exact zak | refine zag ?_ ?_ | intro _)) rfl⟩, trivial⟩ ⟨.ptr 0 0 5 0 0 rfl, .lo _ (.s _), .own 4 4 2 _ _ rfl (by rw [List.length_map]; exact valsF_len 0), .own 2 2 1 _ _ rfl rfl, .lo _ (.s _), .lo _ (.s _), trivial⟩) (Nat.zero_le _) (fun i hi => ?_)
 refine kw_seq (kw_region ?_)
 refine kops_opP rfl rfl (zaa rfl) (za4 rfl rfl rfl) (fun h17 => ?_) (fun h17 => ?_)
 all_goals refine kops_nil (kw_seq ?_)
 all_goals (first | refine kw_true rfl ?_ | refine kw_false rfl ?_)
 all_goals (repeat (first | refine kw_seq ?_ | refine kw_skip ?_ | refine kw_block ?_))
 ·
  have hlt : i < m := by omega
  have hbi := ht.bs i hlt
  have hrow := ht.row hlt
  have hxb : (t.bas.map eI)[i]? = some (eI (gti t.bas i)) := zbd (by omega)
  have hxr : (t.rows.map (eL eF))[i]? = some (eL eF (gti t.rows i)) := zbd (by omega)
  have hxN : ((gti t.rows i).map eF)[N]? = some (eF (gti (gti t.rows i) N)) := zbd (by omega)
  have hkN : (((gti t.rows i).length : Nat) : Int) - 1 = ((N : Nat) : Int) := by omega
  have hvl := valsF_len (t := t) (n := n) i
  refine kw_region (kops_s rfl (kops_op rfl rfl (zaa rfl) (zau rfl ts22 ti3 rfl rfl rfl (by omega)) (kops_op rfl rfl (zaa rfl) (zap rfl ta3 rfl rfl rfl hxb rfl) (kops_s rfl (kops_s rfl (kops_nil (kw_seq (kw_region (kops_s rfl (kops_s rfl ?_))))))))))
  refine kops_opP rfl rfl (zaa rfl) (za4 rfl rfl rfl) (fun h23 => ?_) (fun h23 => ?_)
  all_goals refine kops_nil (zai ?_)
  all_goals (first | refine kw_true rfl ?_ | refine kw_false rfl ?_)
  all_goals (repeat (first | refine kw_seq ?_ | refine zai ?_ | refine kw_skip ?_ | refine zbu ?_))
  ·
   obtain ⟨b, hb⟩ : ∃ b : Nat, gti t.bas i = b := ⟨(gti t.bas i).toNat, by omega⟩
   have hbn : b < n := by omega
   have hxo : ((valsF t n i).map eF)[b]? = some (eF (gti (valsF t n i) b)) := zbd (by omega)
   refine kw_region (kops_s rfl (kops_s rfl (kops_f zc4 rfl (kops_op rfl rfl (zaa rfl) (zap rfl ta45 rfl rfl rfl rfl rfl) (kops_s rfl (kops_op rfl rfl (zaa rfl) (zau rfl ts45 ti30 rfl rfl rfl (by omega)) (kops_op rfl rfl (zaa rfl) (zap rfl ta30 rfl rfl rfl hxr rfl) (kops_s rfl (kops_nil (zai (kw_region (kops_s rfl (kops_s rfl (kops_s rfl (kops_s rfl (kops_op rfl rfl (zaa rfl) (zao rfl ts30 rfl) (kops_op rfl rfl (zaa rfl) (does_sub rfl rfl rfl (IntWalk.i64_in _ (by omega))) (kops_op rfl rfl (zaa rfl) (zal rfl ts30 ti51 rfl rfl hkN hxN rfl) ?_))))))))))))))))))
   refine kops_w ta51 ti51 rfl (kops_op rfl rfl (zaa rfl) (zau rfl ts30 ti51 rfl rfl hb hbn) (kops_eff rfl (zaa rfl) (zaj rfl ti51 rfl rfl rfl hxo rfl rfl (by decide) (by decide)) (kops_nil (zbu (zai (kw_region (kops_op rfl rfl (zaa rfl) (zav rfl rfl rfl (IntWalk.i64_in _ (by omega))) (kops_s rfl (kops_nil (zai ?_))))))))))
   have hv : valsF t n (i + 1) = (valsF t n i).set b (gti (gti t.rows i) N) := by
    rw [valsF, if_pos h23, hb, show (gti t.rows i).length - 1 = N by omega]; rfl
   exact ⟨i + 1, by omega, by omega, kwk_st [0, 1, 2, 3, 4] rfl rfl rfl rfl (by decide) ⟨⟨_, rfl, tb_ren rfl rfl⟩, ⟨_, rfl, .rowE (zdb t) rfl⟩, ⟨_, rfl, .rowE (bas_lo t) rfl⟩, ⟨_, rfl, .rowE z.lo rfl⟩, ⟨_, rfl, .rowE (by repeat' (first | exact Lo.s _ | exact za2 | refine zax ?_ ?_ | refine zar ?_ | refine Lo.cells ?_ | refine Lo.agg _ ?_ | exact zak | refine zag ?_ ?_ | intro _)) (by rw [hv, List.map_set]; rfl)⟩, trivial⟩ ⟨.ptr 0 0 5 0 0 rfl, .lo _ (.s _), .own 4 4 2 _ _ rfl rfl, .own 2 2 1 _ _ rfl rfl, .lo _ (.s _), .lo _ (.s _), trivial⟩⟩
  ·
   refine kw_region (kops_op rfl rfl (zaa rfl) (zav rfl rfl rfl (IntWalk.i64_in _ (by omega))) (kops_s rfl (kops_nil (zai ?_))))
   have hv : valsF t n (i + 1) = valsF t n i := by rw [valsF, if_neg h23]
   exact ⟨i + 1, by omega, by omega, kwk_st [0, 1, 2, 3, 4] rfl rfl rfl rfl (by decide) ⟨⟨_, rfl, tb_ren rfl rfl⟩, ⟨_, rfl, .rowE (zdb t) rfl⟩, ⟨_, rfl, .rowE (bas_lo t) rfl⟩, ⟨_, rfl, .rowE z.lo rfl⟩, ⟨_, rfl, .rowE (by repeat' (first | exact Lo.s _ | exact za2 | refine zax ?_ ?_ | refine zar ?_ | refine Lo.cells ?_ | refine Lo.agg _ ?_ | exact zak | refine zag ?_ ?_ | intro _)) (by rw [hv])⟩, trivial⟩ ⟨.ptr 0 0 5 0 0 rfl, .lo _ (.s _), .own 4 4 2 _ _ rfl rfl, .own 2 2 1 _ _ rfl rfl, .lo _ (.s _), .lo _ (.s _), trivial⟩⟩
 ·
  have e : i = t.bas.length := by omega
  subst e
  (refine kw_exit ?_; repeat (first | refine zc3 ?_ | refine zb2 ?_ | refine zbq rfl ?_ | refine zbu ?_ | refine zai ?_ | refine kw_seq ?_ | refine kw_skip ?_ | refine kw_block ?_))
  refine kw_weak (kwk_froz (id := 4) rfl) ?_
  refine kw_weak (kwk_sl (d := 5) rfl rfl (by rw [List.length_map, valsF_len])) ?_
  refine kw_region (kops_s rfl (kops_s rfl (kops_nil (zai ?_))))
  refine kw_weak (kwk_cut (σ := stE z t 0) (F' := [(4, .sl ((valsE t n).map eF))]) (by simp [stE]) (stE_lo _ _ _) ⟨⟨rfl, lo_up (by repeat' (first | exact Lo.s _ | exact zak | refine zag ?_ ?_ | refine zan ?_ | refine Lo.agg _ ?_ | refine Lo.sl _ ?_ | intro _))⟩, trivial⟩) ?_
  (refine kw_ret ?_; repeat (first | refine zbg ?_ | refine zbh ?_))
  exact ⟨.inr rfl, rfl, rfl⟩
set_option maxHeartbeats 4000000 in
theorem priced_call {m N : Nat} (z : Zc) (c0 : AV) (t : Tb) (cost : List Fr) (ht : TbSh m N { t with cost := cost }) (he : t.e = 0) :
  CallE P 53 [.ptr 0 5 0 0, eL eF cost] [.row 5 [.agg [.own 1 1 t.rows.length, c0, .own 2 1 t.bas.length, eI t.last, eI 0]], .row 1 (t.rows.map (eL eF)), .row 1 (t.bas.map eI), .row z.n z.cs] (.tup []) (stE z (prcE cost t) (prcE cost t).e) := by
 have hbl := ht.bl
 have hsm := ht.sm
 have HI : prcE cost t = prcF m 0 { t with cost := cost } := by unfold prcE; rw [show t.bas.length = m from hbl]
 generalize prcE cost t = R at HI ⊢
 refine callE_fn0 (Nat.le_refl _) (by rw [IsP.eq (P := P)]; exact Try.func53) rfl rfl (Nat.le_of_ble_eq_true rfl) rfl ?_
 simp only [argF]
 refine kw_seq (kw_region (kops_s rfl (kops_s rfl (kops_s rfl (kops_f tf108_1 rfl (kops_eff rfl (zaa rfl) (zaj rfl ti30 rfl rfl rfl rfl rfl rfl (by decide) (by decide)) (kops_nil (kw_seq (kw_stEq (σ' := stE z { t with cost := cost } 0) rfl ?_)))))))))
 generalize hT : ({ t with cost := cost } : Tb) = T at HI ht hbl ⊢
 have hTe : T.e = 0 := by subst hT; exact he
 refine kw_region (kops_s rfl (kops_s rfl (kops_f zdi rfl (kops_op rfl rfl (zaa rfl) (zap rfl ta22 rfl rfl rfl rfl rfl) (kops_op rfl rfl (zaa rfl) (zc6 rfl ts22 rfl) (kops_s rfl (kops_nil (zai (kw_block ?_)))))))))
 refine kw_stEq (σ' := stE z T T.e) (by rw [hTe]) ?_
 refine kw_loops (S := Nat × Tb) (fun s => [(0, .ptr 0 5 0 0), (13, .own 2 1 T.bas.length), (14, eI T.bas.length), (15, eI s.1)]) (fun s => [.row 5 [tbC s.2 s.2.e], .row 1 (s.2.rows.map (eL eF)), .row 1 (s.2.bas.map eI), .row z.n z.cs]) (fun s => s.1 ≤ m ∧ s.2.bas = T.bas ∧ (s.2.e = 0 → TbSh m N s.2) ∧ R = prcF (m - s.1) s.1 s.2) (fun s => m - s.1) (0, T)
  (kwk_sub ⟨rfl, rfl, rfl, rfl, trivial⟩) ⟨Nat.zero_le _, rfl, fun _ => ht, HI⟩ (fun s hs => ?_)
 obtain ⟨i, s⟩ := s
 obtain ⟨hi, hsb, hsh, HJ⟩ := hs
 dsimp only at hi hsb hsh HJ ⊢
 clear HI hT hTe ht he
 have hsbl : s.bas.length = m := by rw [hsb]; exact hbl
 refine kw_seq (kw_region ?_)
 refine kops_opP rfl rfl (zaa rfl) (za4 rfl rfl rfl) (fun h16 => ?_) (fun h16 => ?_)
 all_goals refine kops_nil (kw_seq ?_)
 all_goals (first | refine kw_true rfl ?_ | refine kw_false rfl ?_)
 all_goals (repeat (first | refine kw_seq ?_ | refine kw_skip ?_ | refine kw_block ?_))
 ·
  have hlt : i < m := by omega
  have hxb : (s.bas.map eI)[i]? = some (eI (gti s.bas i)) := zbd (by omega)
  rw [show m - i = (m - (i + 1)) + 1 by omega] at HJ
  unfold prcF at HJ
  refine kw_region (kops_s rfl (kops_op rfl rfl (zaa rfl) (zau rfl ts22 ti3 rfl rfl rfl (by omega)) (kops_op rfl rfl (zaa rfl) (zap rfl ta3 rfl rfl rfl hxb rfl) (kops_s rfl (kops_s rfl (kops_nil (kw_seq (kw_seq (kw_region (kops_s rfl (kops_s rfl (kops_f zdu rfl (kops_op rfl rfl (zaa rfl) (zap rfl ta33 rfl rfl rfl rfl rfl) ?_)))))))))))))
  refine kops_opP rfl rfl (zaa rfl) (zbw rfl rfl rfl) (fun h24 => ?_) (fun h24 => ?_)
  all_goals refine kops_nil (zai ?_)
  all_goals (first | refine kw_true rfl ?_ | refine kw_false rfl ?_)
  all_goals (repeat (first | refine kw_seq ?_ | refine kw_skip ?_))
  ·
   rw [if_pos h24] at HJ
   (refine kw_ret ?_; repeat (first | refine zbg ?_ | refine zbh ?_))
   subst HJ
   exact ⟨.inr rfl, rfl⟩
  ·
   rw [if_neg h24] at HJ
   have h0 : s.e = 0 := Decidable.not_not.1 h24
   have hs := hsh h0
   have hrl := hs.rl
   have hbi := hs.bs i hlt
   have hrow := hs.row hlt
   have hcl := hs.cl
   obtain ⟨b, hb⟩ : ∃ b : Nat, gti s.bas i = b := ⟨(gti s.bas i).toNat, by omega⟩
   have hxc : (s.cost.map eF)[b]? = some (eF (gti s.cost b)) := zbd (by omega)
   have hxr : (s.rows.map (eL eF))[i]? = some (eL eF (gti s.rows i)) := zbd (by omega)
   rw [show (gti s.bas i).toNat = b by rw [hb]; rfl] at HJ
   dsimp only at HJ
   rw [h0]
   refine kw_region (kops_s rfl (kops_s rfl (kops_f tf108_1 rfl (kops_op rfl rfl (zaa rfl) (zap rfl ta30 rfl rfl rfl rfl rfl) (kops_s rfl (kops_op rfl rfl (zaa rfl) (zal rfl ts30 ti51 rfl rfl hb hxc rfl) (kops_f tf51_0 rfl (kops_l ta3 rfl ?_))))))))
   refine kops_opP rfl rfl (zaa rfl) (zbw rfl rfl rfl) (fun h33 => ?_) (fun h33 => ?_)
   all_goals refine kops_nil (zai ?_)
   all_goals (first | refine kw_true rfl ?_ | refine kw_false rfl ?_)
   all_goals (repeat (first | refine zai ?_ | refine kw_skip ?_ | refine zbu ?_))
   ·
    rw [if_neg h33] at HJ
    have hls := less_call (P := P) z s s.cost (gti s.rows i) (gti s.cost b) (by omega) (by omega)
    have hll := less_len (by_ := gti s.cost b) s.cost (gti s.rows i)
    generalize zdo (gti s.cost b) s.cost (gti s.rows i) = L at HJ hls hll
    refine kw_draw hmix ?_
    refine edraw_lastT rfl (by kernel_rfl) ?_
    simp only [List.dropLast]
    refine edraw_f0 (invT s) (invT_app) ?_
    refine zbc rfl rfl (zaa rfl) (fun _ => (mv_ptr (.inl rfl) rfl)) ⟨rfl, ⟨_, rfl⟩⟩ ?_
    refine zbc rfl rfl (zaa rfl) (fun _ => (mv_ptr (.inl rfl) rfl)) ⟨rfl, ⟨_, rfl⟩⟩ ?_
    refine zbc rfl rfl (zaa rfl) (fun _ => (mv_ptr (.inl rfl) rfl)) ⟨rfl, ⟨_, rfl⟩⟩ ?_
    refine zbc rfl rfl (zaa rfl) (fun _ => (zco rfl rfl)) ⟨rfl, ⟨_, rfl⟩⟩ ?_
    refine zbc rfl rfl (zaa rfl) (fun _ => (zbz rfl tf108_1 (by decide) rfl)) ⟨rfl, ⟨_, rfl⟩⟩ ?_
    refine fx_inv rfl rfl (zaa rfl) (fun σ2 h => by obtain ⟨_, h⟩ := h; exact zap rfl ta30 rfl h rfl rfl rfl) ⟨rfl, ⟨_, rfl⟩⟩ ?_
    refine zbc rfl rfl (zaa rfl) (fun _ => (mv_ptr (.inl rfl) rfl)) ⟨rfl, ⟨_, rfl⟩⟩ ?_
    refine zbc rfl rfl (zaa rfl) (fun _ => (zco rfl rfl)) ⟨rfl, ⟨_, rfl⟩⟩ ?_
    refine zbc rfl rfl (zaa rfl) (fun _ => (zbz rfl zc4 (by decide) rfl)) ⟨rfl, ⟨_, rfl⟩⟩ ?_
    refine fx_inv rfl rfl (zaa rfl) (fun σ2 h => by obtain ⟨_, h⟩ := h; exact zap rfl ta45 rfl h rfl rfl rfl) ⟨rfl, ⟨_, rfl⟩⟩ ?_
    refine zbc rfl rfl (zaa rfl) (fun _ => (mv_s (.inl rfl) rfl)) ⟨rfl, ⟨_, rfl⟩⟩ ?_
    refine zbc rfl rfl (zaa rfl) (fun _ => (zau rfl ts45 ti30 rfl rfl rfl (by omega))) ⟨rfl, ⟨_, rfl⟩⟩ ?_
    refine fx_look rfl rfl (zaa rfl) (zbn rfl ta30 rfl rfl rfl hxr rfl) ⟨rfl, ⟨_, rfl⟩⟩ (by intro id h; simp at h; subst h; exact Nat.le_of_ble_eq_true rfl) ?_
    refine zbc rfl rfl (zaa rfl) (fun _ => (mv_ptr (.inl rfl) rfl)) ⟨rfl, ⟨_, rfl⟩⟩ ?_
    refine zbc rfl rfl (zaa rfl) (fun _ => (zco rfl rfl)) ⟨rfl, ⟨_, rfl⟩⟩ ?_
    refine zbc rfl rfl (zaa rfl) (fun _ => (zbz rfl tf108_1 (by decide) rfl)) ⟨rfl, ⟨_, rfl⟩⟩ ?_
    refine fx_inv rfl rfl (zaa rfl) (fun σ2 h => by obtain ⟨_, h⟩ := h; exact zap rfl ta30 rfl h rfl rfl rfl) ⟨rfl, ⟨_, rfl⟩⟩ ?_
    refine zbc rfl rfl (zaa rfl) (fun _ => (mv_s (.inl rfl) rfl)) ⟨rfl, ⟨_, rfl⟩⟩ ?_
    refine zbc rfl rfl (zaa rfl) (fun _ => (zal rfl ts30 ti51 rfl rfl hb hxc rfl)) ⟨rfl, ⟨_, rfl⟩⟩ ?_
    refine zbc rfl rfl (zaa rfl) (fun _ => (zcv rfl ta51 ti51 rfl rfl)) ⟨rfl, ⟨_, rfl⟩⟩ ?_
    refine fx_m0 rfl rfl rfl (zaa rfl) (zbo rfl rfl (hls) (zad rfl (zad rfl (zad rfl (zad rfl zaq))))) ⟨rfl, ⟨_, rfl⟩⟩ ?_
    refine zbc rfl rfl (zaa rfl) (fun _ => (zco rfl rfl)) ⟨rfl, ⟨_, rfl⟩⟩ ?_
    refine zbc rfl rfl (zaa rfl) (fun _ => (zbz rfl tf108_1 (by decide) rfl)) ⟨rfl, ⟨_, rfl⟩⟩ ?_
    refine fx_nil ⟨rfl, ⟨_, rfl⟩⟩ (by kernel_rfl) (.inr ⟨rfl, Nat.le_refl _⟩) ?_
    simp only [if_true, Bool.false_eq_true, if_false, List.append_nil, List.cons_append, List.nil_append]
    refine zai (eops_eff rfl (zaa rfl) (zaj rfl ti30 rfl rfl rfl rfl rfl rfl (by decide) (by decide)) (zdd (zbu (zai (kw_region (kops_op rfl rfl (zaa rfl) (zav rfl rfl rfl (IntWalk.i64_in _ (by omega))) (kops_s rfl (kops_nil (zai ?_)))))))))
    exact ⟨(i + 1, { s with cost := L.1, e := L.2 }), ⟨by show i + 1 ≤ m; omega, hsb, fun h => ⟨hs.rl, hs.rw_, (hll h).trans hcl, hs.bl, hs.bs, hsm⟩, HJ⟩, by show m - (i + 1) < m - i; omega, kwk_sub ⟨rfl, rfl, rfl, rfl, trivial⟩⟩
   ·
    rw [if_pos (by omega)] at HJ
    refine kw_stEq (σ' := stE z s s.e) (by rw [h0]; rfl) ?_
    refine kw_region (kops_op rfl rfl (zaa rfl) (zav rfl rfl rfl (IntWalk.i64_in _ (by omega))) (kops_s rfl (kops_nil (zai ?_))))
    exact ⟨(i + 1, s), ⟨by show i + 1 ≤ m; omega, hsb, hsh, HJ⟩, by show m - (i + 1) < m - i; omega, kwk_sub ⟨rfl, rfl, rfl, rfl, trivial⟩⟩
 ·
  have e : i = m := by omega
  subst e
  rw [Nat.sub_self] at HJ
  unfold prcF at HJ
  subst HJ
  (refine kw_exit ?_; repeat (first | refine zc3 ?_ | refine zb2 ?_ | refine zbq rfl ?_ | refine zbu ?_ | refine zai ?_ | refine kw_seq ?_ | refine kw_skip ?_ | refine kw_block ?_))
  exact ⟨.inl rfl, rfl⟩
end K4
end Go.Proofs.Ytllkbjcemecmjaa.Aw
end
section
namespace Go.Proofs.Ytllkbjcemecmjaa.Aw
open Go Go.RowKit Go.Proofs
variable {P : Program} [IsP P]
namespace K4
set_option maxHeartbeats 4000000 in
theorem mult_call {m N : Nat} (z : Zc) (t : Tb) (ht : TbSh m N t) (turned : List Bool) (htl : turned.length = m) (cost : Int) (hla : 0 ≤ t.last ∧ t.last + m ≤ N) :
  CallE P 58 [.ptr 0 5 0 0, eL eB turned, eI cost] (stE z t t.e) (eL eF (mulTE t turned cost).1) (stE z t (mulTE t turned cost).2) := by
 have hsm := ht.sm
 have hcl := ht.cl
 have HI : mulTE t turned cost = ([] ++ (mulF t turned cost m 0 t.e).1, (mulF t turned cost m 0 t.e).2) := by unfold mulTE; rw [htl]; rfl
 generalize mulTE t turned cost = R at HI ⊢
 refine callE_fn1 (Nat.le_refl _) (by rw [IsP.eq (P := P)]; exact Try.func58) rfl rfl (Nat.le_of_ble_eq_true rfl) rfl ?_
 simp only [argF]
 refine kw_seq (kw_region (kops_s rfl (kops_nil (kw_seq (kw_region (kops_s rfl (kops_nil (kw_seq (kw_seq ?_)))))))))
 refine kw_weak (kwk_own (d := 7) 2 rfl (.inr rfl)) ?_
 refine kw_region (kops_s rfl (kops_op rfl rfl (zaa rfl) (zao rfl ts100 rfl) (kops_s rfl (kops_nil (zai (kw_block ?_))))))
 refine kw_loops (S := Nat × List Fr × Int) (fun s => [(0, .ptr 0 5 0 0), (2, eI cost), (7, .own 4 2 s.1), (11, eL eB turned), (12, eI turned.length), (13, eI s.1)]) (fun s => [.row 5 [tbC t s.2.2], .row 1 (t.rows.map (eL eF)), .row 1 (t.bas.map eI), .row z.n z.cs, .row 2 (s.2.1.map eF)]) (fun s => s.1 ≤ m ∧ s.2.1.length = s.1 ∧ R = (s.2.1 ++ (mulF t turned cost (m - s.1) s.1 s.2.2).1, (mulF t turned cost (m - s.1) s.1 s.2.2).2)) (fun s => m - s.1) (0, [], t.e)
  (kwk_st [0, 1, 2, 3, 4] rfl rfl rfl rfl (by decide) ⟨⟨_, rfl, tb_ren rfl rfl⟩, ⟨_, rfl, .rowE (zdb t) rfl⟩, ⟨_, rfl, .rowE (bas_lo t) rfl⟩, ⟨_, rfl, .rowE z.lo rfl⟩, ⟨_, rfl, .rowE (za2) rfl⟩, trivial⟩ ⟨.ptr 0 0 5 0 0 rfl, .lo _ (.s _), .own 4 4 2 _ _ rfl rfl, .lo _ (zan fun _ => .s _), .lo _ (.s _), .lo _ (.s _), trivial⟩) ⟨Nat.zero_le _, rfl, HI⟩ (fun s hs => ?_)
 obtain ⟨i, pre, e⟩ := s
 obtain ⟨hi, hp, HJ⟩ := hs
 dsimp only at hi hp HJ ⊢
 clear HI
 refine kw_seq (kw_region ?_)
 refine kops_opP rfl rfl (zaa rfl) (za4 rfl rfl rfl) (fun h14 => ?_) (fun h14 => ?_)
 all_goals refine kops_nil (kw_seq ?_)
 all_goals (first | refine kw_true rfl ?_ | refine kw_false rfl ?_)
 all_goals (repeat (first | refine kw_seq ?_ | refine kw_skip ?_ | refine kw_block ?_))
 ·
  have hlt : i < m := by omega
  have hpl : (pre.map eF).length = i := by simp [hp]
  rw [show m - i = (m - (i + 1)) + 1 by omega] at HJ
  unfold mulF at HJ
  have hxt : (turned.map eB)[i]? = some (eB (gti turned i)) := zbd (by omega)
  have hxl : (t.cost.map eF)[t.last.toNat + i]? = some (eF (gti t.cost (t.last.toNat + i))) := zbd (by omega)
  have hkl : t.last + (i : Int) = ((t.last.toNat + i : Nat) : Int) := by omega
  have hbd := subE_bd (Fr.of cost) (gti t.cost (t.last.toNat + i))
  have hny := fun R hR => note_e (P := P) t e R hR (subE (Fr.of cost) (gti t.cost (t.last.toNat + i))).fr (subE (Fr.of cost) (gti t.cost (t.last.toNat + i))).e
  refine kw_region (kops_s rfl (kops_op rfl rfl (zaa rfl) (zal rfl ts100 ti4 rfl rfl rfl (zbd (by omega)) rfl) (kops_l ta4 rfl (kops_s rfl (kops_s rfl (kops_nil (kw_seq ?_)))))))
  refine kw_draw hmix ?_
  refine edraw_lastT rfl (by kernel_rfl) ?_
  simp only [List.dropLast]
  refine edraw_fx 19 (.row 2 [.agg [eI 0, eI 0]]) (fun _ => True) (fun _ _ => trivial) ?_
  refine zbc rfl rfl (zaa rfl) (fun _ => (mv_ptr (.inl rfl) rfl)) ⟨rfl, trivial⟩ ?_
  refine zbc rfl rfl (zaa rfl) (fun _ => (mv_s (.inl rfl) rfl)) ⟨rfl, trivial⟩ ?_
  refine zbc rfl rfl (zaa rfl) (fun _ => (zam rfl rfl ((swhole_pf cost)) (zad rfl zaq))) ⟨rfl, trivial⟩ ?_
  refine zbc rfl rfl (zaa rfl) (fun _ => (mv_ptr (.inl rfl) rfl)) ⟨rfl, trivial⟩ ?_
  refine zbc rfl rfl (zaa rfl) (fun _ => (zco rfl rfl)) ⟨rfl, trivial⟩ ?_
  refine zbc rfl rfl (zaa rfl) (fun _ => (zbz rfl tf108_1 (by decide) rfl)) ⟨rfl, trivial⟩ ?_
  refine fx_look rfl rfl (zaa rfl) (zbn rfl ta30 rfl rfl rfl rfl rfl) ⟨rfl, trivial⟩ (by intro id h; simp at h; subst h; exact Nat.le_of_ble_eq_true rfl) ?_
  refine zbc rfl rfl (zaa rfl) (fun _ => (mv_ptr (.inl rfl) rfl)) ⟨rfl, trivial⟩ ?_
  refine zbc rfl rfl (zaa rfl) (fun _ => (zco rfl rfl)) ⟨rfl, trivial⟩ ?_
  refine zbc rfl rfl (zaa rfl) (fun _ => (zbz rfl tf108_3 (by decide) rfl)) ⟨rfl, trivial⟩ ?_
  refine fx_look rfl rfl (zaa rfl) (zbn rfl ta3 rfl rfl rfl rfl rfl) ⟨rfl, trivial⟩ (by intro id h; simp at h; subst h; exact Nat.le_of_ble_eq_true rfl) ?_
  refine zbc rfl rfl (zaa rfl) (fun _ => (mv_s (.inl rfl) rfl)) ⟨rfl, trivial⟩ ?_
  refine zbc rfl rfl (zaa rfl) (fun _ => (zav rfl rfl rfl (IntWalk.i64_in _ (by omega)))) ⟨rfl, trivial⟩ ?_
  refine zbc rfl rfl (zaa rfl) (fun _ => (zal rfl ts30 ti51 rfl rfl hkl hxl rfl)) ⟨rfl, trivial⟩ ?_
  refine zbc rfl rfl (zaa rfl) (fun _ => (zcv rfl ta51 ti51 rfl rfl)) ⟨rfl, trivial⟩ ?_
  refine zbc rfl rfl (zaa rfl) (fun _ => (zam rfl rfl ((fSub_pf (Fr.of cost) (gti t.cost (t.last.toNat + i)))) (zad rfl (zad rfl zaq)))) ⟨rfl, trivial⟩ ?_
  refine zbc rfl rfl (zaa rfl) (fun _ => (zde rfl rfl rfl)) ⟨rfl, trivial⟩ ?_
  refine zbc rfl rfl (zaa rfl) (fun _ => (zde rfl rfl rfl)) ⟨rfl, trivial⟩ ?_
  refine fx_n0 rfl rfl (zaa rfl) (fun X => zbo rfl rfl (hny _ (by simp <;> omega)) (zad rfl (zad rfl (zad rfl zaq)))) ⟨rfl, trivial⟩ ?_
  refine fx_flt rfl rfl (zaa rfl) (does_alloc_flt (fun σ => (za0 rfl ti51 rfl rfl))) ⟨rfl, trivial⟩ ?_
  refine fx_nil ⟨rfl, trivial⟩ (by kernel_rfl) (.inl ⟨rfl, rfl⟩) ?_
  simp only [if_true, Bool.false_eq_true, if_false, List.append_nil, List.cons_append, List.nil_append]
  refine zai (eops_eff rfl (zaa rfl) (zaj rfl ti51 rfl rfl rfl rfl rfl rfl (by decide) (by decide)) (zdd (kw_seq (kw_seq ?_))))
  generalize subE (Fr.of cost) (gti t.cost (t.last.toNat + i)) = y at HJ hbd hny ⊢
  have hng := sneg_pf (P := P) y.fr hbd
  refine kw_region (kops_s rfl (kops_nil (zai ?_)))
  cases htu : gti turned i with
  | true =>
   rw [htu] at HJ
   refine kw_true rfl (kw_region (kops_op rfl rfl (zaa rfl) (zba rfl ta51 ti51 rfl rfl rfl rfl rfl) (kops_op rfl rfl (zaa rfl) (zam rfl rfl (hng) (zad rfl zaq)) (kops_eff rfl (zaa rfl) (zaj rfl ti51 rfl rfl rfl rfl rfl rfl (by decide) (by decide)) (kops_nil (zai (kw_region (kops_s rfl (kops_op rfl rfl (zaa rfl) (zba rfl ta51 ti51 rfl rfl rfl rfl rfl) (kops_op rfl rfl (zaa rfl) (zcr rfl ts30 ti51 rfl rfl (by decide) (by decide) rfl rfl rfl (.agg _ (zag (.s _) (zag (.s _) zak)))) ?_))))))))))
   refine kops_op rfl rfl (zaa rfl) (zbm rfl ts30 ti51 rfl (by decide) rfl rfl (by first | rfl | (simp; done) | (simp; omega)) rfl (by first | exact .own _ _ _ rfl rfl _ (by first | rfl | simp) | exact .emp | exact .nil | exact .sl _ (by first | simp; done | intro e he; simp at he; obtain ⟨_, _, rfl⟩ := he; rfl)) (by first | omega | (simp; omega) | (unfold maxLen; simp; omega)) (by first | omega | (simp; omega) | (unfold maxLen; simp; omega))) ?_
   refine kops_s rfl (kops_nil (zbu (zai (kw_region (kops_op rfl rfl (zaa rfl) (zav rfl rfl rfl (IntWalk.i64_in _ (by omega))) (kops_s rfl (kops_nil (zai ?_))))))))
   exact ⟨(i + 1, pre ++ [fneg y.fr], if e = 0 then y.e else e), ⟨by show i + 1 ≤ m; omega, by simp [hp], by rw [HJ]; simp⟩, by show m - (i + 1) < m - i; omega, kwk_st [0, 1, 2, 3, 6] rfl rfl rfl rfl (by decide) ⟨⟨_, rfl, tb_ren rfl rfl⟩, ⟨_, rfl, .rowE (zdb t) rfl⟩, ⟨_, rfl, .rowE (bas_lo t) rfl⟩, ⟨_, rfl, .rowE z.lo rfl⟩, ⟨_, rfl, .rowE (by repeat' (first | exact Lo.s _ | exact za2 | refine zax ?_ ?_ | refine zar ?_ | refine Lo.cells ?_ | refine Lo.agg _ ?_ | exact zak | refine zag ?_ ?_ | intro _)) (by rw [List.map_append]; rfl)⟩, trivial⟩ ⟨.ptr 0 0 5 0 0 rfl, .lo _ (.s _), .own 6 4 2 _ _ rfl (by simp [hp]), .lo _ (zan fun _ => .s _), .lo _ (.s _), .lo _ (.s _), trivial⟩⟩
  | false =>
   rw [htu] at HJ
   refine kw_false rfl (kw_skip (zai (kw_region (kops_s rfl (kops_op rfl rfl (zaa rfl) (zba rfl ta51 ti51 rfl rfl rfl rfl rfl) (kops_op rfl rfl (zaa rfl) (zcr rfl ts30 ti51 rfl rfl (by decide) (by decide) rfl rfl rfl (.agg _ (zag (.s _) (zag (.s _) zak)))) ?_))))))
   refine kops_op rfl rfl (zaa rfl) (zbm rfl ts30 ti51 rfl (by decide) rfl rfl (by first | rfl | (simp; done) | (simp; omega)) rfl (by first | exact .own _ _ _ rfl rfl _ (by first | rfl | simp) | exact .emp | exact .nil | exact .sl _ (by first | simp; done | intro e he; simp at he; obtain ⟨_, _, rfl⟩ := he; rfl)) (by first | omega | (simp; omega) | (unfold maxLen; simp; omega)) (by first | omega | (simp; omega) | (unfold maxLen; simp; omega))) ?_
   refine kops_s rfl (kops_nil (zbu (zai (kw_region (kops_op rfl rfl (zaa rfl) (zav rfl rfl rfl (IntWalk.i64_in _ (by omega))) (kops_s rfl (kops_nil (zai ?_))))))))
   exact ⟨(i + 1, pre ++ [y.fr], if e = 0 then y.e else e), ⟨by show i + 1 ≤ m; omega, by simp [hp], by rw [HJ]; simp⟩, by show m - (i + 1) < m - i; omega, kwk_st [0, 1, 2, 3, 6] rfl rfl rfl rfl (by decide) ⟨⟨_, rfl, tb_ren rfl rfl⟩, ⟨_, rfl, .rowE (zdb t) rfl⟩, ⟨_, rfl, .rowE (bas_lo t) rfl⟩, ⟨_, rfl, .rowE z.lo rfl⟩, ⟨_, rfl, .rowE (by repeat' (first | exact Lo.s _ | exact za2 | refine zax ?_ ?_ | refine zar ?_ | refine Lo.cells ?_ | refine Lo.agg _ ?_ | exact zak | refine zag ?_ ?_ | intro _)) (by rw [List.map_append]; rfl)⟩, trivial⟩ ⟨.ptr 0 0 5 0 0 rfl, .lo _ (.s _), .own 6 4 2 _ _ rfl (by simp [hp]), .lo _ (zan fun _ => .s _), .lo _ (.s _), .lo _ (.s _), trivial⟩⟩
 ·
  have ei : i = m := by omega
  subst ei
  rw [Nat.sub_self] at HJ
  unfold mulF at HJ
  (refine kw_exit ?_; repeat (first | refine zc3 ?_ | refine zb2 ?_ | refine zbq rfl ?_ | refine zbu ?_ | refine zai ?_ | refine kw_seq ?_ | refine kw_skip ?_ | refine kw_block ?_))
  refine kw_weak (kwk_froz (id := 4) rfl) ?_
  refine kw_weak (kwk_sl (d := 7) rfl rfl (by simp [hp])) ?_
  refine kw_region (kops_s rfl (kops_s rfl (kops_nil (zai ?_))))
  refine kw_weak (kwk_cut (σ := stE z t e) (F' := [(6, .sl (pre.map eF))]) (by simp [stE]) (stE_lo _ _ _) ⟨⟨rfl, lo_up (by repeat' (first | exact Lo.s _ | exact zak | refine zag ?_ ?_ | refine zan ?_ | refine Lo.agg _ ?_ | refine Lo.sl _ ?_ | intro _))⟩, trivial⟩) ?_
  (refine kw_ret ?_; repeat (first | refine zbg ?_ | refine zbh ?_))
  subst HJ
  exact ⟨.inr rfl, by simp [Frm.get, eL], rfl⟩
end K4
end Go.Proofs.Ytllkbjcemecmjaa.Aw
end
section
namespace Go.Proofs.Ytllkbjcemecmjaa.Aw
open Go.RowKit Go.Proofs
variable {P : Program} [IsP P]
theorem indexI_pf (l : List Int) (p : Int) : Pure P 77 [eL eI l, eI p] (eI (zct (fun x => decide (x = p)) l)) := by
 refine zcu (by rw [IsP.eq (P := P)]; exact Try.func77) rfl rfl rfl rfl rfl (by repeat' (first | exact Lo.s _ | exact zak | refine zag ?_ ?_ | refine zan ?_ | refine Lo.agg _ ?_ | refine Lo.sl _ ?_ | intro _)) (.s _) (by simp only [argF]; rfl) ?_
 refine zah ?_
 refine aw_bdm (d := 0) rfl (fun hmx => ?_)
 unfold maxLen at hmx
 refine zab (zac rfl (zae (zah (zah (zab (zac rfl (zaf rfl rfl (zaa rfl) (zao rfl ts22 rfl) (zac rfl (zae (zai (zaw ?_)))))))))))
 refine zca (S := Nat) (fun k => [(0, eL eI l), (1, eI p), (7, eI l.length), (8, eI k)]) (fun _ => []) (fun k => k ≤ l.length ∧ ∀ j, j < k → gti l j ≠ p) (fun k => l.length - k) 0 (wk_sub _ ⟨rfl, rfl, rfl, rfl, trivial⟩) ⟨by omega, fun j hj => by omega⟩ (fun k hk => ?_)
 obtain ⟨hk, hall⟩ := hk
 have hno : ∀ j a, j < k → l[j]? = some a → decide (a = p) = false := fun j a hj ha => by
  have := hall j hj
  unfold gti at this
  rw [ha] at this
  exact decide_eq_false this
 refine zah (zab ?_)
 refine za3 rfl rfl (zaa rfl) (za4 rfl rfl rfl) (fun h9 => ?_) (fun h9 => ?_)
 all_goals refine zae (zah ?_)
 all_goals (first | refine za7 rfl ?_ | refine za1 rfl ?_)
 all_goals (repeat (first | refine zah ?_ | refine zat ?_ | refine zaw ?_))
 ·
  have hlt : k < l.length := by omega
  refine zab (zac rfl (zac rfl (zae (zah (zab (zac rfl (zac rfl (zac rfl (zaf rfl rfl (zaa rfl) (zal rfl ts22 ti3 rfl rfl rfl (zbd (by omega)) rfl) (zby ta3 rfl ?_))))))))))
  refine za3 rfl rfl (zaa rfl) (zbk rfl rfl rfl) (fun h16 => ?_) (fun h16 => ?_)
  all_goals refine zae (zai ?_)
  all_goals (first | refine za7 rfl ?_ | refine za1 rfl ?_)
  all_goals (repeat (first | refine zah ?_ | refine zai ?_ | refine zat ?_ | refine zbu ?_))
  ·
   refine zab (zac rfl (zac rfl (zae (zai ?_))))
   (refine za8 ?_; repeat (first | refine zbg ?_ | refine zbh ?_))
   exact zcb (.inr rfl) rfl (congrArg eI (firstAt_some (zdp hlt) (decide_eq_true h16.symm) hno).symm)
  ·
   refine zab (zaf rfl rfl (zaa rfl) (zav rfl rfl rfl (IntWalk.i64_in _ (by omega))) (zac rfl (zae (zai ?_))))
   refine ⟨k + 1, ⟨by omega, fun j hj => ?_⟩, by omega, wk_sub _ ⟨rfl, rfl, rfl, rfl, trivial⟩⟩
   by_cases e : j = k
   ·
    subst e; exact fun h => h16 h.symm
   ·
    exact hall j (by omega)
 ·
  have e : k = l.length := by omega
  subst e
  (refine zcl ?_; repeat (first | refine zc3 ?_ | refine zb2 ?_ | refine zbq rfl ?_ | refine zbu ?_ | refine zai ?_ | refine zah ?_ | refine zat ?_ | refine zaw ?_))
  refine zab (zac rfl (zae (zai ?_)))
  (refine za8 ?_; repeat (first | refine zbg ?_ | refine zbh ?_))
  exact zcb (.inr rfl) rfl (congrArg eI (firstAt_none hno).symm)
theorem containsI_pf (l : List Int) (p : Int) : Pure P 48 [eL eI l, eI p] (eB (inB l p)) := by
 have hi := indexI_pf (P := P) l p
 have ha : decide (0 ≤ zct (fun x => decide (x = p)) l) = inB l p := firstAt_any _ _
 generalize zct (fun x => decide (x = p)) l = k at hi ha
 refine zcu (by rw [IsP.eq (P := P)]; exact Try.func48) rfl rfl rfl rfl rfl (by repeat' (first | exact Lo.s _ | exact zak | refine zag ?_ ?_ | refine zan ?_ | refine Lo.agg _ ?_ | refine Lo.sl _ ?_ | intro _)) (.s _) (by simp only [argF]; rfl) ?_
 refine zah (zab (zac rfl (zae (zah (zab (zac rfl (zac rfl (zaf rfl rfl (zaa rfl) (zam rfl rfl (hi) (zad rfl (zad rfl zaq))) (zaf rfl rfl (zaa rfl) (zcz rfl rfl rfl) (zac rfl (zae (zai ?_))))))))))))
 (refine za8 ?_; repeat (first | refine zbg ?_ | refine zbh ?_))
 exact zcb (.inr rfl) rfl (congrArg eB ha)
def unitL (n : Nat) (f : Nat → Bool) : List Fr := (List.range n).map fun i => Fr.of (if f i = true then 1 else 0)
theorem unitL_len (n : Nat) (f : Nat → Bool) : (unitL n f).length = n := by simp [unitL]
theorem unitL_gti {n : Nat} {f : Nat → Bool} {k : Nat} (h : k < n) : gti (unitL n f) k = Fr.of (if f k = true then 1 else 0) := by
 have h1 : (unitL n f)[k]? = some (Fr.of (if f k = true then 1 else 0)) := by
  unfold unitL
  rw [List.getElem?_map, List.getElem?_range h]; rfl
 unfold gti
 rw [h1]; rfl
set_option maxHeartbeats 1000000 in
theorem unit_pf (n : Nat) (hn : n ≤ 12) (f : FuncId) (caps : List AV) (p : Nat → Bool) (hlc : Lo 0 (.fn f caps)) (hf : ∀ i, i < n → Pure P f ([eI i] ++ caps) (eB (p i))) : Pure P 46 [eI n, .fn f caps] (eL eF (unitL n p)) := by
 refine zcu (by rw [IsP.eq (P := P)]; exact Try.func46) rfl rfl rfl rfl rfl (zag (.s _) (zag hlc zak)) (by repeat' (first | exact Lo.s _ | exact zak | refine zag ?_ ?_ | refine zan ?_ | refine Lo.agg _ ?_ | refine Lo.sl _ ?_ | intro _)) (by simp only [argF]; rfl) ?_
 refine zah (zab (zac rfl (zae (zah (zab (zaf rfl rfl (zaa rfl) (does_lit0 rfl rfl ts30 ti51) (zac rfl (zae (zah (zah (zab (zac rfl (zac rfl (zae (zai (zaw ?_))))))))))))))))
 refine zbi (wk_own (d := 5) 2 rfl (.inl rfl)) ?_
 refine zca (S := Nat) (fun k => [(1, .fn f caps), (8, eI n), (9, eI k), (5, .own 0 2 k)]) (fun k => [.row 2 (((unitL n p).take k).map eF)]) (fun k => k ≤ n) (fun k => n - k) 0 (zck [0] (by decide) ⟨⟨_, rfl, .rowE (za2) rfl⟩, trivial⟩ ⟨.lo _ hlc, .lo _ (.s _), .lo _ (.s _), .own 0 0 2 _ _ rfl rfl, trivial⟩) (Nat.zero_le _) (fun k hk => ?_)
 have hcl := unitL_len n p
 refine zah (zab ?_)
 refine za3 rfl rfl (zaa rfl) (za4 rfl rfl rfl) (fun h10 => ?_) (fun h10 => ?_)
 all_goals refine zae (zah ?_)
 all_goals (first | refine za7 rfl ?_ | refine za1 rfl ?_)
 all_goals (repeat (first | refine zah ?_ | refine zat ?_ | refine zaw ?_))
 ·
  have hlt : k < n := by omega
  have htk : (((unitL n p).take k).map eF).length = k := by simp; omega
  have hrow : ((unitL n p).take (k + 1)).map eF = ((unitL n p).take k).map eF ++ [eF (Fr.of (if p k = true then 1 else 0))] := by
   rw [zcw (by omega), List.map_append, unitL_gti hlt]; rfl
  have hp := hf k hlt
  generalize p k = z at hp hrow
  refine zab (zac rfl (zac rfl (zae (zah ?_))))
  cases z with
  | true =>
   refine zab (zac rfl (zac rfl (zaf rfl rfl (zaa rfl) (zam rfl rfl (hp) (zad rfl zaq)) (zae (zai (za7 rfl ?_))))))
   rw [if_pos rfl] at hrow
   refine zab (zac rfl (zaf rfl rfl (zaa rfl) (zam rfl rfl ((whole_pf _)) (zad rfl zaq)) (zaf rfl rfl (zaa rfl) (zcr rfl ts30 ti51 rfl rfl (by decide) (by decide) rfl rfl rfl (.agg _ (zag (.s _) (zag (.s _) zak)))) ?_)))
   refine zaf rfl rfl (zaa rfl) (zbm rfl ts30 ti51 rfl (by decide) rfl rfl (by first | rfl | (simp; done) | (simp; omega)) rfl (by first | exact .own _ _ _ rfl rfl _ (by first | rfl | simp) | exact .emp | exact .nil | exact .sl _ (by first | simp; done | intro e he; simp at he; obtain ⟨_, _, rfl⟩ := he; rfl)) (by first | omega | (simp; omega) | (unfold maxLen; simp; omega)) (by first | omega | (simp; omega) | (unfold maxLen; simp; omega))) ?_
   refine zac rfl (zae (zbu (zai (zab (zaf rfl rfl (zaa rfl) (zav rfl rfl rfl (IntWalk.i64_in _ (by omega))) (zac rfl (zae (zai ?_))))))))
   exact ⟨k + 1, by omega, by omega, zck [1] (by decide) ⟨⟨_, rfl, .rowE (by repeat' (first | exact Lo.s _ | exact za2 | refine zax ?_ ?_ | refine zar ?_ | refine Lo.cells ?_ | refine Lo.agg _ ?_ | exact zak | refine zag ?_ ?_ | intro _)) (Eq.trans (b := ((unitL n p).take k).map eF ++ [eF (Fr.of 1)]) rfl hrow.symm)⟩, trivial⟩ ⟨.lo _ hlc, .lo _ (.s _), .lo _ (.s _), .own 1 0 2 _ _ rfl (by simp; omega), trivial⟩⟩
  | false =>
   refine zab (zac rfl (zac rfl (zaf rfl rfl (zaa rfl) (zam rfl rfl (hp) (zad rfl zaq)) (zae (zai (za1 rfl ?_))))))
   rw [if_neg (by simp)] at hrow
   refine zab (zac rfl (zaf rfl rfl (zaa rfl) (zam rfl rfl ((whole_pf _)) (zad rfl zaq)) (zaf rfl rfl (zaa rfl) (zcr rfl ts30 ti51 rfl rfl (by decide) (by decide) rfl rfl rfl (.agg _ (zag (.s _) (zag (.s _) zak)))) ?_)))
   refine zaf rfl rfl (zaa rfl) (zbm rfl ts30 ti51 rfl (by decide) rfl rfl (by first | rfl | (simp; done) | (simp; omega)) rfl (by first | exact .own _ _ _ rfl rfl _ (by first | rfl | simp) | exact .emp | exact .nil | exact .sl _ (by first | simp; done | intro e he; simp at he; obtain ⟨_, _, rfl⟩ := he; rfl)) (by first | omega | (simp; omega) | (unfold maxLen; simp; omega)) (by first | omega | (simp; omega) | (unfold maxLen; simp; omega))) ?_
   refine zac rfl (zae (zbu (zai (zab (zaf rfl rfl (zaa rfl) (zav rfl rfl rfl (IntWalk.i64_in _ (by omega))) (zac rfl (zae (zai ?_))))))))
   exact ⟨k + 1, by omega, by omega, zck [1] (by decide) ⟨⟨_, rfl, .rowE (by repeat' (first | exact Lo.s _ | exact za2 | refine zax ?_ ?_ | refine zar ?_ | refine Lo.cells ?_ | refine Lo.agg _ ?_ | exact zak | refine zag ?_ ?_ | intro _)) (Eq.trans (b := ((unitL n p).take k).map eF ++ [eF (Fr.of 0)]) rfl hrow.symm)⟩, trivial⟩ ⟨.lo _ hlc, .lo _ (.s _), .lo _ (.s _), .own 1 0 2 _ _ rfl (by simp; omega), trivial⟩⟩
 ·
  (refine zcl ?_; repeat (first | refine zc3 ?_ | refine zb2 ?_ | refine zbq rfl ?_ | refine zbu ?_ | refine zai ?_ | refine zah ?_ | refine zat ?_ | refine zaw ?_))
  refine zab (zac rfl (zac rfl (zae (zai ?_))))
  (refine za8 ?_; repeat (first | refine zbg ?_ | refine zbh ?_))
  have e : (unitL n p).take k = unitL n p := List.take_of_length_le (by omega)
  refine post1f (.inr rfl) rfl ?_
  rw [e]
  exact .own _ _ _ _ _ rfl rfl (by simp; omega)
theorem prog2_pf (l : List Sft) (k i : Nat) (hi : i < l.length) : Pure P 47 [eI i, .ref [eL eSh l], .ref [eI k]] (eB (inB (gti l i).pd k)) := by
 have hc := containsI_pf (P := P) (gti l i).pd k
 refine zcu (by rw [IsP.eq (P := P)]; exact Try.func47) rfl rfl rfl rfl rfl (by repeat' (first | exact Lo.s _ | exact zak | refine zag ?_ ?_ | refine zan ?_ | refine Lo.cells ?_ | refine Lo.agg _ ?_ | refine Lo.ref _ ?_ | refine Lo.tup _ ?_ | refine Lo.fn _ _ ?_ | refine Lo.sl _ ?_ | intro _)) (.s _) (by simp only [argF]; rfl) ?_
 refine zah (zab (zac rfl (zae (zah ?_))))
 refine zcj hmix ?_
 refine zdg ?_
 refine ex_l ta23 rfl (ex_s rfl (zaz rfl rfl (zaa rfl) (fun _ => (zal rfl ts23 ti39 rfl rfl rfl (zbd (by omega)) rfl)) (ex_f tf39_0 rfl (ex_l ta22 rfl (ex_l ta3 rfl (zaz rfl rfl (zaa rfl) (fun _ => (zam rfl rfl (hc) (zad rfl (zad rfl zaq)))) (ex_s rfl ?_)))))))
 refine zcc (by kernel_rfl) ?_
 refine zai ?_
 (refine za8 ?_; repeat (first | refine zbg ?_ | refine zbh ?_))
 exact zcb (.inr rfl) rfl rfl
theorem prog3_pf (k i : Nat) : Pure P 49 [eI i, .ref [eI k]] (eB (decide (i = k))) := by
 refine zcu (by rw [IsP.eq (P := P)]; exact Try.func49) rfl rfl rfl rfl rfl (by repeat' (first | exact Lo.s _ | exact zak | refine zag ?_ ?_ | refine zan ?_ | refine Lo.cells ?_ | refine Lo.agg _ ?_ | refine Lo.ref _ ?_ | refine Lo.tup _ ?_ | refine Lo.fn _ _ ?_ | refine Lo.sl _ ?_ | intro _)) (.s _) (by simp only [argF]; rfl) ?_
 refine zah (zab (zac rfl (zae (zah (zab (zac rfl (zby ta3 rfl (zaf rfl rfl (zaa rfl) (zbk rfl rfl rfl) (zac rfl (zae (zai ?_)))))))))))
 (refine za8 ?_; repeat (first | refine zbg ?_ | refine zbh ?_))
 exact zcb (.inr rfl) rfl (congrArg eB (by by_cases h : i = k <;> simp [h]; omega))
theorem prog4_pf (k i : Nat) : Pure P 50 [eI i, .ref [eI k]] (eB (decide (i = k))) := by
 refine zcu (by rw [IsP.eq (P := P)]; exact Try.func50) rfl rfl rfl rfl rfl (by repeat' (first | exact Lo.s _ | exact zak | refine zag ?_ ?_ | refine zan ?_ | refine Lo.cells ?_ | refine Lo.agg _ ?_ | refine Lo.ref _ ?_ | refine Lo.tup _ ?_ | refine Lo.fn _ _ ?_ | refine Lo.sl _ ?_ | intro _)) (.s _) (by simp only [argF]; rfl) ?_
 refine zah (zab (zac rfl (zae (zah (zab (zac rfl (zby ta3 rfl (zaf rfl rfl (zaa rfl) (zbk rfl rfl rfl) (zac rfl (zae (zai ?_)))))))))))
 (refine za8 ?_; repeat (first | refine zbg ?_ | refine zbh ?_))
 exact zcb (.inr rfl) rfl (congrArg eB (by by_cases h : i = k <;> simp [h]; omega))
theorem edraw_ex {N : Nat} {l : List Oper} {F : Frm} {σ : List Ob} {Q : Exit → Frm → List Ob → Prop} (h : EX P N l.toArray l [] l F σ (fun F' σ' => Q .normal F' σ')) : EDraw P N l F σ Q := by
 obtain ⟨F', σ', out, ks, sts, h1, h2, h3⟩ := h
 exact edraw_steps h1 (by simpa using h2) h3
def pgS (a b c d : Nat) (C : List Fr) (A : List (List Fr)) (R : List Int) (B : List Fr) : AV := .agg [.own a 2 (C.map eF).length, .own b 1 (A.map (eL eF)).length, .own c 1 (R.map eI).length, .own d 2 (B.map eF).length]
set_option maxHeartbeats 2000000 in
theorem prog1_call (n : Nat) (hn : n ≤ 12) (l : List Sft) (hl : l.length = n) (C : List Fr) (A : List (List Fr)) (R : List Int) (B : List Fr) (hA : A.length ≤ 60) (hR : R.length ≤ 60) (hB : B.length ≤ 60) (X Y : Ob) (f : FuncId) (caps : List AV) (p : Nat → Bool) (hlc : Lo 0 (.fn f caps)) (hf : ∀ i, i < n → Pure P f ([eI i] ++ caps) (eB (p i))) (rel v : Int) :
  CallE P 45 [.fn f caps, eI rel, eI v, .ptr 0 4 0 0, .ref [eL eSh l]] [.row 4 [pgS 1 2 3 4 C A R B], .row 2 (C.map eF), .row 1 (A.map (eL eF)), .row 1 (R.map eI), .row 2 (B.map eF), X, Y] (.tup [])
   [.row 4 [pgS 1 7 8 9 C (A ++ [unitL n p]) (R ++ [rel]) (B ++ [Fr.of v])], .row 2 (C.map eF), .dead, .dead, .dead, X, Y, .row 1 ((A ++ [unitL n p]).map (eL eF)), .row 1 ((R ++ [rel]).map eI), .row 2 ((B ++ [Fr.of v]).map eF)] := by
 subst hl
 have hu := unit_pf (P := P) l.length hn f caps p hlc hf
 generalize unitL l.length p = u at hu ⊢
 have e1 : (A ++ [u]).map (eL eF) = A.map (eL eF) ++ [eL eF u] := by simp
 have e2 : (R ++ [rel]).map eI = R.map eI ++ [eI rel] := by simp
 have e3 : (B ++ [Fr.of v]).map eF = B.map eF ++ [eF (Fr.of v)] := by simp
 have l1 : (A.map (eL eF) ++ [eL eF u]).length = (A.map (eL eF)).length + 1 := by simp
 have l2 : (R.map eI ++ [eI rel]).length = (R.map eI).length + 1 := by simp
 have l3 : (B.map eF ++ [eF (Fr.of v)]).length = (B.map eF).length + 1 := by simp
 unfold pgS
 rw [e1, e2, e3, l1, l2, l3]
 refine callE_fn (by rw [IsP.eq (P := P)]; exact Try.func45) rfl rfl (Nat.le_of_ble_eq_true rfl) ?_
 simp only [argF]
 refine ew_seq ?_
 refine ew_draw hmix ?_
 refine edraw_ex ?_
 refine ex_f tf47_1 rfl (zbt rfl rfl (zaa rfl) (zbn rfl ta45 rfl rfl rfl rfl rfl) (ex_l ta23 rfl (zaz rfl rfl (zaa rfl) (fun _ => (zao rfl ts23 rfl)) (ex_s rfl (zaz rfl rfl (zaa rfl) (fun _ => (zam rfl rfl (hu) (zad rfl (zad rfl zaq)))) ?_)))))
 refine zaz rfl rfl (zaa rfl) (fun _ => (lit1_slF rfl ts45 ti30 rfl rfl rfl rfl (by repeat' (first | exact Lo.s _ | exact zak | refine zag ?_ ?_ | refine zan ?_ | refine Lo.agg _ ?_ | refine Lo.sl _ ?_ | intro _)))) ?_
 refine zdh rfl rfl (zaa rfl) (zbm rfl ts45 ti30 rfl (by decide) rfl rfl (by first | rfl | (simp; done) | (simp; omega)) rfl (by first | exact .own _ _ _ rfl rfl _ (by first | rfl | simp) | exact .emp | exact .nil | exact .sl _ (by first | simp; done | intro e he; simp at he; obtain ⟨_, _, rfl⟩ := he; rfl)) (by first | omega | (simp; omega) | (unfold maxLen; simp; omega)) (by first | omega | (simp; omega) | (unfold maxLen; simp; omega))) (fun _ h => zcp h) ?_
 refine ex_f tf47_1 rfl ?_
 refine zci rfl (zaa rfl) (zaj rfl ti45 rfl rfl rfl rfl rfl rfl (by decide) (by decide)) (fun _ h => zbr h) ?_
 refine zcc (by kernel_rfl) ?_
 refine ew_seq (zdq (eops_f tf47_2 rfl (eops_op rfl rfl (zaa rfl) (zap rfl ta22 rfl rfl rfl rfl rfl) (eops_s rfl (eops_op rfl rfl (zaa rfl) (lit1_sF rfl ts22 ti3 rfl rfl rfl rfl) ?_)))))
 refine eops_op rfl rfl (zaa rfl) (zbm rfl ts22 ti3 rfl (by decide) rfl rfl (by first | rfl | (simp; done) | (simp; omega)) rfl (by first | exact .own _ _ _ rfl rfl _ (by first | rfl | simp) | exact .emp | exact .nil | exact .sl _ (by first | simp; done | intro e he; simp at he; obtain ⟨_, _, rfl⟩ := he; rfl)) (by first | omega | (simp; omega) | (unfold maxLen; simp; omega)) (by first | omega | (simp; omega) | (unfold maxLen; simp; omega))) ?_
 refine eops_f tf47_2 rfl (eops_eff rfl (zaa rfl) (zaj rfl ti22 rfl rfl rfl rfl rfl rfl (by decide) (by decide)) (zdd (zai ?_)))
 refine ew_draw hmix ?_
 refine edraw_ex ?_
 refine ex_f tf47_3 rfl (zbt rfl rfl (zaa rfl) (zbn rfl ta30 rfl rfl rfl rfl rfl) (ex_s rfl (zaz rfl rfl (zaa rfl) (fun _ => (zam rfl rfl ((whole_pf _)) (zad rfl zaq))) (zaz rfl rfl (zaa rfl) (fun _ => (zcr rfl ts30 ti51 rfl rfl (by decide) (by decide) rfl rfl rfl (.agg _ (zag (.s _) (zag (.s _) zak))))) ?_))))
 refine zdh rfl rfl (zaa rfl) (zbm rfl ts30 ti51 rfl (by decide) rfl rfl (by first | rfl | (simp; done) | (simp; omega)) rfl (by first | exact .own _ _ _ rfl rfl _ (by first | rfl | simp) | exact .emp | exact .nil | exact .sl _ (by first | simp; done | intro e he; simp at he; obtain ⟨_, _, rfl⟩ := he; rfl)) (by first | omega | (simp; omega) | (unfold maxLen; simp; omega)) (by first | omega | (simp; omega) | (unfold maxLen; simp; omega))) (fun _ h => zcp h) ?_
 refine ex_f tf47_3 rfl ?_
 refine zci rfl (zaa rfl) (zaj rfl ti30 rfl rfl rfl rfl rfl rfl (by decide) (by decide)) (fun _ h => zbr h) ?_
 refine zcc (by kernel_rfl) ?_
 exact ⟨.inl rfl, rfl, _, .nil, rfl⟩
end Go.Proofs.Ytllkbjcemecmjaa.Aw
end
