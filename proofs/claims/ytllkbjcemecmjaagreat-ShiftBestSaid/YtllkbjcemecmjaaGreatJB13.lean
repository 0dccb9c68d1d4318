import Derived.Test.YtllkbjcemecmjaaGreatJB12
import Derived.Test.YtllkbjcemecmjaaGreatJB6
import Derived.Test.YtllkbjcemecmjaaGreatJB4
set_option linter.unusedSimpArgs false
set_option linter.unusedVariables false
set_option linter.unusedSectionVars false
section
namespace Go.Proofs.YtllkbjcemecmjaaGreat.Aw
open Go Go.RowKit Go.Proofs
variable {P : Program} [IsP P]
theorem post_cct {F : Frm} {σ : List Ob} {ad ad2 u : Nat} {ty ty2 : TypeId} {id sz k n bt id2 sz2 k2 n2 bt2 : Nat} {z z2 : Option Value} {ob ob2 : Ob} {cs cs2 : List AV} {e1 e2 r1 r2 y : AV} {e : Exit} (he : e = .normal ∨ e = .ret) (ha : zc8 P ty = some true) (hi : zb5 P ty = some (z, n, bt)) (hp : F.get ad = .ptr id sz k 0) (hs : σ[id]? = some ob) (ho : rowOf ob = some (sz, cs)) (hk : cs[k]? = some e1) (hn : e1.cells.length = n)
  (ha2 : zc8 P ty2 = some true) (hi2 : zb5 P ty2 = some (z2, n2, bt2)) (hp2 : F.get ad2 = .ptr id2 sz2 k2 0) (hs2 : σ[id2]? = some ob2) (ho2 : rowOf ob2 = some (sz2, cs2)) (hk2 : cs2[k2]? = some e2) (hn2 : e2.cells.length = n2) (hu : F.get u = y) (hr1 : Fini σ (.agg e1.cells) r1) (hr2 : Fini σ (.agg e2.cells) r2) : APost P [.cell ad ty, .cell ad2 ty2, .tmp u] (.tup [r1, r2, y]) e F σ :=
 ⟨he, [.agg e1.cells, .agg e2.cells, y], .cons _ _ _ _ (.cells ad ty id sz k n bt z ob cs e1 ha hi hp hs ho hk hn) (.cons _ _ _ _ (.cells ad2 ty2 id2 sz2 k2 n2 bt2 z2 ob2 cs2 e2 ha2 hi2 hp2 hs2 ho2 hk2 hn2) (.cons _ _ _ _ (.tmp u y hu) .nil)), .tup _ _ rfl (zbd.cons hr1 (zbd.cons hr2 (zbd.cons (.refl _) zbd.nil))).2⟩
noncomputable def bstT (d : List Int) (l : List Sft) : Br × Bool × Int := prvT d l (srcE d l).2 (boxM (zcv l.length) (zcs l) l.length + 1) 20000 (zcv l.length) (zcs l)
noncomputable def bstR (d : List Int) (l : List Sft) (lim : Int) : Pln × Br × Int :=
 if ¬ zce d l = true then (⟨[], 0⟩, zBr, 1) else
 if lim < 1 ∨ 1048576 < lim then (⟨[], 0⟩, zBr, 2) else
 if 0 ≤ shE d l (zcs l) then (⟨[], 0⟩, zBr, 17) else
 if lim < allF l l.length then (⟨[], 0⟩, zBr, 13) else
 if (bstT d l).2.1 = true ∧ chkE d l ⟨(srcE d l).1.getD [], (srcE d l).2⟩ (bstT d l).1 = true then (⟨(srcE d l).1.getD [], (srcE d l).2⟩, (bstT d l).1, 0) else (⟨[], 0⟩, zBr, 13)
def eR3 (r : Pln × Br × Int) : AV := .tup [ePl r.1, eBr r.2.1, eI r.2.2]
theorem eR3_zero (e : Int) : eR3 (⟨[], 0⟩, zBr, e) = .tup [.agg [.sl [], eI 0], .agg [eI 0, eI 0, .sl [], .sl []], eI e] := by unfold eR3; rw [eBr_zero]; rfl
theorem lo_Pl (p : Pln) : Lo 0 (ePl p) := .agg _ (zah (zan fun _ => .s _) (zah (.s _) zak))
theorem lo_R3 (r : Pln × Br × Int) : Lo 0 (eR3 r) := .tup _ (zah (lo_Pl _) (zah (lo_Br _) (zah (.s _) zak)))
theorem allF_bd {l : List Sft} (h : ∀ k, k < l.length → 0 ≤ (gti l k).most) : ∀ i, i ≤ l.length → 1 ≤ allF l i ∧ allF l i ≤ 1048577 := fun i hi => by
 rw [allF_eq h i hi, numF_eq h xf i hi]
 have := prodF_pos h i hi
 omega
set_option maxHeartbeats 16000000 in
theorem best_pf (d : List Int) (l : List Sft) (lim : Int) : Pure P 8 [eL eI d, eL eSh l, eI lim] (eR3 (bstR d l lim)) := by
 have hva := sValid_pf54 (P := P) d l
 have HI : bstR d l lim = bstR d l lim := rfl
 conv at HI => rhs; unfold bstR
 generalize bstR d l lim = R at HI ⊢
 refine zcl (by rw [IsP.eq (P := P)]; exact Tryz.func8) rfl rfl rfl rfl rfl (zah (zan fun _ => .s _) (zah (zan lo_Sh) (zah (.s _) zak))) (lo_R3 _) (by simp only [argF]; rfl) ?_
 refine zag (zab (zaf rfl rfl (zaa rfl) (za1 rfl ti28 rfl rfl) (zaf rfl rfl (zaa rfl) (za1 rfl ti32 rfl rfl) (zac rfl (zad (zag (zag ?_)))))))
 cases hv : zce d l with
 | false =>
  rw [hv] at hva HI
  rw [if_pos xo] at HI
  refine zab (zac rfl (zac rfl ?_))
  refine zaf rfl rfl (zaa rfl) (zam rfl rfl (by assumption) (zae rfl (zae rfl zap))) ?_
  refine zaf rfl rfl (zaa rfl) (zbj rfl rfl) (zad (zai (za5 rfl (zag (zab (zaf rfl rfl (zaa rfl) (za9 rfl ti28 tp28 rfl rfl) (zaf rfl rfl (zaa rfl) (za9 rfl ti32 tp32 rfl rfl) (zba rfl (zaa rfl) (zaj rfl ti28 rfl rfl rfl rfl rfl rfl xf xf) (zba rfl (zaa rfl) (zaj rfl ti32 rfl rfl rfl rfl rfl rfl xf xf) (zac rfl (zad (zai ?_))))))))))))
  (refine za7 ?_; repeat (first | refine zbc ?_ | refine zbe ?_))
  subst HI
  rw [eR3_zero]
  exact post_cct (.inr rfl) ta28 ti28 rfl rfl rfl rfl rfl ta32 ti32 rfl rfl rfl rfl rfl rfl (.agg _ _ rfl (zbd.cons .nil (zbd.cons (.refl _) zbd.nil)).2) (.agg _ _ rfl (zbd.cons (.refl _) (zbd.cons (.refl _) (zbd.cons .nil (zbd.cons .nil zbd.nil)))).2)
 | true =>
  rw [hv] at hva
  rw [if_neg (fun h => h hv)] at HI
  obtain ⟨⟨q1, q2, q3⟩, qd, ql⟩ := zb4 hv
  have hmo0 : ∀ k, k < l.length → 0 ≤ (gti l k).most := fun k hk => by have := (ql k hk).1; omega
  have hcn := (mem_allC l (zcs l)).1 (mostL_allC hv)
  have hmo := most_pf (P := P) l q3
  have hsh := short_pf (P := P) d l (zcs l) hv ⟨mostL_len l, q3, fun k hk => by have := hcn.2 k hk; have := (ql k hk).1; omega⟩
  refine zab (zac rfl (zac rfl ?_))
  refine zaf rfl rfl (zaa rfl) (zam rfl rfl (by assumption) (zae rfl (zae rfl zap))) ?_
  refine zaf rfl rfl (zaa rfl) (zbj rfl rfl) (zad (zai (zau rfl (zar (zag (zag (zab (zac rfl ?_))))))))
  refine za3 rfl rfl (zaa rfl) (za2 rfl rfl rfl) (fun h24 => ?_) (fun h24 => ?_)
  all_goals refine zac rfl ?_
  all_goals (first | refine zac rfl ?_ | refine za4 rfl ?_)
  all_goals (first | refine za3 rfl rfl (zat rfl rfl rfl) (zb0 rfl rfl rfl) (fun h27 => ?_) (fun h27 => ?_) | refine za4 rfl ?_)
  all_goals refine zac rfl (zad (zai ?_))
  all_goals (first | refine za5 rfl ?_ | refine zau rfl ?_)
  all_goals (repeat (first | refine zag ?_ | refine zar ?_))
  ·
   rw [if_pos (.inl h24)] at HI
   refine zab (zaf rfl rfl (zaa rfl) (za9 rfl ti28 tp28 rfl rfl) (zaf rfl rfl (zaa rfl) (za9 rfl ti32 tp32 rfl rfl) (zba rfl (zaa rfl) (zaj rfl ti28 rfl rfl rfl rfl rfl rfl xf xf) (zba rfl (zaa rfl) (zaj rfl ti32 rfl rfl rfl rfl rfl rfl xf xf) (zac rfl (zad (zai ?_)))))))
   (refine za7 ?_; repeat (first | refine zbc ?_ | refine zbe ?_))
   subst HI
   rw [eR3_zero]
   exact post_cct (.inr rfl) ta28 ti28 rfl rfl rfl rfl rfl ta32 ti32 rfl rfl rfl rfl rfl rfl (.agg _ _ rfl (zbd.cons .nil (zbd.cons (.refl _) zbd.nil)).2) (.agg _ _ rfl (zbd.cons (.refl _) (zbd.cons (.refl _) (zbd.cons .nil (zbd.cons .nil zbd.nil)))).2)
  ·
   rw [if_pos (.inr h27)] at HI
   refine zab (zaf rfl rfl (zaa rfl) (za9 rfl ti28 tp28 rfl rfl) (zaf rfl rfl (zaa rfl) (za9 rfl ti32 tp32 rfl rfl) (zba rfl (zaa rfl) (zaj rfl ti28 rfl rfl rfl rfl rfl rfl xf xf) (zba rfl (zaa rfl) (zaj rfl ti32 rfl rfl rfl rfl rfl rfl xf xf) (zac rfl (zad (zai ?_)))))))
   (refine za7 ?_; repeat (first | refine zbc ?_ | refine zbe ?_))
   subst HI
   rw [eR3_zero]
   exact post_cct (.inr rfl) ta28 ti28 rfl rfl rfl rfl rfl ta32 ti32 rfl rfl rfl rfl rfl rfl (.agg _ _ rfl (zbd.cons .nil (zbd.cons (.refl _) zbd.nil)).2) (.agg _ _ rfl (zbd.cons (.refl _) (zbd.cons (.refl _) (zbd.cons .nil (zbd.cons .nil zbd.nil)))).2)
  rw [if_neg xd] at HI
  refine zab (zac rfl (zac rfl (zac rfl (zaf rfl rfl (zaa rfl) (zam rfl rfl (hmo) (zae rfl zap)) (zaf rfl rfl (zaa rfl) (zam rfl rfl (hsh) (zae rfl (zae rfl (zae rfl zap)))) ?_)))))
  refine za3 rfl rfl (zaa rfl) (zcp rfl rfl rfl) (fun h36 => ?_) (fun h36 => ?_)
  all_goals refine zad (zai ?_)
  all_goals (first | refine za5 rfl ?_ | refine zau rfl ?_)
  all_goals (repeat (first | refine zag ?_ | refine zar ?_))
  ·
   rw [if_pos h36] at HI
   refine zab (zaf rfl rfl (zaa rfl) (za9 rfl ti28 tp28 rfl rfl) (zaf rfl rfl (zaa rfl) (za9 rfl ti32 tp32 rfl rfl) (zba rfl (zaa rfl) (zaj rfl ti28 rfl rfl rfl rfl rfl rfl xf xf) (zba rfl (zaa rfl) (zaj rfl ti32 rfl rfl rfl rfl rfl rfl xf xf) (zac rfl (zad (zai ?_)))))))
   (refine za7 ?_; repeat (first | refine zbc ?_ | refine zbe ?_))
   subst HI
   rw [eR3_zero]
   exact post_cct (.inr rfl) ta28 ti28 rfl rfl rfl rfl rfl ta32 ti32 rfl rfl rfl rfl rfl rfl (.agg _ _ rfl (zbd.cons .nil (zbd.cons (.refl _) zbd.nil)).2) (.agg _ _ rfl (zbd.cons (.refl _) (zbd.cons (.refl _) (zbd.cons .nil (zbd.cons .nil zbd.nil)))).2)
  rw [if_neg h36] at HI
  refine zab (zac rfl (zad (zag (zag (zab (zac rfl (zaf rfl rfl (zaa rfl) (zao rfl ts23 rfl) (zac rfl (zad (zai (zas ?_)))))))))))
  refine zb1 (S := Nat) (fun i => [(0, eL eI d), (1, eL eSh l), (2, eI lim), (6, .ptr 0 2 0 0), (7, .ptr 1 4 0 0), (8, eI 0), (9, eI (allF l i)), (39, eL eSh l), (40, eI l.length), (41, eI i)]) (fun _ => [.row 2 [.agg [.s (.slice none 0 0), eI 0]], .row 4 [zBrA]]) (fun i => i ≤ l.length) (fun i => l.length - i) 0
   (zb8 [0, 1] xf ⟨⟨_, rfl, .rowE xb rfl⟩, ⟨_, rfl, .rowE xb rfl⟩, trivial⟩ ⟨.lo _ (zan fun _ => .s _), .lo _ (zan lo_Sh), .lo _ (.s _), .ptr 0 0 2 0 0 rfl, .ptr 1 1 4 0 0 rfl, .lo _ (.s _), .lo _ (.s _), .lo _ (zan lo_Sh), .lo _ (.s _), .lo _ (.s _), trivial⟩) (Nat.zero_le _) (fun i hi => ?_)
  refine zag (zab ?_)
  refine za3 rfl rfl (zaa rfl) (za2 rfl rfl rfl) (fun h42 => ?_) (fun h42 => ?_)
  all_goals refine zad (zag ?_)
  all_goals (first | refine za5 rfl ?_ | refine zau rfl ?_)
  all_goals (repeat (first | refine zag ?_ | refine zar ?_ | refine zas ?_))
  ·
   have hlt : i < l.length := by omega
   have hxl : (l.map eSh)[i]? = some (eSh (gti l i)) := zbb hlt
   have hm := (ql i hlt).1
   have hb := allF_bd hmo0 i xd
   have hmu : 0 ≤ allF l i * ((gti l i).most + 1) ∧ allF l i * ((gti l i).most + 1) ≤ 22020117 := ⟨Int.mul_nonneg xd xd, by have := Int.mul_le_mul hb.2 (show (gti l i).most + 1 ≤ 21 by omega) xd xd; omega⟩
   have hmin : (if (1048577 : Int) < allF l i * ((gti l i).most + 1) then (1048577 : Int) else allF l i * ((gti l i).most + 1)) = allF l (i + 1) := by
    show _ = min (allF l i * ((gti l i).most + 1)) 1048577
    rw [Int.min_def]; split <;> split <;> omega
   refine zab (zaf rfl rfl (zaa rfl) (zal rfl ts23 ti43 rfl rfl rfl hxl rfl) (zcx ta43 ti43 rfl (zaf rfl rfl (zaa rfl) (za1 rfl ti43 rfl rfl) (zba rfl (zaa rfl) (zaj rfl ti43 rfl rfl rfl rfl rfl rfl xf xf) (zad (zai (zab (zac rfl (zbz tf43_2 rfl (zaf rfl rfl (zaa rfl) (zaq rfl ta3 rfl rfl rfl rfl rfl) (zaf rfl rfl (zaa rfl) (zax rfl rfl rfl (IntWalk.i64_in _ xd)) (zaf rfl rfl (zaa rfl) (does_mul rfl rfl rfl (IntWalk.i64_in _ xd)) (zaf rfl rfl (zaa rfl) (does_min rfl rfl rfl hmin) ?_)))))))))))))
   refine zac rfl (zad (zbl (zai (zab (zaf rfl rfl (zaa rfl) (zax rfl rfl rfl (IntWalk.i64_in _ xd)) (zac rfl (zad (zai ?_))))))))
   exact ⟨i + 1, by omega, by omega, zb8 [0, 1] xf ⟨⟨_, rfl, .rowE xb rfl⟩, ⟨_, rfl, .rowE xb rfl⟩, trivial⟩ ⟨.lo _ (zan fun _ => .s _), .lo _ (zan lo_Sh), .lo _ (.s _), .ptr 0 0 2 0 0 rfl, .ptr 1 1 4 0 0 rfl, .lo _ (.s _), .lo _ (.s _), .lo _ (zan lo_Sh), .lo _ (.s _), .lo _ (.s _), trivial⟩⟩
  have ei : i = l.length := by omega
  subst ei
  (refine zb9 ?_; repeat (first | refine zcr ?_ | refine zbt ?_ | refine zbk rfl ?_ | refine zbl ?_ | refine zai ?_ | refine zag ?_ | refine zar ?_ | refine zas ?_))
  refine zab (zac rfl (zac rfl ?_))
  refine za3 rfl rfl (zaa rfl) (zb0 rfl rfl rfl) (fun h54 => ?_) (fun h54 => ?_)
  all_goals refine zad (zai ?_)
  all_goals (first | refine za5 rfl ?_ | refine zau rfl ?_)
  all_goals (repeat (first | refine zag ?_ | refine zar ?_))
  ·
   rw [if_pos h54] at HI
   refine zab (zaf rfl rfl (zaa rfl) (za9 rfl ti28 tp28 rfl rfl) (zaf rfl rfl (zaa rfl) (za9 rfl ti32 tp32 rfl rfl) (zba rfl (zaa rfl) (zaj rfl ti28 rfl rfl rfl rfl rfl rfl xf xf) (zba rfl (zaa rfl) (zaj rfl ti32 rfl rfl rfl rfl rfl rfl xf xf) (zac rfl (zad (zai ?_)))))))
   (refine za7 ?_; repeat (first | refine zbc ?_ | refine zbe ?_))
   subst HI
   rw [eR3_zero]
   exact post_cct (.inr rfl) ta28 ti28 rfl rfl rfl rfl rfl ta32 ti32 rfl rfl rfl rfl rfl rfl (.agg _ _ rfl (zbd.cons .nil (zbd.cons (.refl _) zbd.nil)).2) (.agg _ _ rfl (zbd.cons (.refl _) (zbd.cons (.refl _) (zbd.cons .nil (zbd.cons .nil zbd.nil)))).2)
  rw [if_neg h54] at HI
  obtain ⟨c, hc⟩ := srcE_some hv xd
  have hsto := srcE_StO hv
  have hT := K1.try_call (P := P) d l hv (l.length + 1) [] .emp 0 (none, 0) xo CN.nil (Int.le_refl _) xo ⟨fun b hb => (by cases hb), by show (0 : Int) ≤ 0; decide, by show (0 : Int) ≤ 240000; decide⟩ (fun h => by cases h) (.inl ⟨rfl, rfl⟩)
  have hT2 : CallE P 19 [.ptr 0 4 0 0, .emp, eI 0] [.row 4 [srA d l (none, 0)]] (.tup []) [.row 4 [srA d l (srcE d l)]] := hT
  clear hT
  have hT3 := hT2.frame1 [.row 2 [.agg [.s (.slice none 0 0), eI 0]], .row 4 [zBrA]] (noMp1 _ rfl) trivial trivial (zah (.ptr _ _ _ _ xf) (zah .emp (zah (.s _) zak))) (by intro c hc; simp only [List.mem_singleton] at hc; subst hc; exact lo_srA _ _ _)
  clear hT2
  have hbx := first_box hv
  have hP := K1.prove_call (P := P) d l (srcE d l).2 hv ⟨hsto.2.1, by have := hsto.2.2; omega⟩ (boxM (zcv l.length) (zcs l) l.length + 1) 20000 (zcv l.length) (zcs l) (Nat.lt_succ_self _) hbx xf xf
  have hP2 : CallE P 20 [.ptr 0 4 0 0, eBx (zcv l.length) (zcs l)] [.row 4 [pvA d l (srcE d l).2 20000]] (.tup [eBr (bstT d l).1, eB (bstT d l).2.1]) [.row 4 [pvA d l (srcE d l).2 (bstT d l).2.2]] := hP
  clear hP
  generalize bstT d l = T at HI hP2
  generalize srcE d l = s at HI hP2 hT3 hc hsto
  obtain ⟨b, cost⟩ := s
  dsimp only at hc
  subst hc
  obtain ⟨⟨s1, t1, L1, y1⟩, ok, n1⟩ := T
  have hck := check_pf (P := P) d l ⟨c, cost⟩ (.mk s1 t1 L1 y1)
  dsimp only [Option.getD] at HI
  rw [zdk] at hP2 hck
  replace hP2 := pv_frame hP2 [.row 2 [.agg [.s (.slice none 0 0), eI 0]], .row 4 [zBrA]] (noMp1 _ rfl)
  have hfi := first_pf (P := P) l q3
  have hpl : Lo 0 (.ref (ePl ⟨c, cost⟩).cells) := .ref _ (lo_Pl _).cells
  refine zab (zac rfl (zac rfl (zaf rfl rfl (zaa rfl) (za9 rfl ti52 tp52 rfl rfl) (zaf rfl rfl (zaa rfl) (zb3 rfl rfl rfl rfl) (zac rfl (zad (zag ?_)))))))
  refine zbg (F' := [(0, eL eI d), (1, eL eSh l), (6, .ptr 1 2 0 0), (7, .ptr 2 4 0 0), (12, .ptr 0 4 0 0)]) (σ' := [.row 4 [srA d l (none, 0)], .row 2 [.agg [.s (.slice none 0 0), eI 0]], .row 4 [zBrA]]) (zb8 [2, 0, 1] xf ⟨⟨_, rfl, sr_ren (d := d) (l := l) (s := (none, 0))⟩, ⟨_, rfl, .rowE xb rfl⟩, ⟨_, rfl, .rowE xb rfl⟩, trivial⟩ ⟨.lo _ (zan fun _ => .s _), .lo _ (zan lo_Sh), .ptr 0 1 2 0 0 rfl, .ptr 1 2 4 0 0 rfl, .ptr 2 0 4 0 0 rfl, trivial⟩) ?_
  refine zab (zac rfl (zaf rfl rfl (zaa rfl) (does_lit0 rfl rfl ts22 ti3) (zaf rfl rfl (zaa rfl) (zbs rfl rfl hT3 (zae rfl (zae rfl (zae rfl zap)))) (zad (zag ?_)))))
  refine zb2 hmix ?_
  refine zc1 ?_
  refine ex_s rfl (ex_s rfl (ex_f tf52_2 rfl (zbv rfl rfl (zaa rfl) (zbr rfl ta22 rfl rfl rfl rfl rfl) (ex_s rfl (ex_s rfl (ex_f tf52_3 rfl (zbv rfl rfl (zaa rfl) (zbr rfl ta3 rfl rfl rfl rfl rfl) (zay rfl rfl (zaa rfl) (fun _ => (za9 rfl ti28 tp28 rfl rfl)) ?_))))))))
  refine zc9 rfl rfl (zaa rfl) (za1 rfl ti28 rfl rfl) (fun _ h => zdo h) ?_
  refine zci rfl (zaa rfl) (zaj rfl ti28 rfl rfl rfl rfl rfl rfl xf xf) (fun _ h => zbw h) ?_
  refine zcf xi ?_
  refine zag ?_
  refine zbg (zbm (id := 3) rfl) ?_
  refine zbg (zcb (d := 13) rfl rfl rfl) ?_
  refine zbg (F' := [(0, eL eI d), (1, eL eSh l), (6, .ptr 1 2 0 0), (7, .ptr 2 4 0 0), (12, .ptr 0 4 0 0), (13, .ref (ePl ⟨c, cost⟩).cells)]) (σ' := [.row 4 [srA d l (some c, cost)], .row 2 [.agg [.s (.slice none 0 0), eI 0]], .row 4 [zBrA]]) (zb8 [0, 1, 2] xf ⟨⟨_, rfl, sr_ren⟩, ⟨_, rfl, .rowE xb rfl⟩, ⟨_, rfl, .rowE xb rfl⟩, trivial⟩ ⟨.lo _ (zan fun _ => .s _), .lo _ (zan lo_Sh), .ptr 1 1 2 0 0 rfl, .ptr 2 2 4 0 0 rfl, .ptr 0 0 4 0 0 rfl, .lo _ hpl, trivial⟩) ?_
  refine zab (zac rfl (zac rfl (zac rfl (zac rfl (zbz tf52_3 rfl (zaf rfl rfl (zaa rfl) (zaq rfl ta3 rfl rfl rfl rfl rfl) (zaf rfl rfl (zaa rfl) (za9 rfl ti56 tp56 rfl rfl) (zaf rfl rfl (zaa rfl) (zb3 rfl rfl rfl rfl) (zac rfl (zad (zag ?_)))))))))))
  refine zbg (F' := [(0, eL eI d), (1, eL eSh l), (6, .ptr 1 2 0 0), (7, .ptr 2 4 0 0), (14, .ptr 0 4 0 0), (13, .ref (ePl ⟨c, cost⟩).cells)]) (σ' := [.row 4 [pvA d l cost 20000], .row 2 [.agg [.s (.slice none 0 0), eI 0]], .row 4 [zBrA]]) (zb8 [3, 1, 2] xf ⟨⟨_, rfl, zdt (d := d) (l := l) (a := cost) (b := 20000)⟩, ⟨_, rfl, .rowE xb rfl⟩, ⟨_, rfl, .rowE xb rfl⟩, trivial⟩ ⟨.lo _ (zan fun _ => .s _), .lo _ (zan lo_Sh), .ptr 1 1 2 0 0 rfl, .ptr 2 2 4 0 0 rfl, .ptr 3 0 4 0 0 rfl, .lo _ hpl, trivial⟩) ?_
  have hbr : ∀ s t L y, Lo 0 (.ref [eI s, eI t, eL eBr L, eL eF y]) := fun s t L y => by have := lo_Br (.mk s t L y); rw [zdk] at this; exact .ref _ this.cells
  refine zab (zac rfl (zac rfl (zaf rfl rfl (zaa rfl) (zam rfl rfl (hfi) (zae rfl zap)) (zaf rfl rfl (zaa rfl) (zbs rfl rfl hP2 (zae rfl (zae rfl zap))) (zac rfl (zac rfl (zac rfl (zaf rfl rfl (zaa rfl) (za1 rfl ti32 rfl rfl) (zba rfl (zaa rfl) (zaj rfl ti32 rfl rfl rfl rfl rfl rfl xf xf) (zac rfl (zad (zag (zag ?_)))))))))))))
  refine zbg (zbm (id := 3) rfl) ?_
  refine zbg (zcb (d := 15) rfl rfl rfl) ?_
  refine zbg (F' := [(0, eL eI d), (1, eL eSh l), (6, .ptr 0 2 0 0), (7, .ptr 1 4 0 0), (13, .ref (ePl ⟨c, cost⟩).cells), (15, .ref [eI s1, eI t1, eL eBr L1, eL eF y1]), (16, eB ok)]) (σ' := [.row 2 [.agg [.s (.slice none 0 0), eI 0]], .row 4 [zBrA]]) (zb8 [1, 2] xf ⟨⟨_, rfl, .rowE xb rfl⟩, ⟨_, rfl, .rowE xb rfl⟩, trivial⟩ ⟨.lo _ (zan fun _ => .s _), .lo _ (zan lo_Sh), .ptr 1 0 2 0 0 rfl, .ptr 2 1 4 0 0 rfl, .lo _ hpl, .lo _ (hbr _ _ _ _), .lo _ (.s _), trivial⟩) ?_
  cases ok with
  | false =>
   rw [if_neg xo] at HI
   refine zab (zac rfl (zaf rfl rfl (zaa rfl) (zbj rfl rfl) (zac rfl (za4 rfl (za4 rfl (za4 rfl (za4 rfl (za4 rfl (za4 rfl (zac rfl (zad (zai (za5 rfl (zag (zab (zaf rfl rfl (zaa rfl) (za9 rfl ti28 tp28 rfl rfl) (zaf rfl rfl (zaa rfl) (za9 rfl ti32 tp32 rfl rfl) (zba rfl (zaa rfl) (zaj rfl ti28 rfl rfl rfl rfl rfl rfl xf xf) (zba rfl (zaa rfl) (zaj rfl ti32 rfl rfl rfl rfl rfl rfl xf xf) (zac rfl (zad (zai ?_))))))))))))))))))))))
   (refine za7 ?_; repeat (first | refine zbc ?_ | refine zbe ?_))
   subst HI
   rw [eR3_zero]
   exact post_cct (.inr rfl) ta28 ti28 rfl rfl rfl rfl rfl ta32 ti32 rfl rfl rfl rfl rfl rfl (.agg _ _ rfl (zbd.cons .nil (zbd.cons (.refl _) zbd.nil)).2) (.agg _ _ rfl (zbd.cons (.refl _) (zbd.cons (.refl _) (zbd.cons .nil (zbd.cons .nil zbd.nil)))).2)
  | true =>
   cases hz : chkE d l ⟨c, cost⟩ (.mk s1 t1 L1 y1) with
   | false =>
    rw [hz] at hck
    rw [if_neg (by rw [hz]; simp)] at HI
    refine zab (zac rfl (zaf rfl rfl (zaa rfl) (zbj rfl rfl) (zac rfl (zac rfl (zac rfl (zcx ta28 ti28 rfl (zcx ta32 ti32 rfl (zaf rfl rfl (zat rfl rfl rfl) (zam rfl rfl (hck) (zae rfl (zae rfl (zae rfl (zae rfl zap))))) (zaf rfl rfl (zat rfl rfl rfl) (zbj rfl rfl) (zac rfl (zad (zai (za5 rfl (zag (zab (zaf rfl rfl (zaa rfl) (za9 rfl ti28 tp28 rfl rfl) (zaf rfl rfl (zaa rfl) (za9 rfl ti32 tp32 rfl rfl) (zba rfl (zaa rfl) (zaj rfl ti28 rfl rfl rfl rfl rfl rfl xf xf) ?_))))))))))))))))))
    refine zba rfl (zaa rfl) (zaj rfl ti32 rfl rfl rfl rfl rfl rfl xf xf) (zac rfl (zad (zai ?_)))
    (refine za7 ?_; repeat (first | refine zbc ?_ | refine zbe ?_))
    subst HI
    rw [eR3_zero]
    exact post_cct (.inr rfl) ta28 ti28 rfl rfl rfl rfl rfl ta32 ti32 rfl rfl rfl rfl rfl rfl (.agg _ _ rfl (zbd.cons .nil (zbd.cons (.refl _) zbd.nil)).2) (.agg _ _ rfl (zbd.cons (.refl _) (zbd.cons (.refl _) (zbd.cons .nil (zbd.cons .nil zbd.nil)))).2)
   | true =>
    rw [hz] at hck
    rw [if_pos ⟨rfl, hz⟩] at HI
    refine zab (zac rfl (zaf rfl rfl (zaa rfl) (zbj rfl rfl) (zac rfl (zac rfl (zac rfl (zcx ta28 ti28 rfl (zcx ta32 ti32 rfl (zaf rfl rfl (zat rfl rfl rfl) (zam rfl rfl (hck) (zae rfl (zae rfl (zae rfl (zae rfl zap))))) (zaf rfl rfl (zat rfl rfl rfl) (zbj rfl rfl) (zac rfl (zad (zai (zau rfl (zar (zag ?_)))))))))))))))
    refine zb2 hmix ?_
    refine zc1 ?_
    refine ex_w ta28 ti28 rfl (ex_w ta32 ti32 rfl ?_)
    refine zci rfl (zaa rfl) (zaj rfl ti28 rfl rfl rfl rfl rfl rfl xf xf) (fun _ h => zbw h) ?_
    refine zci rfl (zaa rfl) (zaj rfl ti32 rfl rfl rfl rfl rfl rfl xf xf) (fun _ h => zbw h) ?_
    refine ex_s rfl ?_
    refine zcf xi ?_
    refine zai ?_
    (refine za7 ?_; repeat (first | refine zbc ?_ | refine zbe ?_))
    subst HI
    have e3 : eR3 (⟨c, cost⟩, .mk s1 t1 L1 y1, 0) = .tup [.agg [eL eI c, eI cost], .agg [eI s1, eI t1, eL eBr L1, eL eF y1], eI 0] := by unfold eR3; rw [zdk]; rfl
    rw [e3]
    exact post_cct (.inr rfl) ta28 ti28 rfl rfl rfl rfl rfl ta32 ti32 rfl rfl rfl rfl rfl rfl (.refl _) (.refl _)
end Go.Proofs.YtllkbjcemecmjaaGreat.Aw
end
section
namespace Go.Proofs.YtllkbjcemecmjaaGreat.Aw
open Go.RowKit Go.Proofs
variable {P : Program} [IsP P]
theorem subE_f {a b : Fr} (h : ¬ (a.okB = true ∧ b.okB = true)) : subE a b = ⟨0, 0, 1⟩ := by
 unfold subE
 rw [if_neg (fun g => h (by simpa using g))]; rfl
theorem subE_t {a b : Fr} (h1 : a.okB = true) (h2 : b.okB = true) : addE a (fneg b) = subE a b := by
 unfold subE addE
 rw [h1, h2, Fr.okB_of (fneg_ok ((Fr.okB_iff b).1 h2))]; rfl
theorem rSub_pf (a b : Fr) : Pure P 57 [eF a, eF b] (eFE (subE a b)) := by
 have hf := @subE_f a b
 have ht := @subE_t a b
 have hA := rAdd_pf (P := P) a (fneg b)
 have hbb : b.okB = true → -1073741824 ≤ b.n ∧ b.n ≤ 1073741824 := fun h => ⟨((Fr.okB_iff b).1 h).1, ((Fr.okB_iff b).1 h).2.1⟩
 generalize subE a b = R at hf ht ⊢
 generalize addE a (fneg b) = x at hA ht
 have hN := fun h => rNeg_pf (P := P) b (hbb h)
 have hva := rValid_pf (P := P) a
 have hvb := rValid_pf (P := P) b
 generalize a.okB = za at hf ht hva
 generalize b.okB = zb at hf ht hN hvb
 refine zcl (by rw [IsP.eq (P := P)]; exact Tryz.func57) rfl rfl rfl rfl rfl xa xc (by simp only [argF]; rfl) ?_
 refine zag (zab (zaf rfl rfl (zaa rfl) (zb3 rfl rfl rfl rfl) ?_))
 refine za6 (zbm (id := 0) rfl) (za6 (zcb (d := 2) rfl rfl rfl) ?_)
 refine zaf rfl rfl (zaa rfl) (zb3 rfl rfl rfl rfl) ?_
 refine za6 (zbm (id := 1) rfl) (za6 (zcb (d := 3) rfl rfl rfl) ?_)
 refine zaf rfl rfl (zaa rfl) (za1 rfl ti45 rfl rfl) (zac rfl (zad (zag (zag (zab (zcx ta45 ti45 rfl ?_))))))
 refine zcn rfl rfl (zaa rfl) (zam rfl rfl (hva) (zae rfl zap)) (fun h7 => ?_) (fun h7 => ?_)
 all_goals refine zaf rfl rfl (zaa rfl) (zbj rfl rfl) (zac rfl ?_)
 all_goals (first | refine zcx ta45 ti45 rfl ?_ | refine za4 rfl ?_)
 all_goals (first | refine zcn rfl rfl (zat rfl rfl rfl) (zam rfl rfl (hvb) (zae rfl zap)) (fun h11 => ?_) (fun h11 => ?_) | refine za4 rfl ?_)
 all_goals (first | refine zaf rfl rfl (zat rfl rfl rfl) (zbj rfl rfl) ?_ | refine za4 rfl ?_)
 all_goals refine zac rfl (zad (zai ?_))
 all_goals (first | refine za5 rfl ?_ | refine zau rfl ?_)
 all_goals (repeat (first | refine zag ?_ | refine zar ?_))
 rotate_left 2
 all_goals first
  |
   all_goals refine zb2 hmix ?_
   refine zc1 ?_
   refine ex_w ta45 ti45 rfl (ex_w ta45 ti45 rfl (zay rfl rfl (zaa rfl) (fun _ => (zam rfl rfl ((hN h11)) (zae rfl zap))) (zay rfl rfl (zaa rfl) (fun _ => (zam rfl rfl (hA) (zae rfl (zae rfl zap)))) (ex_s rfl (ex_s rfl ?_)))))
   refine zci rfl (zaa rfl) (zaj rfl ti45 rfl rfl rfl rfl rfl rfl xf xf) (fun _ h => zbw h) ?_
   refine ex_s rfl ?_
   refine zcf xi ?_
   refine zai ?_
   (refine za7 ?_; repeat (first | refine zbc ?_ | refine zbe ?_))
   exact zdf (.inr rfl) ta45 ti45 rfl rfl rfl rfl rfl rfl (by rw [← ht h7 h11]; rfl)
  | skip
 all_goals
   refine zab (zaf rfl rfl (zaa rfl) (za9 rfl ti45 tp45 rfl rfl) (zba rfl (zaa rfl) (zaj rfl ti45 rfl rfl rfl rfl rfl rfl xf xf) (zac rfl (zad (zai ?_)))))
   (refine za7 ?_; repeat (first | refine zbc ?_ | refine zbe ?_))
   exact zdf (.inr rfl) ta45 ti45 rfl rfl rfl rfl rfl rfl (by rw [hf (by rintro ⟨g1, g2⟩; first | exact Bool.noConfusion (g1.symm.trans h7) | exact Bool.noConfusion (g2.symm.trans h11))]; rfl)
theorem with_pf (l : List Int) (k : Nat) (n : Int) (hk : k < l.length) (hl : l.length ≤ 12) : Pure P 43 [eL eI l, eI k, eI n] (eL eI (setI l k n)) := by
 have hlm : (l.map eI).length = l.length := by simp
 have hs : (l.map eI).set k (eI n) = (setI l k n).map eI := by simp [setI, List.map_set]
 refine zcl (by rw [IsP.eq (P := P)]; exact Tryz.func43) rfl rfl rfl rfl rfl xa (zan fun _ => .s _) (by simp only [argF]; rfl) ?_
 refine zag ?_
 refine zda (d := 0) rfl (fun hm1 => ?_)
 unfold maxLen at hm1
 refine zab (zac rfl (zad (zag (zab (zaf rfl rfl (zaa rfl) (does_lit0 rfl rfl ts22 ti3) (zac rfl ?_))))))
 refine zaf rfl rfl (zaa rfl) (does_append0 rfl ts22 ti3 rfl xf rfl (.inl rfl) rfl xe xg xg) ?_
 refine zac rfl (zad (zag (zab (zac rfl (zac rfl (zac rfl (zaf rfl rfl (zaa rfl) (za0 rfl ts22 ti3 rfl rfl rfl xd) (zba rfl (zaa rfl) (zaj rfl ti3 rfl rfl rfl (zbb hk) rfl rfl xf xf) (zad (zag (zab (zac rfl (zac rfl (zad (zai ?_)))))))))))))))
 (refine za7 ?_; repeat (first | refine zbc ?_ | refine zbe ?_))
 refine post1f (.inr rfl) rfl ?_
 unfold eL
 rw [← hs]
 exact .own _ _ _ _ _ rfl rfl xo
theorem prcP_c (l : List Sft) (c : List Int) (k : Nat) : prcP l c (k + 1) = prcP l c k + gti c k * (gti l k).cost := by rw [Int.mul_comm]; rfl
set_option maxHeartbeats 1000000 in
theorem rCost_pf (d : List Int) (l : List Sft) (c : List Int) (hv : zce d l = true) (hc : okC l c) : Pure P 23 [eL eSh l, eL eI c] (eI (prcP l c l.length)) := by
 obtain ⟨⟨q1, q2, q3⟩, qd, ql⟩ := zb4 hv
 have hcl := hc.1
 refine zcl (by rw [IsP.eq (P := P)]; exact Tryz.func23) rfl rfl rfl rfl rfl xa (.s _) (by simp only [argF]; rfl) ?_
 refine zag (zab (zac rfl (zad (zag (zab (zac rfl (zad (zag (zag (zab (zac rfl (zad (zai (zas ?_))))))))))))))
 refine zb1 (S := Nat) (fun k => [(0, eL eSh l), (1, eL eI c), (6, eI k), (5, eI (prcP l c k))]) (fun _ => []) (fun k => k ≤ l.length) (fun k => l.length - k) 0 (zb8 [] xf trivial ⟨.lo _ xa, .lo _ (zan fun _ => .s _), .lo _ (.s _), .lo _ (.s _), trivial⟩) (Nat.zero_le _) (fun k hk => ?_)
 refine zag (zag ?_)
 have hbd := prcP_bd hv hc k hk
 refine zab (zac rfl (zac rfl (zaf rfl rfl (zaa rfl) (zao rfl ts23 rfl) ?_)))
 refine za3 rfl rfl (zaa rfl) (za2 rfl rfl rfl) (fun h10 => ?_) (fun h10 => ?_)
 all_goals refine zad (zai ?_)
 all_goals (first | refine za5 rfl ?_ | refine zau rfl ?_)
 all_goals (repeat (first | refine zag ?_ | refine zar ?_ | refine zas ?_))
 ·
  have hlt : k < l.length := by omega
  have hlt2 : k < c.length := by omega
  have hb1 := (ql k hlt).1
  have hb2 := hc.2.2 k hlt
  have hb := mul_bd hb1.2.1 hb1.2.2.1 hb2.1 hb2.2
  rw [Int.mul_comm] at hb
  have hnx := prcP_c l c k
  refine zb2 hmix ?_
  refine zbx xi ?_
  refine qx_s rfl (qx_s rfl (qx_s rfl (zby rfl rfl (zaa rfl) (zal rfl ts22 ti3 rfl rfl rfl (zbb xd) rfl) (qx_l ta3 rfl (qx_s rfl (qx_s rfl (zby rfl rfl (zaa rfl) (zal rfl ts23 ti43 rfl rfl rfl (zbb xd) rfl) (qx_f tf43_1 rfl (qx_l ta3 rfl (zby rfl rfl (zaa rfl) (does_mul rfl rfl rfl (IntWalk.i64_in _ xd)) (zby rfl rfl (zaa rfl) (zax rfl rfl rfl (IntWalk.i64_in _ xd)) (qx_s rfl ?_))))))))))))
  refine zdg ?_
  refine zbl (zai (zab (zac rfl (zaf rfl rfl (zaa rfl) (zax rfl rfl rfl (IntWalk.i64_in _ xd)) (zac rfl (zad (zai ?_)))))))
  rw [← hnx]
  exact ⟨k + 1, by omega, by omega, zb8 [] xf trivial ⟨.lo _ xa, .lo _ (zan fun _ => .s _), .lo _ (.s _), .lo _ (.s _), trivial⟩⟩
 ·
  have e : k = l.length := by omega
  subst e
  (refine zb9 ?_; repeat (first | refine zcr ?_ | refine zbt ?_ | refine zbk rfl ?_ | refine zbl ?_ | refine zai ?_ | refine zag ?_ | refine zar ?_ | refine zas ?_))
  refine zab (zac rfl (zac rfl (zad (zai ?_))))
  (refine za7 ?_; repeat (first | refine zbc ?_ | refine zbe ?_))
  exact zb6 (.inr rfl) rfl rfl
theorem mulB_f1 {d : List Int} {y : List Fr} (h : ¬ (y.length = d.length ∧ y.all Fr.okB = true)) : mulB d y = false := by
 cases hm : mulB d y with
 | false => rfl
 | true =>
  refine absurd ⟨?_, ?_⟩ h
  ·
   unfold mulB at hm; simp only [Bool.and_eq_true, decide_eq_true_eq] at hm; exact hm.1
  ·
   unfold mulB at hm
   simp only [Bool.and_eq_true, decide_eq_true_eq, Bool.not_eq_true'] at hm
   refine List.all_eq_true.2 fun a ha => ?_
   have := List.any_eq_false.1 hm.2 a ha
   unfold badM at this
   simp only [Bool.or_eq_true, Bool.not_eq_true', decide_eq_true_eq, not_or] at this
   simpa using this.1
theorem mulB_f2 {d : List Int} {y : List Fr} {k : Nat} (hk : k < y.length) (h : (gti y k).n < 0) : mulB d y = false := by
 have : y.any badM = true := List.any_eq_true.2 ⟨gti y k, zds hk, by unfold badM; rw [decide_eq_true h, Bool.or_true]⟩
 unfold mulB
 rw [this, Bool.not_true, Bool.and_false]
theorem mulB_t {d : List Int} {y : List Fr} (h1 : y.length = d.length) (h2 : y.all Fr.okB = true) (h3 : ∀ j, j < y.length → 0 ≤ (gti y j).n) : mulB d y = true := by
 have : y.any badM = false := List.any_eq_false.2 fun a ha => by
  obtain ⟨i, hi, e⟩ := List.getElem_of_mem ha
  have e2 : gti y i = a := by
   have := zdh hi
   rw [List.getElem?_eq_getElem hi] at this
   rw [← Option.some.inj this, e]
  have h4 := List.all_eq_true.1 h2 a ha
  have h5 := h3 i hi
  rw [e2] at h5
  unfold badM
  rw [h4, decide_eq_false xd]; simp
 unfold mulB
 rw [this, decide_eq_true h1]; rfl
set_option maxHeartbeats 1000000 in
theorem multipliers_pf (d : List Int) (y : List Fr) : Pure P 39 [eL eI d, eL eF y] (eB (mulB d y)) := by
 have f1 := @mulB_f1 d y
 have f2 := @mulB_f2 d y
 have f3 := @mulB_t d y
 have hva := rValidAll_pf (P := P) y
 generalize mulB d y = R at f1 f2 f3 ⊢
 generalize y.all Fr.okB = z at hva f1 f3
 refine zcl (by rw [IsP.eq (P := P)]; exact Tryz.func39) rfl rfl rfl rfl rfl xa (.s _) (by simp only [argF]; rfl) ?_
 refine zag ?_
 refine zda (d := 0) rfl (fun hm1 => ?_)
 refine zda (d := 1) rfl (fun hm2 => ?_)
 unfold maxLen at hm1 hm2
 refine zab (zac rfl (zad (zag (zag (zab (zac rfl (zaf rfl rfl (zaa rfl) (zao rfl ts30 rfl) (zac rfl (zaf rfl rfl (zaa rfl) (zao rfl ts22 rfl) ?_)))))))))
 refine za3 rfl rfl (zaa rfl) (zbp rfl rfl rfl) (fun h10 => ?_) (fun h10 => ?_)
 all_goals refine zac rfl ?_
 all_goals (first | refine zac rfl ?_ | refine za4 rfl ?_)
 all_goals (first | refine zcn rfl rfl (zat rfl rfl rfl) (zam rfl rfl (hva) (zae rfl zap)) (fun h13 => ?_) (fun h13 => ?_) | refine za4 rfl ?_)
 all_goals (first | refine zaf rfl rfl (zat rfl rfl rfl) (zbj rfl rfl) ?_ | refine za4 rfl ?_)
 all_goals refine zac rfl (zad (zai ?_))
 all_goals (first | refine za5 rfl ?_ | refine zau rfl ?_)
 all_goals (repeat (first | refine zag ?_ | refine zar ?_))
 all_goals first
  |
   refine zab (zac rfl (zad ?_))
   repeat (first | refine zai ?_ | refine zas ?_)
   (refine za7 ?_; repeat (first | refine zbc ?_ | refine zbe ?_))
   exact zb6 (.inr rfl) rfl (congrArg eB (f1 (by rintro ⟨g1, g2⟩; first | exact Bool.noConfusion (g2.symm.trans h13) | omega)).symm)
  | skip
 refine zab (zac rfl (zad (zai (zas ?_))))
 refine zb1 (S := Nat) (fun k => [(1, eL eF y), (5, eI k)]) (fun _ => []) (fun k => k ≤ y.length ∧ ∀ j, j < k → 0 ≤ (gti y j).n) (fun k => y.length - k) 0 (zb8 [] xf trivial ⟨.lo _ xa, .lo _ (.s _), trivial⟩) ⟨by omega, fun j hj => by omega⟩ (fun k hk => ?_)
 obtain ⟨hk, hall⟩ := hk
 refine zag (zag (zab (zac rfl (zac rfl (zaf rfl rfl (zaa rfl) (zao rfl ts30 rfl) ?_)))))
 refine za3 rfl rfl (zaa rfl) (za2 rfl rfl rfl) (fun h19 => ?_) (fun h19 => ?_)
 all_goals refine zad (zai ?_)
 all_goals (first | refine za5 rfl ?_ | refine zau rfl ?_)
 all_goals (repeat (first | refine zag ?_ | refine zar ?_ | refine zas ?_))
 ·
  have hlt : k < y.length := by omega
  refine zab (zac rfl (zac rfl (zaf rfl rfl (zaa rfl) (zal rfl ts30 ti45 rfl rfl rfl (zbb xd) rfl) (zbz tf45_0 rfl (zbu ta3 rfl ?_)))))
  refine za3 rfl rfl (zaa rfl) (za2 rfl rfl rfl) (fun h27 => ?_) (fun h27 => ?_)
  all_goals refine zad (zai ?_)
  all_goals (first | refine za5 rfl ?_ | refine zau rfl ?_)
  all_goals (repeat (first | refine zag ?_ | refine zai ?_ | refine zar ?_ | refine zbl ?_))
  ·
   refine zab (zac rfl (zad (zai ?_)))
   (refine za7 ?_; repeat (first | refine zbc ?_ | refine zbe ?_))
   exact zb6 (.inr rfl) rfl (congrArg eB (f2 hlt xd).symm)
  ·
   refine zab (zac rfl (zaf rfl rfl (zaa rfl) (zax rfl rfl rfl (IntWalk.i64_in _ xd)) (zac rfl (zad (zai ?_)))))
   refine ⟨k + 1, ⟨by omega, fun i hi => ?_⟩, by omega, zb8 [] xf trivial ⟨.lo _ xa, .lo _ (.s _), trivial⟩⟩
   by_cases e : i = k
   ·
    subst e; omega
   ·
    exact hall i xd
 ·
  (refine zb9 ?_; repeat (first | refine zcr ?_ | refine zbt ?_ | refine zbk rfl ?_ | refine zbl ?_ | refine zai ?_ | refine zag ?_ | refine zar ?_ | refine zas ?_))
  refine zab (zac rfl (zad (zai ?_)))
  (refine za7 ?_; repeat (first | refine zbc ?_ | refine zbe ?_))
  exact zb6 (.inr rfl) rfl (congrArg eB (f3 xd h13 (fun j hj => hall j xd)).symm)
end Go.Proofs.YtllkbjcemecmjaaGreat.Aw
end
section
namespace Go.Proofs.YtllkbjcemecmjaaGreat.Aw
open Go Go.RowKit Go.Proofs
variable {P : Program} [IsP P]
def bsA (st : Option (List Int) × Int) : AV := .agg [bstA st.1, eI st.2]
theorem lo_bsA (st : Option (List Int) × Int) : ∀ e ∈ [bsA st], ∀ c ∈ e.cells, Lo 0 c := zaw (.agg _ (zah (lo_bst _) (zah (.s _) zak))) zaz
def zPl : AV := .agg [.s (.slice none 0 0), eI 0]
def plO (st : Option (List Int) × Int) : Pln := ⟨st.1.getD [], st.2⟩
theorem eI_lo (l : List Int) : ∀ e ∈ l.map eI, ∀ c ∈ e.cells, Lo 0 c := zav fun _ c hc => by simp [eI, AV.cells] at hc; subst hc; exact .s _
theorem upd_cases (d : List Int) (l : List Sft) (st : Option (List Int) × Int) (c : List Int) : upd d l st c = if shE d l c < 0 ∧ (st.1 = none ∨ prcP l c l.length < st.2) then (some c, prcP l c l.length) else st := rfl
set_option maxHeartbeats 16000000 in
theorem rBest_pf (d : List Int) (l : List Sft) (hv : zce d l = true) : Pure P 10 [eL eI d, eL eSh l] (.tup [ePl (plO (srcE d l)), eB (srcE d l).1.isSome]) := by
 obtain ⟨⟨q1, q2, q3⟩, qd, ql⟩ := zb4 hv
 have hm0 : ∀ k, k < l.length → 0 ≤ (gti l k).most := fun k hk => by have := (ql k hk).1; omega
 have hfin := srcE_fold hv
 generalize srcE d l = R at hfin ⊢
 have hsh := fun c (hc : okC l c) => rShort_pf (P := P) d l c q2 hc
 have hco := fun c (hc : okC l c) => rCost_pf (P := P) d l c hv hc
 have hok : ∀ c, c ∈ allC l → okC l c := fun c hc => by
  obtain ⟨g1, g2⟩ := (mem_allC l c).1 hc
  exact ⟨g1, q3, fun k hk => by have := g2 k hk; have := (ql k hk).1; omega⟩
 have hz : zcv l.length ∈ allC l := by rw [allC_first l hm0]; simp
 refine zcl (by rw [IsP.eq (P := P)]; exact Tryz.func10) rfl rfl rfl rfl rfl (zah (zan fun _ => .s _) (zah (zan lo_Sh) zak)) (.tup _ (zah (lo_Pl _) (zah (.s _) zak))) (by simp only [argF]; rfl) ?_
 refine zag (zab (zaf rfl rfl (zaa rfl) (za1 rfl ti28 rfl rfl) (zac rfl (zad (zag (zab (zaf rfl rfl (zaa rfl) (za1 rfl ti28 rfl rfl) (zad (zag (zab (zac rfl (zad (zag (zab (zac rfl (zaf rfl rfl (zaa rfl) (zao rfl ts23 rfl) (zaf rfl rfl (zaa rfl) (does_make rfl ts22 ti3 rfl rfl xf rfl rfl rfl rfl xd xd xd) (zac rfl (zad (zai (zas ?_)))))))))))))))))))))
 refine zb1 (S := List Int × (Option (List Int) × Int)) (fun s => [(0, eL eI d), (1, eL eSh l), (4, .ptr 0 2 0 0), (6, .ptr 1 2 0 0), (7, eB s.2.1.isSome), (8, .own 2 1 s.1.length)]) (fun s => [.row 2 [zPl], .row 2 [bsA s.2], .row 1 (s.1.map eI)])
  (fun s => s.1 ∈ allC l ∧ (s.1 :: aftC l s.1).foldl (upd d l) s.2 = R) (fun s => (aftC l s.1).length) (zcv l.length, (none, 0))
  (zb8 [0, 1, 2] xf ⟨⟨_, rfl, .rowE xb rfl⟩, ⟨_, rfl, .rowE xb rfl⟩, ⟨_, rfl, .rowE (eI_lo _) (by unfold zcv; rw [List.map_replicate]; rfl)⟩, trivial⟩ ⟨.lo _ (zan fun _ => .s _), .lo _ (zan lo_Sh), .ptr 0 0 2 0 0 rfl, .ptr 1 1 2 0 0 rfl, .lo _ (.s _), .own 2 2 1 _ _ rfl (by simp [zcv]), trivial⟩) ⟨hz, by rw [hfin, ← allC_first l hm0]⟩ (fun s hs => ?_)
 obtain ⟨c, st⟩ := s
 obtain ⟨hc, hfo⟩ := hs
 dsimp only at hc hfo ⊢
 have hokc := hok c hc
 have hcl : c.length = l.length := hokc.1
 have hcb := ((mem_allC l c).1 hc).2
 have hs1 := hsh c hokc
 have hc1 := hco c hokc
 have hcb2 := prcP_bd hv hokc l.length (Nat.le_refl _)
 refine zas (zag (zag ?_))
 refine aw_join [(0, eL eI d), (1, eL eSh l), (4, .ptr 0 2 0 0), (6, .ptr 1 2 0 0), (7, eB (upd d l st c).1.isSome), (8, .own 2 1 c.length)] [.row 2 [zPl], .row 2 [bsA (upd d l st c)], .row 1 (c.map eI)] ?_ ?_
 ·
  by_cases h1 : shE d l c < 0
  ·
   have yes : (st.1 = none ∨ prcP l c l.length < st.2) → upd d l st c = (some c, prcP l c l.length) := fun h => by rw [upd_cases, if_pos ⟨h1, h⟩]
   by_cases h2 : st.1 = none
   ·
    obtain ⟨b, k⟩ := st
    dsimp only at h2
    subst h2
    rw [yes (.inl rfl)]
    refine zb2 hmix ?_
    refine zbx xi ?_
    refine qx_s rfl (qx_s rfl (qx_s rfl ?_))
    refine zby rfl rfl (zaa rfl) (does_callb rfl rfl (hs1) xq xm) ?_
    refine zby rfl rfl (zaa rfl) (zdc h1 (za2 rfl rfl rfl)) (qx_s rfl (qx_s rfl (zby rfl rfl (zat rfl rfl rfl) (zbj rfl rfl) (qx_s rfl (qx_z rfl (qx_z rfl (qx_z rfl (qx_z rfl (qx_z rfl (qx_z rfl (qx_s rfl (qx_s rfl ?_))))))))))))
    refine zdg ?_
    refine zai (za5 rfl (zag (zab (zaf rfl rfl (zaa rfl) (does_lit0 rfl rfl ts22 ti3) (zac rfl ?_)))))
    refine zaf rfl rfl (zaa rfl) (does_append0 rfl ts22 ti3 rfl xf rfl (.inl rfl) rfl xe xg xg) ?_
    refine za6 (zbm (id := 3) rfl) (za6 (wk_sl (d := 32) rfl rfl xk) ?_)
    refine zac rfl (zac rfl ?_)
    refine zaf rfl rfl (zaa rfl) (does_callb rfl rfl (hc1) xq xm) ?_
    refine zaf rfl rfl (zaa rfl) (za9 rfl ti28 tp28 rfl rfl) (zba rfl (zaa rfl) (zaj rfl ti28 rfl rfl rfl rfl rfl rfl xf xf) (zad (zai (zab (zac rfl (zad (zai ?_)))))))
    exact zb8 [0, 1, 2] xf ⟨⟨_, rfl, .rowE xb rfl⟩, ⟨_, rfl, .rowE (lo_bsA (some c, prcP l c l.length)) rfl⟩, ⟨_, rfl, .rowE (eI_lo _) rfl⟩, trivial⟩ ⟨.lo _ (zan fun _ => .s _), .lo _ (zan lo_Sh), .ptr 0 0 2 0 0 rfl, .ptr 1 1 2 0 0 rfl, .lo _ (.s _), .own 2 2 1 _ _ rfl rfl, trivial⟩
   ·
    obtain ⟨b, k⟩ := st
    obtain ⟨b', rfl⟩ : ∃ b', b = some b' := by cases b with | none => exact absurd rfl h2 | some x => exact ⟨x, rfl⟩
    by_cases h3 : prcP l c l.length < k
    ·
     rw [yes (.inr h3)]
     refine zb2 hmix ?_
     refine zbx xi ?_
     refine qx_s rfl (qx_s rfl (qx_s rfl ?_))
     refine zby rfl rfl (zaa rfl) (does_callb rfl rfl (hs1) xq xm) ?_
     refine zby rfl rfl (zaa rfl) (zdc h1 (za2 rfl rfl rfl)) (qx_s rfl (qx_s rfl (zby rfl rfl (zat rfl rfl rfl) (zbj rfl rfl) (qx_s rfl (qx_s rfl (qx_s rfl ?_))))))
     refine zby rfl rfl (zat rfl rfl rfl) (does_callb rfl rfl (hc1) xq xm) ?_
     refine qx_f tf28_1 rfl (zby rfl rfl (zat rfl rfl rfl) (zaq rfl ta3 rfl rfl rfl rfl rfl) (zby rfl rfl (zat rfl rfl rfl) (zdc h3 (za2 rfl rfl rfl)) (qx_s rfl (qx_s rfl ?_))))
     refine zdg ?_
     refine zai (za5 rfl (zag (zab (zaf rfl rfl (zaa rfl) (does_lit0 rfl rfl ts22 ti3) (zac rfl ?_)))))
     refine zaf rfl rfl (zaa rfl) (does_append0 rfl ts22 ti3 rfl xf rfl (.inl rfl) rfl xe xg xg) ?_
     refine za6 (zbm (id := 3) rfl) (za6 (wk_sl (d := 32) rfl rfl xk) ?_)
     refine zac rfl (zac rfl ?_)
     refine zaf rfl rfl (zaa rfl) (does_callb rfl rfl (hc1) xq xm) ?_
     refine zaf rfl rfl (zaa rfl) (za9 rfl ti28 tp28 rfl rfl) (zba rfl (zaa rfl) (zaj rfl ti28 rfl rfl rfl rfl rfl rfl xf xf) (zad (zai (zab (zac rfl (zad (zai ?_)))))))
     exact zb8 [0, 1, 2] xf ⟨⟨_, rfl, .rowE xb rfl⟩, ⟨_, rfl, .rowE (lo_bsA (some c, prcP l c l.length)) rfl⟩, ⟨_, rfl, .rowE (eI_lo _) rfl⟩, trivial⟩ ⟨.lo _ (zan fun _ => .s _), .lo _ (zan lo_Sh), .ptr 0 0 2 0 0 rfl, .ptr 1 1 2 0 0 rfl, .lo _ (.s _), .own 2 2 1 _ _ rfl rfl, trivial⟩
    ·
     have no : upd d l (some b', k) c = (some b', k) := by
      rw [upd_cases, if_neg]
      rintro ⟨_, h | h⟩
      ·
       cases h
      ·
       exact h3 h
     rw [no]
     refine zb2 hmix ?_
     refine zbx xi ?_
     refine qx_s rfl (qx_s rfl (qx_s rfl ?_))
     refine zby rfl rfl (zaa rfl) (does_callb rfl rfl (hs1) xq xm) ?_
     refine zby rfl rfl (zaa rfl) (zdc h1 (za2 rfl rfl rfl)) (qx_s rfl (qx_s rfl (zby rfl rfl (zat rfl rfl rfl) (zbj rfl rfl) (qx_s rfl (qx_s rfl (qx_s rfl ?_))))))
     refine zby rfl rfl (zat rfl rfl rfl) (does_callb rfl rfl (hc1) xq xm) ?_
     refine qx_f tf28_1 rfl (zby rfl rfl (zat rfl rfl rfl) (zaq rfl ta3 rfl rfl rfl rfl rfl) (zby rfl rfl (zat rfl rfl rfl) (dec_f h3 (za2 rfl rfl rfl)) (qx_s rfl (qx_s rfl ?_))))
     refine zdg ?_
     refine zai (zau rfl (zar (zai ?_)))
     exact zb8 [0, 1, 2] xf ⟨⟨_, rfl, .rowE xb rfl⟩, ⟨_, rfl, .rowE (lo_bsA (some b', k)) rfl⟩, ⟨_, rfl, .rowE (eI_lo _) rfl⟩, trivial⟩ ⟨.lo _ (zan fun _ => .s _), .lo _ (zan lo_Sh), .ptr 0 0 2 0 0 rfl, .ptr 1 1 2 0 0 rfl, .lo _ (.s _), .own 2 2 1 _ _ rfl rfl, trivial⟩
  ·
   have no : upd d l st c = st := by rw [upd_cases, if_neg (fun h => h1 h.1)]
   rw [no]
   refine zb2 hmix ?_
   refine zbx xi ?_
   refine qx_s rfl (qx_s rfl (qx_s rfl ?_))
   refine zby rfl rfl (zaa rfl) (does_callb rfl rfl (hs1) xq xm) ?_
   refine zby rfl rfl (zaa rfl) (dec_f h1 (za2 rfl rfl rfl)) (qx_s rfl (qx_z rfl (qx_z rfl (qx_z rfl (zdw rfl rfl (zbi rfl rfl rfl) (zdw rfl rfl (zbi rfl rfl rfl) (zdw rfl rfl (zbi rfl rfl rfl) (zdw rfl rfl (zbi rfl rfl rfl) (zdw rfl rfl (zbi rfl rfl rfl) (zdw rfl rfl (zbi rfl rfl rfl) (qx_z rfl (qx_s rfl ?_))))))))))))
   refine zdg ?_
   refine zai (zau rfl (zar (zai ?_)))
   exact zb8 [0, 1, 2] xf ⟨⟨_, rfl, .rowE xb rfl⟩, ⟨_, rfl, .rowE (lo_bsA st) rfl⟩, ⟨_, rfl, .rowE (eI_lo _) rfl⟩, trivial⟩ ⟨.lo _ (zan fun _ => .s _), .lo _ (zan lo_Sh), .ptr 0 0 2 0 0 rfl, .ptr 1 1 2 0 0 rfl, .lo _ (.s _), .own 2 2 1 _ _ rfl rfl, trivial⟩
 rw [List.foldl_cons] at hfo
 generalize upd d l st c = st' at hfo ⊢
 refine zag (zab (zac rfl (zaf rfl rfl (zaa rfl) (zao rfl ts23 rfl) (zaf rfl rfl (zaa rfl) (zdx rfl rfl rfl (IntWalk.i64_in _ xd)) (zac rfl (zad (zag (zas ?_))))))))
 have hlen : l.length ≤ l.length := Nat.le_refl _
 refine zb1 (S := Nat) (fun j => [(0, eL eI d), (1, eL eSh l), (4, .ptr 0 2 0 0), (6, .ptr 1 2 0 0), (7, eB st'.1.isSome), (8, .own 2 1 l.length), (9, eI ((j : Int) - 1))]) (fun j => [.row 2 [zPl], .row 2 [bsA st'], .row 1 ((zfrom l.length j c).map eI)])
  (fun j => j ≤ l.length ∧ ∀ m, j ≤ m → m < l.length → gti c m = (gti l m).most) (fun j => j) l.length
  (zb8 [0, 1, 2] xf ⟨⟨_, rfl, .rowE xb rfl⟩, ⟨_, rfl, .rowE (lo_bsA st') rfl⟩, ⟨_, rfl, .rowE (eI_lo _) (by rw [zfrom_all hcl])⟩, trivial⟩ ⟨.lo _ (zan fun _ => .s _), .lo _ (zan lo_Sh), .ptr 0 0 2 0 0 rfl, .ptr 1 1 2 0 0 rfl, .lo _ (.s _), .own 2 2 1 _ _ rfl (by simp [hcl]), .lo _ (.s _), trivial⟩) ⟨Nat.le_refl _, fun m h1 h2 => by omega⟩ (fun j hj => ?_)
 obtain ⟨hj1, hj2⟩ := hj
 have hzl := zfrom_len hcl hj1
 refine zag (zag ?_)
 rcases Nat.eq_zero_or_pos j with rfl | hjp
 ·
  have hlast : aftC l c = [] := aftC_last l c hcl (fun m hm => by rw [hj2 m (Nat.zero_le _) hm]; exact Int.le_refl _)
  rw [hlast] at hfo
  have hfo2 : st' = R := hfo
  subst hfo2
  refine zb2 hmix ?_
  refine zbx xi ?_
  refine qx_s rfl (zby rfl rfl (zaa rfl) (dec_f xd (zcp rfl rfl rfl)) (qx_s rfl (qx_z rfl (qx_z rfl (qx_z rfl (qx_z rfl (qx_z rfl (qx_z rfl (qx_z rfl (qx_z rfl (qx_z rfl (qx_z rfl (qx_s rfl ?_)))))))))))))
  refine zdg ?_
  refine zai (zau rfl ?_)
  (refine zb9 ?_; repeat (first | refine zcr ?_ | refine zbt ?_ | refine zbk rfl ?_ | refine zbl ?_ | refine zai ?_ | refine zag ?_ | refine zar ?_ | refine zas ?_))
  refine zab (zac rfl (zaf rfl rfl (zaa rfl) (zdc xd (za2 rfl rfl rfl)) (zad (zai (za5 rfl (zag ?_))))))
  obtain ⟨b, k⟩ := st'
  cases b with
  | none =>
   refine zab (zaf rfl rfl (zaa rfl) (za8 rfl ta28 ti28 rfl rfl rfl rfl rfl) (zac rfl (zba rfl (zaa rfl) (zaj rfl ti28 rfl rfl rfl rfl rfl rfl xf xf) (zac rfl (zad (zai ?_))))))
   (refine za7 ?_; repeat (first | refine zbc ?_ | refine zbe ?_))
   exact post_cs (N := 0) (.inr rfl) ta28 ti28 rfl rfl rfl rfl rfl rfl (.agg _ _ rfl (zbd.cons .nil (zbd.cons (.refl _) zbd.nil)).2) (.refl _)
  | some b =>
   refine zab (zaf rfl rfl (zaa rfl) (za8 rfl ta28 ti28 rfl rfl rfl rfl rfl) (zac rfl (zba rfl (zaa rfl) (zaj rfl ti28 rfl rfl rfl rfl rfl rfl xf xf) (zac rfl (zad (zai ?_))))))
   (refine za7 ?_; repeat (first | refine zbc ?_ | refine zbe ?_))
   exact post_cs (N := 0) (.inr rfl) ta28 ti28 rfl rfl rfl rfl rfl rfl (.refl _) (.refl _)
 obtain ⟨i, rfl⟩ : ∃ i, j = i + 1 := ⟨j - 1, by omega⟩
 have hil : i < l.length := by omega
 have hxc : ((zfrom l.length (i + 1) c).map eI)[i]? = some (eI (gti c i)) := by
  have := zbb (f := eI) (l := zfrom l.length (i + 1) c) (k := i) xd
  rw [this, zfrom_gti hcl (Nat.lt_succ_self _) hj1]
 have hxl : (l.map eSh)[i]? = some (eSh (gti l i)) := zbb hil
 have hki : ((i + 1 : Nat) : Int) - 1 = (i : Int) := by omega
 have hci := hcb i hil
 have hmi := (ql i hil).1
 rw [hki]
 by_cases he : gti c i = (gti l i).most
 ·
  refine zb2 hmix ?_
  refine zbx xi ?_
  refine qx_s rfl (zby rfl rfl (zaa rfl) (zdc xd (zcp rfl rfl rfl)) (qx_s rfl (qx_s rfl (qx_s rfl (zby rfl rfl (zat rfl rfl rfl) (za0 rfl ts22 ti3 rfl rfl rfl xd) (zby rfl rfl (zat rfl rfl rfl) (zaq rfl ta3 rfl rfl rfl hxc rfl) (qx_s rfl (qx_s rfl (zby rfl rfl (zat rfl rfl rfl) (zal rfl ts23 ti43 rfl rfl rfl hxl rfl) (qx_f tf43_2 rfl (qx_l ta3 rfl (zby rfl rfl (zat rfl rfl rfl) (zdc he (zbn rfl rfl rfl)) (qx_s rfl ?_)))))))))))))
  refine zdg ?_
  refine zai (za5 rfl (zar (zai (zas (zag (zab (zac rfl (zac rfl (zaf rfl rfl (zaa rfl) (za0 rfl ts22 ti3 rfl rfl rfl xd) (zba rfl (zaa rfl) (zaj rfl ti3 rfl rfl rfl hxc rfl rfl xf xf) (zad (zai (zab (zac rfl (zaf rfl rfl (zaa rfl) (zdx rfl rfl rfl (IntWalk.i64_in _ xd)) (zac rfl (zad (zbl (zai ?_)))))))))))))))))))
  exact ⟨i, ⟨by omega, fun m h1 h2 => by
   rcases Nat.eq_or_lt_of_le h1 with e | h1
   ·
    subst e; exact he
   ·
    exact hj2 m h1 h2⟩, Nat.lt_succ_self _, zb8 [0, 1, 2] xf ⟨⟨_, rfl, .rowE xj rfl⟩, ⟨_, rfl, .rowE (lo_bsA st') rfl⟩, ⟨_, rfl, .rowE (eI_lo _) (by rw [← zfrom_step hcl hj1, List.map_set]; rfl)⟩, trivial⟩ ⟨.lo _ (zan fun _ => .s _), .lo _ (zan lo_Sh), .ptr 0 0 2 0 0 rfl, .ptr 1 1 2 0 0 rfl, .lo _ (.s _), .own 2 2 1 _ _ rfl rfl, .lo _ (.s _), trivial⟩⟩
 ·
  have hlt : gti c i < (gti l i).most := by omega
  have hnx := aftC_next l c i hm0 hcl (fun m hm => (hcb m hm).1) hil hlt (fun m h1 h2 => by rw [hj2 m h1 h2]; exact Int.le_refl _)
  rw [hnx] at hfo
  refine zb2 hmix ?_
  refine zbx xi ?_
  refine qx_s rfl (zby rfl rfl (zaa rfl) (zdc xd (zcp rfl rfl rfl)) (qx_s rfl (qx_s rfl (qx_s rfl (zby rfl rfl (zat rfl rfl rfl) (za0 rfl ts22 ti3 rfl rfl rfl xd) (zby rfl rfl (zat rfl rfl rfl) (zaq rfl ta3 rfl rfl rfl hxc rfl) (qx_s rfl (qx_s rfl (zby rfl rfl (zat rfl rfl rfl) (zal rfl ts23 ti43 rfl rfl rfl hxl rfl) (qx_f tf43_2 rfl (qx_l ta3 rfl (zby rfl rfl (zat rfl rfl rfl) (dec_f he (zbn rfl rfl rfl)) (qx_s rfl ?_)))))))))))))
  refine zdg ?_
  refine zai (zau rfl ?_)
  (refine zb9 ?_; repeat (first | refine zcr ?_ | refine zbt ?_ | refine zbk rfl ?_ | refine zbl ?_ | refine zai ?_ | refine zag ?_ | refine zar ?_ | refine zas ?_))
  refine zab (zac rfl (zaf rfl rfl (zaa rfl) (dec_f xd (za2 rfl rfl rfl)) (zad (zai (zau rfl (zar (zai (zab (zac rfl (zac rfl (zaf rfl rfl (zaa rfl) (za0 rfl ts22 ti3 rfl rfl rfl xd) (zaf rfl rfl (zaa rfl) (zaq rfl ta3 rfl rfl rfl hxc rfl) (zaf rfl rfl (zaa rfl) (zax rfl rfl rfl (IntWalk.i64_in _ xd)) (zaf rfl rfl (zaa rfl) (za0 rfl ts22 ti3 rfl rfl rfl xd) (zba rfl (zaa rfl) (zaj rfl ti3 rfl rfl rfl hxc rfl rfl xf xf) ?_)))))))))))))))
  refine zad (zbl (zai ?_))
  refine ⟨(nxtC l.length i c, st'), ⟨nxtC_mem hm0 hc hil hlt, hfo⟩, ?_, zb8 [0, 1, 2] xf ⟨⟨_, rfl, .rowE xb rfl⟩, ⟨_, rfl, .rowE (lo_bsA st') rfl⟩, ⟨_, rfl, .rowE (eI_lo _) (by rw [← zfrom_next hcl hj1, List.map_set]; rfl)⟩, trivial⟩ ⟨.lo _ (zan fun _ => .s _), .lo _ (zan lo_Sh), .ptr 0 0 2 0 0 rfl, .ptr 1 1 2 0 0 rfl, .lo _ (.s _), .own 2 2 1 _ _ rfl (by simp [((mem_allC l _).1 (nxtC_mem hm0 hc hil hlt)).1]), trivial⟩⟩
  show (aftC l (nxtC l.length i c)).length < (aftC l c).length
  rw [hnx]; simp
end Go.Proofs.YtllkbjcemecmjaaGreat.Aw
end
section
namespace Go.Proofs.YtllkbjcemecmjaaGreat.Aw
theorem iof_ok {n : Int} (h1 : -1073741824 ≤ n) (h2 : n ≤ 1073741824) : (Fr.of n).ok :=
 ⟨h1, h2, by show (1 : Int) ≤ 1; decide, by show (1 : Int) ≤ 1073741824; decide, by show Int.gcd n 1 = 1; exact Int.gcd_one⟩
theorem addE_i {a b : Int} (ha : -1073741824 ≤ a ∧ a ≤ 1073741824) (hb : -1073741824 ≤ b ∧ b ≤ 1073741824) (hc : -1073741824 ≤ a + b ∧ a + b ≤ 1073741824) : addE (Fr.of a) (Fr.of b) = ⟨a + b, 1, 0⟩ := by
 unfold addE
 rw [Fr.okB_of (iof_ok ha.1 ha.2), Fr.okB_of (iof_ok hb.1 hb.2)]
 have e : fadd (Fr.of a) (Fr.of b) = mkF (Fr.of (a + b)).n (Fr.of (a + b)).d := by show mkF (a * 1 + b * 1) (1 * 1) = mkF (a + b) 1; rw [Int.mul_one, Int.mul_one, Int.mul_one]
 rw [e, mkF_of_ok (iof_ok hc.1 hc.2)]; rfl
theorem subE_i {a b : Int} (ha : -1073741824 ≤ a ∧ a ≤ 1073741824) (hb : -1073741824 ≤ b ∧ b ≤ 1073741824) (hc : -1073741824 ≤ a - b ∧ a - b ≤ 1073741824) : subE (Fr.of a) (Fr.of b) = ⟨a - b, 1, 0⟩ := by
 unfold subE
 rw [Fr.okB_of (iof_ok ha.1 ha.2), Fr.okB_of (iof_ok hb.1 hb.2)]
 have e : fsub (Fr.of a) (Fr.of b) = mkF (Fr.of (a - b)).n (Fr.of (a - b)).d := by show mkF (a * 1 + -b * 1) (1 * 1) = mkF (a - b) 1; rw [Int.mul_one, Int.mul_one, Int.mul_one]; rfl
 rw [e, mkF_of_ok (iof_ok hc.1 hc.2)]; rfl
theorem mulE_i {a b : Int} (ha : -1073741824 ≤ a ∧ a ≤ 1073741824) (hb : -1073741824 ≤ b ∧ b ≤ 1073741824) (hc : -1073741824 ≤ a * b ∧ a * b ≤ 1073741824) : mulE (Fr.of a) (Fr.of b) = ⟨a * b, 1, 0⟩ := by
 unfold mulE
 rw [Fr.okB_of (iof_ok ha.1 ha.2), Fr.okB_of (iof_ok hb.1 hb.2)]
 have e : fmul (Fr.of a) (Fr.of b) = mkF (Fr.of (a * b)).n (Fr.of (a * b)).d := by show mkF (a * b) (1 * 1) = mkF (a * b) 1; rw [Int.mul_one]
 rw [e, mkF_of_ok (iof_ok hc.1 hc.2)]; rfl
def yK (n k : Nat) (v : Int) : List Fr := (zbf n).set k (Fr.of v)
theorem yK_len (n k : Nat) (v : Int) : (yK n k v).length = n := by simp [yK, zbf]
theorem yK_gti {n k j : Nat} {v : Int} (hj : j < n) : gti (yK n k v) j = Fr.of (if j = k then v else 0) := by
 unfold yK gti
 rw [List.getElem?_set]
 split
 ·
  rename_i h; subst h; rw [if_pos rfl]
  split
  ·
   rfl
  ·
   rename_i h2; simp [zbf] at h2; omega
 ·
  rename_i h
  rw [if_neg xd]
  unfold zbf
  rw [List.getElem?_replicate, if_pos hj]; rfl
theorem zerosL_yK {n : Nat} (h : 1 ≤ n) : zbf n = yK n 0 0 := by
 obtain ⟨m, rfl⟩ : ∃ m, n = m + 1 := ⟨n - 1, by omega⟩
 simp [yK, zbf, List.replicate_succ]
theorem dotG_int : ∀ (a b : List Fr) (n : Nat) (f : Nat → Int) (acc : Int) (B : Int), a.length = n → b.length = n → (∀ i, i < n → ∃ x y : Int, gti a i = Fr.of x ∧ gti b i = Fr.of y ∧ f i = x * y ∧ (0 ≤ x ∧ x ≤ 100) ∧ (0 ≤ y ∧ y ≤ 300000)) → 0 ≤ acc → acc + 30000000 * n ≤ 1073741824 →
  ∃ r : Int, dotG (Fr.of acc) a b = ⟨r, 1, 0⟩ ∧ r = acc + (List.range n).foldl (fun s i => s + f i) 0
 | [], b, n, f, acc, B, ha, hb, h, h0, h1 => by
  simp at ha; subst ha
  refine ⟨acc, ?_, by simp⟩
  have : b = [] := List.length_eq_zero_iff.1 hb
  subst this
  rw [dotG] <;> first | rfl | (intro x y z w e; cases e)
 | x :: a, [], n, f, acc, B, ha, hb, h, h0, h1 => by simp at ha hb; omega
 | x :: a, y :: b, n, f, acc, B, ha, hb, h, h0, h1 => by
  obtain ⟨m, rfl⟩ : ∃ m, n = m + 1 := ⟨n - 1, by simp at ha; omega⟩
  obtain ⟨u, v, e1, e2, e3, hu, hv⟩ := h 0 xd
  rw [gti_zero] at e1 e2
  subst e1 e2
  have hp : 0 ≤ u * v ∧ u * v ≤ 30000000 := ⟨Int.mul_nonneg hu.1 hv.1, by have := Int.mul_le_mul hu.2 hv.2 hv.1 (by omega : (0 : Int) ≤ 100); omega⟩
  have m1 := mulE_i (a := u) (b := v) xd xd xd
  have m2 := addE_i (a := acc) (b := u * v) xd xd xd
  rw [dotG, m1]
  have m2' : addE (Fr.of acc) ⟨u * v, 1⟩ = ⟨acc + u * v, 1, 0⟩ := m2
  dsimp only
  rw [m2']
  dsimp only
  rw [if_neg xo, if_neg xo]
  obtain ⟨r, g1, g2⟩ := dotG_int a b m (fun i => f (i + 1)) (acc + u * v) B (by simpa using ha) (by simpa using hb) (fun i hi => by
   obtain ⟨x', y', k1, k2, k3⟩ := h (i + 1) xd
   rw [zdi] at k1 k2
   exact ⟨x', y', k1, k2, k3⟩) xd xd
  refine ⟨r, g1, ?_⟩
  rw [g2, List.range_succ_eq_map, List.foldl_cons, List.foldl_map, e3]
  have key : ∀ (l : List Nat) (s t : Int), l.foldl (fun s i => s + f (i + 1)) (s + t) = s + l.foldl (fun s i => s + f (i + 1)) t := by
   intro l
   induction l with
   | nil => intro s t; rfl
   | cons i l ih => intro s t; rw [List.foldl_cons, List.foldl_cons, Int.add_assoc, ih]
  have := key (List.range m) (u * v) 0
  rw [Int.add_zero] at this
  show acc + u * v + _ = acc + (List.range m).foldl (fun s i => s + f (i + 1)) (0 + u * v)
  rw [Int.zero_add, this]; omega
theorem fold_single (d : List Int) (k : Nat) (v : Int) : ∀ n, (List.range n).foldl (fun s i => s + gti d i * (if i = k then v else 0)) 0 = if k < n then gti d k * v else 0
 | 0 => rfl
 | n + 1 => by
  rw [List.range_succ, List.foldl_append, fold_single d k v n]
  show (if k < n then gti d k * v else 0) + gti d n * (if n = k then v else 0) = _
  by_cases h1 : k < n
  ·
   rw [if_pos h1, if_neg xd, if_pos xd]; omega
  ·
   by_cases h2 : n = k
   ·
    subst h2; rw [if_neg h1, if_pos rfl, if_pos xd]; omega
   ·
    rw [if_neg h1, if_neg h2, if_neg xd]; omega
theorem okL_all {l : List Fr} (h : ∀ i, i < l.length → (gti l i).ok) : l.all Fr.okB = true := List.all_eq_true.2 fun x hx => by
 obtain ⟨i, hi, rfl⟩ := List.mem_iff_getElem.1 hx
 have := h i hi
 unfold gti at this
 rw [List.getElem?_eq_getElem hi] at this
 exact Fr.okB_of this
theorem dotE_yK {d : List Int} {l : List Sft} (hv : zce d l = true) {k : Nat} {v : Int} (hk : k < d.length) (h0 : 0 ≤ v) (h1 : v ≤ 300000) : dotE (d.map Fr.of) (yK d.length k v) = ⟨gti d k * v, 1, 0⟩ := by
 obtain ⟨⟨q1, q2, q3⟩, qd, ql⟩ := zb4 hv
 unfold dotE
 have e1 : (d.map Fr.of).all Fr.okB = true := okL_all fun i hi => by
  rw [List.length_map] at hi
  rw [ofL_gti hi]
  have := qd i hi
  exact iof_ok xd xd
 have e2 : (yK d.length k v).all Fr.okB = true := okL_all fun i hi => by
  rw [yK_len] at hi
  rw [yK_gti hi]
  split <;> exact iof_ok xd xd
 rw [if_neg (by rw [e1, e2]; simp), if_neg (by rw [List.length_map, yK_len]; omega), if_neg (by rw [List.length_map, yK_len]; simp)]
 obtain ⟨r, g1, g2⟩ := dotG_int (d.map Fr.of) (yK d.length k v) d.length (fun i => gti d i * (if i = k then v else 0)) 0 0 xo (yK_len _ _ _) (fun i hi => ⟨gti d i, if i = k then v else 0, ofL_gti hi, yK_gti hi, rfl, qd i hi, by split <;> omega⟩) xd xd
 rw [g1, g2, fold_single, if_pos hk, Int.zero_add]
def prI (s : Sft) (k : Nat) (v : Int) : Int := s.cost - if inB s.pd k = true then v else 0
theorem prG_yK {d : List Int} {l : List Sft} (hv : zce d l = true) {k : Nat} {v : Int} (hk : k < d.length) (h0 : 0 ≤ v) (h1 : v ≤ 300000) {i : Nat} (hi : i < l.length) : ∀ n j, j + n = (gti l i).pd.length → prG (yK d.length k v) (gti l i).pd n j (Fr.of ((gti l i).cost - if inB ((gti l i).pd.take j) k = true then v else 0)) = ⟨prI (gti l i) k v, 1, 0⟩
 | 0, j, h => by
  rw [prG]
  have : (gti l i).pd.take j = (gti l i).pd := List.take_of_length_le xd
  rw [this]; rfl
 | n + 1, j, h => by
  obtain ⟨_, qd, ql⟩ := zb4 hv
  obtain ⟨q4, q5⟩ := ql i hi
  have hb := q5 j xd
  rw [prG]
  obtain ⟨p, hp⟩ : ∃ p : Nat, gti (gti l i).pd j = p := ⟨(gti (gti l i).pd j).toNat, by omega⟩
  have hpl : p < d.length := by omega
  rw [hp, Int.toNat_natCast, yK_gti hpl]
  have hst := inB_step (l := (gti l i).pd) (j := j) xd k
  have hnw := inB_new (fun k hk h => (q5 k hk).2.2 h) (l := (gti l i).pd) (j := j) xd
  rw [hp] at hst hnw
  have hs := subE_i (a := (gti l i).cost - if inB ((gti l i).pd.take j) k = true then v else 0) (b := if p = k then v else 0) (by split <;> omega) (by split <;> omega) (by split <;> split <;> omega)
  rw [hs]
  dsimp only
  rw [if_neg xo]
  have e : (gti l i).cost - (if inB ((gti l i).pd.take j) k = true then v else 0) - (if p = k then v else 0) = (gti l i).cost - if inB ((gti l i).pd.take (j + 1)) k = true then v else 0 := by
   by_cases hpk : p = k
   ·
    subst hpk
    rw [if_neg (by rw [hnw]; simp), if_pos rfl, if_pos (hst.2 (.inr rfl))]; omega
   ·
    rw [if_neg hpk]
    by_cases hin : inB ((gti l i).pd.take j) k = true
    ·
     rw [if_pos hin, if_pos (hst.2 (.inl hin))]; omega
    ·
     rw [if_neg hin, if_neg (fun h => by rcases hst.1 h with h | h; exact hin h; exact hpk (by exact_mod_cast h))]; omega
  rw [e]
  exact prG_yK hv hk h0 h1 hi n (j + 1) xd
theorem prE_yK {d : List Int} {l : List Sft} (hv : zce d l = true) {k : Nat} {v : Int} (hk : k < d.length) (h0 : 0 ≤ v) (h1 : v ≤ 300000) {i : Nat} (hi : i < l.length) : prE (yK d.length k v) (gti l i) = ⟨prI (gti l i) k v, 1, 0⟩ := by
 have := prG_yK hv hk h0 h1 hi (gti l i).pd.length 0 (Nat.zero_add _)
 rw [List.take_zero, inB_nil, if_neg xo, Int.sub_zero] at this
 exact this
def sumI (l : List Sft) (c : List Int) (k : Nat) (v : Int) : Nat → Int
 | 0 => 0
 | n + 1 => sumI l c k v n + prI (gti l n) k v * gti c n
theorem sumI_eq (l : List Sft) (c : List Int) (k : Nat) (v : Int) : ∀ n, sumI l c k v n = prcP l c n - v * cvP l c n k
 | 0 => by show (0 : Int) = 0 - v * 0; rw [Int.mul_zero]; rfl
 | n + 1 => by
  show sumI l c k v n + prI (gti l n) k v * gti c n = prcP l c n + (gti l n).cost * gti c n - v * (cvP l c n k + if inB (gti l n).pd k = true then gti c n else 0)
  rw [sumI_eq l c k v n]
  unfold prI
  split <;> grind
theorem bdG_yK {d : List Int} {l : List Sft} (hv : zce d l = true) {k : Nat} {v : Int} (hk : k < d.length) (h0 : 0 ≤ v) (h1 : v ≤ 300000) {c : List Int} (hc : okC l c) (S : Int) (hS : 0 ≤ S ∧ S ≤ 30000000) : ∀ n i, i + n = l.length → bdG l c c (yK d.length k v) n i (Fr.of (S + sumI l c k v i)) = (Fr.of (S + sumI l c k v l.length), true)
 | 0, i, h => by rw [bdG, show i = l.length by omega]
 | n + 1, i, h => by
  obtain ⟨⟨q1, q2, q3⟩, qd, ql⟩ := zb4 hv
  have hi : i < l.length := by omega
  have hm := (ql i hi).1
  have hci := hc.2.2 i hi
  have hpb : -300000 ≤ prI (gti l i) k v ∧ prI (gti l i) k v ≤ 1000 := by unfold prI; split <;> omega
  have hpm : -6000000 ≤ prI (gti l i) k v * gti c i ∧ prI (gti l i) k v * gti c i ≤ 20000 := by
   constructor
   ·
    have := Int.mul_le_mul (show -(prI (gti l i) k v) ≤ 300000 by omega) hci.2 hci.1 xd
    rw [Int.neg_mul] at this; omega
   ·
    have := Int.mul_le_mul (show prI (gti l i) k v ≤ 1000 by omega) hci.2 hci.1 xd
    omega
  have hsb : ∀ j, j ≤ l.length → -6000000 * (j : Int) ≤ sumI l c k v j ∧ sumI l c k v j ≤ 20000 * (j : Int) := by
   intro j
   induction j with
   | zero => intro _; unfold sumI; omega
   | succ j ih =>
    intro hj
    have h2 := ih xd
    have hm2 := (ql j xd).1
    have hcj := hc.2.2 j xd
    have hpb2 : -300000 ≤ prI (gti l j) k v ∧ prI (gti l j) k v ≤ 1000 := by unfold prI; split <;> omega
    have k1 := Int.mul_le_mul (show -(prI (gti l j) k v) ≤ 300000 by omega) hcj.2 hcj.1 xd
    have k2 := Int.mul_le_mul (show prI (gti l j) k v ≤ 1000 by omega) hcj.2 hcj.1 xd
    rw [Int.neg_mul] at k1
    unfold sumI
    omega
  have hs1 := hsb i xd
  have hs2 := hsb (i + 1) xd
  have e3 : sumI l c k v (i + 1) = sumI l c k v i + prI (gti l i) k v * gti c i := rfl
  rw [bdG, prE_yK hv hk h0 h1 hi]
  dsimp only
  rw [if_neg xo]
  have ech : (if prI (gti l i) k v < 0 then gti c i else gti c i) = gti c i := by split <;> rfl
  rw [ech]
  have hmu := mulE_i (a := prI (gti l i) k v) (b := gti c i) xd xd xd
  have hmu' : mulE ⟨prI (gti l i) k v, 1⟩ (Fr.of (gti c i)) = ⟨prI (gti l i) k v * gti c i, 1, 0⟩ := hmu
  rw [hmu']
  dsimp only
  rw [if_neg xo]
  have had := addE_i (a := S + sumI l c k v i) (b := prI (gti l i) k v * gti c i) xd xd xd
  have had' : addE (Fr.of (S + sumI l c k v i)) ⟨prI (gti l i) k v * gti c i, 1⟩ = ⟨S + sumI l c k v i + prI (gti l i) k v * gti c i, 1, 0⟩ := had
  rw [had']
  dsimp only
  rw [if_neg xo, Int.add_assoc, ← e3]
  exact bdG_yK hv hk h0 h1 hc S hS n (i + 1) xd
theorem prvB_yK {d : List Int} {l : List Sft} (hv : zce d l = true) {k : Nat} {v : Int} (hk : k < d.length) (h0 : 0 ≤ v) (h1 : v ≤ 300000) {c : List Int} (hc : okC l c) {K : Int} (hK : 0 ≤ K ∧ K ≤ 1000000) (hb : K ≤ gti d k * v + prcP l c l.length - v * cvP l c l.length k) (hub : gti d k * v + prcP l c l.length - v * cvP l c l.length k ≤ 1000000000) : prvB d l c c (yK d.length k v) K = true := by
 obtain ⟨⟨q1, q2, q3⟩, qd, ql⟩ := zb4 hv
 have hd := qd k hk
 have hS : 0 ≤ gti d k * v ∧ gti d k * v ≤ 30000000 := ⟨Int.mul_nonneg hd.1 h0, by have := Int.mul_le_mul hd.2 h1 h0 (by omega : (0 : Int) ≤ 100); omega⟩
 have hbd : bdE d l c c (yK d.length k v) = (Fr.of (gti d k * v + prcP l c l.length - v * cvP l c l.length k), true) := by
  unfold bdE
  rw [dotE_yK hv hk h0 h1]
  dsimp only
  rw [if_neg xo]
  have := bdG_yK hv hk h0 h1 hc (gti d k * v) hS l.length 0 (Nat.zero_add _)
  have e0 : sumI l c k v 0 = 0 := rfl
  rw [e0, Int.add_zero, sumI_eq] at this
  rw [show gti d k * v + prcP l c l.length - v * cvP l c l.length k = gti d k * v + (prcP l c l.length - v * cvP l c l.length k) by omega]
  exact this
 unfold prvB mulB
 rw [hbd]
 simp only [Bool.and_eq_true, decide_eq_true_eq, Bool.not_eq_true']
 have hok1 : (Fr.of (gti d k * v + prcP l c l.length - v * cvP l c l.length k)).ok := iof_ok xd xd
 have hok2 : (Fr.of (K - 1)).ok := iof_ok xd xd
 refine ⟨⟨yK_len _ _ _, ?_⟩, trivial, ?_⟩
 ·
  refine List.any_eq_false.2 fun x hx => ?_
  obtain ⟨i, hi, rfl⟩ := List.mem_iff_getElem.1 hx
  rw [yK_len] at hi
  have e : (yK d.length k v)[i]'(by rw [yK_len]; exact hi) = gti (yK d.length k v) i := by unfold gti; rw [List.getElem?_eq_getElem (by rw [yK_len]; exact hi)]; rfl
  rw [e, yK_gti hi]
  unfold badM
  have : (Fr.of (if i = k then v else 0)).okB = true := Fr.okB_of (by split <;> exact iof_ok xd xd)
  rw [this]
  simp only [Bool.not_true, Bool.false_or, decide_eq_true_eq]
  show ¬ (if i = k then v else 0) < 0
  split <;> omega
 ·
  unfold cmpE
  rw [Fr.okB_of hok1, Fr.okB_of hok2]
  refine ⟨rfl, ?_⟩
  show 0 < cmpN _ _
  unfold cmpN Fr.of
  dsimp only
  rw [Int.mul_one, Int.mul_one, if_neg xd, if_pos xd]
  decide
end Go.Proofs.YtllkbjcemecmjaaGreat.Aw
end
section
namespace Go.Proofs.YtllkbjcemecmjaaGreat.Aw
theorem shF_at (d : List Int) (l : List Sft) (c : List Int) : ∀ n k, 0 ≤ shF d l c n k → ∃ p : Nat, shF d l c n k = p ∧ k ≤ p ∧ p < k + n ∧ cvP l c l.length p < gti d p
 | 0, k, h => by rw [shF] at h; omega
 | n + 1, k, h => by
  rw [shF] at h ⊢
  split
  ·
   rename_i h1; exact ⟨k, rfl, Nat.le_refl _, by omega, h1⟩
  ·
   rename_i h1
   rw [if_neg h1] at h
   obtain ⟨p, g1, g2, g3, g4⟩ := shF_at d l c n (k + 1) h
   exact ⟨p, g1, by omega, by omega, g4⟩
theorem simple_point {d : List Int} {l : List Sft} (hv : zce d l = true) {c : List Int} (hc : okC l c) {K : Int} (hK : 0 ≤ K ∧ K ≤ 240000) (hmin : shE d l c < 0 → K ≤ prcP l c l.length) : prvB d l c c (simE d l K c) K = true := by
 obtain ⟨⟨q1, q2, q3⟩, qd, ql⟩ := zb4 hv
 have hp := prcP_bd hv hc l.length (Nat.le_refl _)
 have hpb : prcP l c l.length ≤ 240000 := by omega
 unfold simE
 dsimp only
 by_cases h : 0 ≤ shE d l c
 ·
  rw [if_pos h]
  obtain ⟨p, g1, g2, g3, g4⟩ := shF_at d l c d.length 0 h
  have e : shE d l c = p := g1
  rw [e, Int.toNat_natCast]
  have hpd := qd p xd
  have hcv := cvP_bd hc p l.length (Nat.le_refl _)
  have k1 := Int.mul_le_mul_of_nonneg_right (show cvP l c l.length p + 1 ≤ gti d p by omega) (show 0 ≤ K + 1 by omega)
  have k2 := Int.mul_le_mul_of_nonneg_right (show gti d p ≤ 100 by omega) (show 0 ≤ K + 1 by omega)
  have k3 := Int.mul_nonneg hcv.1 (show 0 ≤ K + 1 by omega)
  rw [Int.add_mul, Int.one_mul] at k1
  exact prvB_yK hv (k := p) (v := K + 1) xd xd xd hc ⟨hK.1, by omega⟩ (by rw [Int.mul_comm (K + 1)]; omega) (by rw [Int.mul_comm (K + 1)]; omega)
 ·
  rw [if_neg h, zerosL_yK q1]
  have := hmin xd
  exact prvB_yK hv (k := 0) (v := 0) xd xd xd hc ⟨hK.1, by omega⟩ (by rw [Int.mul_zero, Int.zero_mul]; omega) (by rw [Int.mul_zero, Int.zero_mul]; omega)
def volW (w : Nat → Int) : Nat → Int
 | 0 => 1
 | n + 1 => volW w n * w n
theorem volW_pos {w : Nat → Int} : ∀ {n : Nat}, (∀ i, i < n → 1 ≤ w i) → 1 ≤ volW w n
 | 0, _ => by show (1 : Int) ≤ 1; decide
 | n + 1, h => by
  have h1 := volW_pos (n := n) (fun i hi => h i xd)
  have h2 := h n xd
  show 1 ≤ volW w n * w n
  have := Int.mul_le_mul h1 h2 xd xd
  omega
theorem volW_congr {w w' : Nat → Int} : ∀ {n : Nat}, (∀ i, i < n → w i = w' i) → volW w n = volW w' n
 | 0, _ => rfl
 | n + 1, h => by
  show volW w n * w n = volW w' n * w' n
  rw [volW_congr (n := n) (fun i hi => h i xd), h n xd]
theorem volW_add {w w1 w2 : Nat → Int} {k : Nat} (hk2 : w k = w1 k + w2 k) : ∀ {n : Nat}, k < n → (∀ i, i < n → i ≠ k → w1 i = w i ∧ w2 i = w i) → volW w n = volW w1 n + volW w2 n
 | 0, h, _ => by omega
 | n + 1, h, h1 => by
  show volW w n * w n = volW w1 n * w1 n + volW w2 n * w2 n
  by_cases e : k = n
  ·
   subst e
   rw [volW_congr (w := w1) (w' := w) (fun i hi => (h1 i xd xd).1), volW_congr (w := w2) (w' := w) (fun i hi => (h1 i xd xd).2), hk2, Int.mul_add]
  ·
   have := h1 n xd xd
   rw [volW_add hk2 (n := n) xd (fun i hi => h1 i xd), this.1, this.2, Int.add_mul]
def vol (lo hi : List Int) (n : Nat) : Int := volW (fun i => gti hi i - gti lo i + 1) n
theorem wideF_neg {lo hi : List Int} : ∀ {n : Nat}, zdm lo hi n < 0 → ∀ i, i < n → gti hi i - gti lo i ≤ 0
 | 0, _, i, h => by omega
 | n + 1, h, i, hj => by
  unfold zdm at h
  split at h
  ·
   omega
  ·
   rename_i h1
   by_cases e : i = n
   ·
    subst e
    by_cases h2 : 0 < gti hi i - gti lo i
    ·
     exact absurd ⟨h2, .inl h⟩ h1
    ·
     omega
   ·
    exact wideF_neg h i xd
theorem list_gti {a b : List Int} (hl : a.length = b.length) (h : ∀ i, i < a.length → gti a i = gti b i) : a = b := by
 refine List.ext_getElem hl fun i h1 h2 => ?_
 have := h i h1
 unfold gti at this
 rw [List.getElem?_eq_getElem h1, List.getElem?_eq_getElem h2] at this
 exact this
theorem rgtE_leaf {d : List Int} {l : List Sft} {K : Int} {y : List Fr} {lo hi : List Int} (h : prvB d l lo hi y K = true) {m : Int} (hm : 1 ≤ m) : rgtE d l K (.mk 0 0 [] y) lo hi m = (true, m - 1) := by
 rw [rgtE, if_neg xd, h]; rfl
theorem prvT_ok {d : List Int} {l : List Sft} (hv : zce d l = true) {K : Int} (hK : 0 ≤ K ∧ K ≤ 240000) (hmin : ∀ c, cntB l c = true → shE d l c < 0 → K ≤ prcP l c l.length) : ∀ (f : Nat) (n : Int) (lo hi : List Int), boxM lo hi l.length < f → BX l lo hi → (∀ k, k < l.length → gti lo k ≤ gti hi k ∧ gti hi k ≤ (gti l k).most) → 2 * vol lo hi l.length - 1 ≤ n →
  (prvT d l K f n lo hi).2.1 = true ∧ n - (2 * vol lo hi l.length - 1) ≤ (prvT d l K f n lo hi).2.2 ∧ ∀ m, n ≤ m → rgtE d l K (prvT d l K f n lo hi).1 lo hi m = (true, m - n + (prvT d l K f n lo hi).2.2)
 | 0, n, lo, hi, h, _, _, _ => by omega
 | f + 1, n, lo, hi, hf, hb, ho, hn => by
  obtain ⟨⟨q1, q2, q3⟩, qd, ql⟩ := zb4 hv
  have hvp : 1 ≤ vol lo hi l.length := volW_pos fun i hi => by have := ho i hi; omega
  have leaf : ∀ y, prvB d l lo hi y K = true → ∀ m, n ≤ m → rgtE d l K (.mk 0 0 [] y) lo hi m = (true, m - n + (n - 1)) := fun y hy m hm => by
   rw [rgtE_leaf hy xd]
   congr 1; omega
  unfold prvT
  rw [if_neg xd]
  split
  ·
   rename_i h
   exact ⟨rfl, by dsimp only; omega, leaf _ h.2⟩
  ·
   split
   ·
    rename_i h
    exact ⟨rfl, by dsimp only; omega, leaf _ h⟩
   ·
    rename_i hsim
    have hw := wideF_bd lo hi l.length
    split
    ·
     rename_i hneg
     exfalso
     have heq : lo = hi := list_gti (by rw [hb.l1, hb.l2]) fun i hi' => by
      rw [hb.l1] at hi'
      have h1 := wideF_neg hneg i hi'
      have h2 := ho i hi'
      omega
     subst heq
     refine hsim (simple_point hv ⟨hb.l1, q3, hb.b1⟩ hK (hmin lo ?_))
     rw [cntB_allC, mem_allC]
     exact ⟨hb.l1, fun k hk => ⟨(hb.b1 k hk).1, (ho k hk).2⟩⟩
    ·
     rename_i hneg
     obtain ⟨k, hkk⟩ : ∃ k : Nat, zdm lo hi l.length = k := ⟨(zdm lo hi l.length).toNat, by omega⟩
     rw [hkk] at hw
     simp only [hkk, Int.toNat_natCast] at hw ⊢
     have hkl : k < l.length := by omega
     have hwk := hw.2.2 xd
     obtain ⟨t, ht⟩ : ∃ t, (gti lo k + gti hi k) / 2 = t := ⟨_, rfl⟩
     rw [ht]
     have hbl := hb.b1 k hkl
     have hbh := hb.b2 k hkl
     have hok := ho k hkl
     have t1 : gti lo k ≤ t := by omega
     have t2 : t < gti hi k := by omega
     have hadd : vol lo hi l.length = vol lo (setI hi k t) l.length + vol (setI lo k (t + 1)) hi l.length := by
      unfold vol
      refine volW_add (k := k) ?_ hkl (fun i hi' hne => ?_)
      ·
       rw [setI_gti (by rw [hb.l2]; exact hkl), setI_gti (by rw [hb.l1]; exact hkl), if_pos rfl, if_pos rfl]; omega
      ·
       rw [setI_gti (by rw [hb.l2]; exact hkl), setI_gti (by rw [hb.l1]; exact hkl), if_neg hne, if_neg hne]; exact ⟨rfl, rfl⟩
     have ho1 : ∀ j, j < l.length → gti lo j ≤ gti (setI hi k t) j ∧ gti (setI hi k t) j ≤ (gti l j).most := fun j hj => by
      have := ho j hj
      rw [setI_gti (by rw [hb.l2]; exact hkl)]
      split
      ·
       rename_i e; subst e; omega
      ·
       exact this
     have ho2 : ∀ j, j < l.length → gti (setI lo k (t + 1)) j ≤ gti hi j ∧ gti hi j ≤ (gti l j).most := fun j hj => by
      have := ho j hj
      rw [setI_gti (by rw [hb.l1]; exact hkl)]
      split
      ·
       rename_i e; subst e; omega
      ·
       exact this
     have hp1 : 1 ≤ vol lo (setI hi k t) l.length := volW_pos fun i hi' => by have := ho1 i hi'; omega
     have hp2 : 1 ≤ vol (setI lo k (t + 1)) hi l.length := volW_pos fun i hi' => by have := ho2 i hi'; omega
     have hA := prvT_ok hv hK hmin f (n - 1) lo (setI hi k t) (by have := boxM_hi (lo := lo) (hi := hi) (n := l.length) (k := k) (t := t) hkl (by rw [hb.l2]; exact hkl) t1 t2; omega) (hb.hi hkl xd xd) ho1 xd
     generalize prvT d l K f (n - 1) lo (setI hi k t) = ra at hA ⊢
     obtain ⟨a, oka, na⟩ := ra
     obtain ⟨g1, g2, g3⟩ := hA
     dsimp only at g1 g2 g3 ⊢
     rw [if_neg (by rw [g1]; simp)]
     have hB := prvT_ok hv hK hmin f na (setI lo k (t + 1)) hi (by have := boxM_lo (lo := lo) (hi := hi) (n := l.length) (k := k) (t := t + 1) hkl (by rw [hb.l1]; exact hkl) xd xd; omega) (hb.lo hkl xd xd) ho2 xd
     generalize prvT d l K f na (setI lo k (t + 1)) hi = rb at hB ⊢
     obtain ⟨b, okb, nb⟩ := rb
     obtain ⟨k1, k2, k3⟩ := hB
     dsimp only at k1 k2 k3 ⊢
     refine ⟨k1, by omega, fun m hm => ?_⟩
     have hr1 := g3 (m - 1) xd
     have hna := (show na ≤ m - 1 - (n - 1) + na by omega)
     have hr2 := k3 (m - 1 - (n - 1) + na) xd
     rw [rgtE, if_neg xd, if_neg (fun h => h ⟨rfl, by omega, by omega, by rw [Int.toNat_natCast]; exact t1, by rw [Int.toNat_natCast]; exact t2⟩)]
     rw [Int.toNat_natCast, hr1]
     dsimp only
     rw [if_neg xo, hr2]
     congr 1; omega
end Go.Proofs.YtllkbjcemecmjaaGreat.Aw
end
section
namespace Go.Proofs.YtllkbjcemecmjaaGreat.Aw
open Go.RowKit Go.Proofs
variable {P : Program} [IsP P]
end Go.Proofs.YtllkbjcemecmjaaGreat.Aw
end
section
namespace Go.Proofs.YtllkbjcemecmjaaGreat.Aw
open Go.RowKit Go.Proofs
variable {P : Program} [IsP P]
theorem equalSelf_pf (a : List Int) : Pure P 11 [eL eI a, eL eI a] (eB true) := by
 refine zcl (by rw [IsP.eq (P := P)]; exact Tryz.func11) rfl rfl rfl rfl rfl xa (.s _) (by simp only [argF]; rfl) ?_
 refine zag ?_
 refine zda (d := 0) rfl (fun hm1 => ?_)
 unfold maxLen at hm1
 refine zab (zac rfl (zad (zag (zag (zab (zac rfl (zaf rfl rfl (zaa rfl) (zao rfl ts22 rfl) (zac rfl (zaf rfl rfl (zaa rfl) (zao rfl ts22 rfl) ?_)))))))))
 refine za3 rfl rfl (zaa rfl) (zbp rfl rfl rfl) (fun h10 => ?_) (fun h10 => ?_)
 all_goals refine zad (zai ?_)
 all_goals (first | refine za5 rfl ?_ | refine zau rfl ?_)
 all_goals (repeat (first | refine zag ?_ | refine zar ?_))
 ·
  exact absurd rfl h10
 refine zab (zac rfl (zaf rfl rfl (zaa rfl) (zao rfl ts22 rfl) (zac rfl (zad (zai (zas ?_))))))
 refine zb1 (S := Nat) (fun k => [(0, eL eI a), (1, eL eI a), (12, eI a.length), (13, eI k)]) (fun _ => []) (fun k => k ≤ a.length) (fun k => a.length - k) 0 (zb8 [] xf trivial ⟨.lo _ (zan fun _ => .s _), .lo _ (zan fun _ => .s _), .lo _ (.s _), .lo _ (.s _), trivial⟩) (Nat.zero_le _) (fun k hk => ?_)
 refine zag (zab ?_)
 refine za3 rfl rfl (zaa rfl) (za2 rfl rfl rfl) (fun h14 => ?_) (fun h14 => ?_)
 all_goals refine zad (zag ?_)
 all_goals (first | refine za5 rfl ?_ | refine zau rfl ?_)
 all_goals (repeat (first | refine zag ?_ | refine zar ?_ | refine zas ?_))
 ·
  have hlt : k < a.length := by omega
  refine zab (zac rfl (zac rfl (zad (zag ?_))))
  refine zb2 hmix ?_
  refine zbx xi ?_
  refine qx_s rfl (qx_s rfl (zby rfl rfl (zaa rfl) (zal rfl ts22 ti3 rfl rfl rfl (zbb xd) rfl) (qx_l ta3 rfl (qx_s rfl (qx_s rfl (zby rfl rfl (zaa rfl) (zal rfl ts22 ti3 rfl rfl rfl (zbb xd) rfl) (qx_l ta3 rfl ?_)))))))
  refine qx_opP rfl rfl (zaa rfl) (zbp rfl rfl rfl) (fun h24 => ?_) (fun h24 => ?_)
  all_goals refine zdg ?_
  all_goals refine zai ?_
  all_goals (first | refine za5 rfl ?_ | refine zau rfl ?_)
  all_goals (repeat (first | refine zag ?_ | refine zai ?_ | refine zar ?_ | refine zbl ?_))
  ·
   exact absurd rfl h24
  ·
   refine zab (zaf rfl rfl (zaa rfl) (zax rfl rfl rfl (IntWalk.i64_in _ xd)) (zac rfl (zad (zai ?_))))
   exact ⟨k + 1, by omega, by omega, zb8 [] xf trivial ⟨.lo _ (zan fun _ => .s _), .lo _ (zan fun _ => .s _), .lo _ (.s _), .lo _ (.s _), trivial⟩⟩
 ·
  (refine zb9 ?_; repeat (first | refine zcr ?_ | refine zbt ?_ | refine zbk rfl ?_ | refine zbl ?_ | refine zai ?_ | refine zag ?_ | refine zar ?_ | refine zas ?_))
  refine zab (zac rfl (zad (zai ?_)))
  (refine za7 ?_; repeat (first | refine zbc ?_ | refine zbe ?_))
  exact zb6 (.inr rfl) rfl rfl
def exD : List Int := [1, 2, 1]
def exL : List Sft := [⟨[0, 1], 3, 2⟩, ⟨[1, 2], 4, 2⟩]
def exY2 : List Fr := [⟨3, 1⟩, ⟨0, 1⟩, ⟨4, 1⟩]
theorem chk2 : chkE exD exL ⟨[1, 1], 7⟩ (.mk 0 0 [] exY2) = true := by kernel_rfl
theorem chk_ex (y : List Fr) (h : chkE exD exL ⟨[1, 1], 7⟩ (.mk 0 0 [] y) = true) : Pure P 13 [eL eI exD, eL eSh exL, ePl ⟨[1, 1], 7⟩, .agg [eI 0, eI 0, .sl [], eL eF y]] (eB true) := by
 have := check_pf (P := P) exD exL ⟨[1, 1], 7⟩ (.mk 0 0 [] y)
 rw [h, zdk] at this
 exact this
end Go.Proofs.YtllkbjcemecmjaaGreat.Aw
end
section
namespace Go.Proofs.YtllkbjcemecmjaaGreat.Aw
open Go Go.RowKit Go.Proofs
theorem vol_first {l : List Sft} : ∀ n, n ≤ l.length → vol (zcv l.length) (zcs l) n = prodF l n
 | 0, _ => rfl
 | n + 1, h => by
  have h0 : gti (zcv l.length) n = 0 := by unfold zcv gti; rw [List.getElem?_replicate, if_pos xd]; rfl
  show vol (zcv l.length) (zcs l) n * (gti (zcs l) n - gti (zcv l.length) n + 1) = prodF l n * ((gti l n).most + 1)
  rw [vol_first n xd, h0, mostL_gti xd, Int.sub_zero]
theorem most0 {d : List Int} {l : List Sft} (hv : zce d l = true) : ∀ k, k < l.length → 0 ≤ (gti l k).most := fun k hk => by have := ((zb4 hv).2.2 k hk).1; omega
theorem bstR_good {d : List Int} {l : List Sft} {lim : Int} (hv : zce d l = true) (h1 : 1 ≤ lim) (h2 : lim ≤ 1048576) (hs : shE d l (zcs l) < 0) (hp : prodF l l.length ≤ lim) (hq : prodF l l.length ≤ 10000) :
  ∃ c b, (srcE d l).1 = some c ∧ bstR d l lim = (⟨c, (srcE d l).2⟩, b, 0) ∧ chkE d l ⟨c, (srcE d l).2⟩ b = true := by
 obtain ⟨c, hc⟩ := srcE_some hv hs
 have hf := srcE_ok hv
 have hst := srcE_StO hv
 unfold FoldR at hf
 rw [hc] at hf
 obtain ⟨f1, f2, f3, f4⟩ := hf
 have hcn := cntB_allC.2 f1
 have hbx := first_box hv
 have hok := prvT_ok hv (K := (srcE d l).2) hst.2 (fun c' h1 h2 => f4 c' (cntB_allC.1 h1) h2) (boxM (zcv l.length) (zcs l) l.length + 1) 20000 (zcv l.length) (zcs l) (Nat.lt_succ_self _) hbx (fun k hk => by
  have h0 : gti (zcv l.length) k = 0 := by unfold zcv gti; rw [List.getElem?_replicate, if_pos hk]; rfl
  rw [h0, mostL_gti hk]
  exact ⟨most0 hv k hk, Int.le_refl _⟩) (by rw [vol_first l.length (Nat.le_refl _)]; omega)
 have hok2 : (bstT d l).2.1 = true ∧ _ ∧ ∀ m, 20000 ≤ m → rgtE d l (srcE d l).2 (bstT d l).1 (zcv l.length) (zcs l) m = (true, m - 20000 + (bstT d l).2.2) := hok
 have hck : chkE d l ⟨c, (srcE d l).2⟩ (bstT d l).1 = true := by
  unfold chkE
  rw [if_pos ⟨hv, hcn, f2, f3⟩, hok2.2.2 20000 (Int.le_refl _)]
 refine ⟨c, (bstT d l).1, hc, ?_, hck⟩
 unfold bstR
 have hal : allF l l.length ≤ prodF l l.length := by
  rw [allF_eq (most0 hv) _ (Nat.le_refl _), numF_eq (most0 hv) xf _ (Nat.le_refl _)]; omega
 rw [if_neg (fun h => h hv), if_neg xd, if_neg xd, if_neg xd, hc]
 rw [if_pos ⟨hok2.1, hck⟩]; rfl
theorem bstR_none {d : List Int} {l : List Sft} {lim : Int} (hv : zce d l = true) (h1 : 1 ≤ lim) (h2 : lim ≤ 1048576) (hs : ¬ shE d l (zcs l) < 0) : bstR d l lim = (⟨[], 0⟩, zBr, 17) := by
 unfold bstR
 rw [if_neg (fun h => h hv), if_neg xd, if_pos xd]
variable {P : Program} [IsP P]
theorem none_pf : Pure P 9 [ePl ⟨[], 0⟩, .agg [eI 0, eI 0, .sl [], .sl []]] (eB true) := by
 refine zcl (by rw [IsP.eq (P := P)]; exact Tryz.func9) rfl rfl rfl rfl rfl xa (.s _) (by simp only [argF]; rfl) ?_
 refine zag (zab (zaf rfl rfl (zaa rfl) (zb3 rfl rfl rfl rfl) ?_))
 refine za6 (zbm (id := 0) rfl) (za6 (zcb (d := 2) rfl rfl rfl) ?_)
 refine zaf rfl rfl (zaa rfl) (zb3 rfl rfl rfl rfl) ?_
 refine za6 (zbm (id := 1) rfl) (za6 (zcb (d := 3) rfl rfl rfl) ?_)
 refine zac rfl (zad (zag (zab (zbz tf28_0 rfl (zbu ta22 rfl (zaf rfl rfl (zaa rfl) (zao rfl ts22 rfl) (zaf rfl rfl (zaa rfl) (zdc rfl (zbn rfl rfl rfl)) (zac rfl (zbz tf28_1 rfl (zbu ta3 rfl (zaf rfl rfl (zat rfl rfl rfl) (zdc rfl (zbn rfl rfl rfl)) (zac rfl (zac rfl (zbz tf32_2 rfl (zbu ta29 rfl (zaf rfl rfl (zat rfl rfl rfl) (does_len_sl rfl ts29 rfl) (zaf rfl rfl (zat rfl rfl rfl) (zdc rfl (zbn rfl rfl rfl)) (zac rfl (zac rfl (zbz tf32_3 rfl (zbu ta30 rfl (zaf rfl rfl (zat rfl rfl rfl) (does_len_sl rfl ts30 rfl) ?_))))))))))))))))))))))
 refine zaf rfl rfl (zat rfl rfl rfl) (zdc rfl (zbn rfl rfl rfl)) (zac rfl (zac rfl (zbz tf32_0 rfl (zbu ta3 rfl (zaf rfl rfl (zat rfl rfl rfl) (zdc rfl (zbn rfl rfl rfl)) (zac rfl (zac rfl (zbz tf32_1 rfl (zbu ta3 rfl (zaf rfl rfl (zat rfl rfl rfl) (zdc rfl (zbn rfl rfl rfl)) (zac rfl (zac rfl (zad (zai ?_))))))))))))))
 (refine za7 ?_; repeat (first | refine zbc ?_ | refine zbe ?_))
 exact zb6 (.inr rfl) rfl rfl
theorem numF_bd {l : List Sft} (h : ∀ k, k < l.length → 0 ≤ (gti l k).most) {L : Int} (hL : 0 ≤ L) : ∀ i, i ≤ l.length → 1 ≤ numF l L i ∧ numF l L i ≤ L + 1 := fun i hi => by
 rw [numF_eq h hL i hi]
 have := prodF_pos h i hi
 omega
set_option maxHeartbeats 1000000 in
theorem rNum_pf (d : List Int) (l : List Sft) (hv : zce d l = true) (L : Int) (hL : 0 ≤ L ∧ L ≤ 1000000) : Pure P 7 [eL eSh l, eI L] (eI (numF l L l.length)) := by
 obtain ⟨⟨q1, q2, q3⟩, qd, ql⟩ := zb4 hv
 refine zcl (by rw [IsP.eq (P := P)]; exact Tryz.func7) rfl rfl rfl rfl rfl xa (.s _) (by simp only [argF]; rfl) ?_
 refine zag (zab (zac rfl (zad (zag (zab (zac rfl (zad (zag (zag (zab (zac rfl (zad (zai (zas ?_))))))))))))))
 refine zb1 (S := Nat) (fun i => [(0, eL eSh l), (1, eI L), (5, eI (numF l L i)), (6, eI i)]) (fun _ => []) (fun i => i ≤ l.length) (fun i => l.length - i) 0
  (wk_sub _ ⟨rfl, rfl, rfl, rfl, trivial⟩) (Nat.zero_le _) (fun i hi => ?_)
 refine zag (zag (zab (zac rfl (zac rfl (zaf rfl rfl (zaa rfl) (zao rfl ts23 rfl) ?_)))))
 refine za3 rfl rfl (zaa rfl) (za2 rfl rfl rfl) (fun h10 => ?_) (fun h10 => ?_)
 all_goals refine zad (zai ?_)
 all_goals (first | refine za5 rfl ?_ | refine zau rfl ?_)
 all_goals (repeat (first | refine zag ?_ | refine zar ?_ | refine zas ?_))
 ·
  have hlt : i < l.length := by omega
  have hxl : (l.map eSh)[i]? = some (eSh (gti l i)) := zbb hlt
  have hm := (ql i hlt).1
  have hb := numF_bd (most0 hv) hL.1 i xd
  have hmu : 0 ≤ numF l L i * ((gti l i).most + 1) ∧ numF l L i * ((gti l i).most + 1) ≤ 22000000 := ⟨Int.mul_nonneg xd xd, by have := Int.mul_le_mul hb.2 (show (gti l i).most + 1 ≤ 21 by omega) xd xd; omega⟩
  have hmin : (if numF l L i * ((gti l i).most + 1) < L + 1 then numF l L i * ((gti l i).most + 1) else L + 1) = numF l L (i + 1) := by
   show _ = min (L + 1) (numF l L i * ((gti l i).most + 1))
   rw [Int.min_def]; split <;> split <;> omega
  refine zab (zac rfl (zaf rfl rfl (zaa rfl) (zax rfl rfl rfl (IntWalk.i64_in _ xd)) (zac rfl (zac rfl (zac rfl (zaf rfl rfl (zaa rfl) (zal rfl ts23 ti43 rfl rfl rfl hxl rfl) (zbz tf43_2 rfl (zbu ta3 rfl (zaf rfl rfl (zaa rfl) (zax rfl rfl rfl (IntWalk.i64_in _ xd)) (zaf rfl rfl (zaa rfl) (does_mul rfl rfl rfl (IntWalk.i64_in _ xd)) (zaf rfl rfl (zaa rfl) (does_min rfl rfl rfl hmin) (zac rfl (zad (zbl (zai (zab (zac rfl (zaf rfl rfl (zaa rfl) (zax rfl rfl rfl (IntWalk.i64_in _ xd)) ?_))))))))))))))))))
  refine zac rfl (zad (zai ?_))
  exact ⟨i + 1, by omega, by omega, wk_sub _ ⟨rfl, rfl, rfl, rfl, trivial⟩⟩
 ·
  have ei : i = l.length := by omega
  subst ei
  (refine zb9 ?_; repeat (first | refine zcr ?_ | refine zbt ?_ | refine zbk rfl ?_ | refine zbl ?_ | refine zai ?_ | refine zag ?_ | refine zar ?_ | refine zas ?_))
  refine zab (zac rfl (zac rfl (zad (zai ?_))))
  (refine za7 ?_; repeat (first | refine zbc ?_ | refine zbe ?_))
  exact zb6 (.inr rfl) rfl rfl
theorem ex_best : ∃ b, bstR exD exL 100 = (⟨[1, 1], 7⟩, b, 0) ∧ chkE exD exL ⟨[1, 1], 7⟩ b = true := by
 have hs : srcE exD exL = (some [1, 1], 7) := by kernel_rfl
 have hv : zce exD exL = true := by kernel_rfl
 have h1 : shE exD exL (zcs exL) = -1 := by kernel_rfl
 have h2 : prodF exL exL.length = 9 := by kernel_rfl
 obtain ⟨c, b, g1, g2, g3⟩ := bstR_good (lim := 100) hv xf xf (by rw [h1]; decide) (by rw [h2]; decide) (by rw [h2]; decide)
 rw [hs] at g1 g2 g3
 cases g1
 exact ⟨b, g2, g3⟩
set_option maxHeartbeats 2000000 in
theorem awake54 : Pure P 4 [] (eB true) := by
 obtain ⟨b, hb1, hb2⟩ := ex_best
 have hbest := best_pf (P := P) exD exL 100
 rw [hb1] at hbest
 have hc1 := check_pf (P := P) exD exL ⟨[1, 1], 7⟩ b
 rw [hb2] at hc1
 obtain ⟨s1, t1, L1, y1⟩ := b
 have e3 : eR3 (⟨[1, 1], 7⟩, .mk s1 t1 L1 y1, 0) = .tup [ePl ⟨[1, 1], 7⟩, .agg [eI s1, eI t1, eL eBr L1, eL eF y1], eI 0] := by unfold eR3; rw [zdk]
 rw [e3] at hbest
 have hlb : Lo 0 (.ref [eI s1, eI t1, eL eBr L1, eL eF y1]) := by have := lo_Br (.mk s1 t1 L1 y1); rw [zdk] at this; exact .ref _ this.cells
 rw [zdk] at hc1
 have hc2 := chk_ex (P := P) exY2 chk2
 refine zcl (by rw [IsP.eq (P := P)]; exact Tryz.func4) rfl rfl rfl rfl rfl (zak) (.s _) (by simp only [argF]; rfl) ?_
 refine zag (zab (zac rfl (zad (zag (zab (zaf rfl rfl (zaa rfl) (does_lit rfl ts22 ti3 rfl rfl xf xf xf rfl rfl) ?_))))))
 refine za6 (zbm (id := 0) rfl) (za6 (wk_sl (d := 7) rfl rfl xk) ?_)
 refine zac rfl (zad (zag (zab (zaf rfl rfl (zaa rfl) (does_lit rfl ts22 ti3 rfl rfl xf xf xf rfl rfl) ?_))))
 refine za6 (zbm (id := 1) rfl) (za6 (wk_sl (d := 8) rfl rfl xk) ?_)
 refine zaf rfl rfl (zaa rfl) (za9 rfl ti43 tp43 rfl rfl) (zaf rfl rfl (zaa rfl) (does_lit rfl ts22 ti3 rfl rfl xf xf xf rfl rfl) ?_)
 refine za6 (zbm (id := 2) rfl) (za6 (wk_sl (d := 10) rfl rfl xk) ?_)
 refine zaf rfl rfl (zaa rfl) (za9 rfl ti43 tp43 rfl rfl) (zaf rfl rfl (zaa rfl) (does_lit rfl ts23 ti43 rfl rfl xf xf xf rfl rfl) ?_)
 refine za6 (zbm (id := 3) rfl) (za6 (wk_sl (d := 12) rfl rfl xk) ?_)
 refine zac rfl (zad (zag ?_))
 refine zbg (F' := [(1, eL eI exD), (2, eL eSh exL)]) (σ' := []) (zb8 [] xf trivial ⟨.lo _ (show Lo 0 (eL eI exD) from zan fun _ => .s _), .lo _ (show Lo 0 (eL eSh exL) from zan lo_Sh), trivial⟩) ?_
 refine zab (zac rfl (zac rfl (zaf rfl rfl (zaa rfl) (zam rfl rfl (hbest) (zae rfl (zae rfl (zae rfl zap)))) (zac rfl (zac rfl (zac rfl (zac rfl (zaf rfl rfl (zaa rfl) (za1 rfl ti28 rfl rfl) (zaf rfl rfl (zaa rfl) (za1 rfl ti32 rfl rfl) (zba rfl (zaa rfl) (zaj rfl ti28 rfl rfl rfl rfl rfl rfl xf xf) (zba rfl (zaa rfl) (zaj rfl ti32 rfl rfl rfl rfl rfl rfl xf xf) (zac rfl (zad (zag ?_))))))))))))))
 refine zbg (zbm (id := 0) rfl) ?_
 refine zbg (zcb (d := 3) rfl rfl rfl) ?_
 refine zbg (zbm (id := 1) rfl) ?_
 refine zbg (zcb (d := 4) rfl rfl rfl) ?_
 refine zab (zaf rfl rfl (zaa rfl) (za9 rfl ti45 tp45 rfl rfl) (zaf rfl rfl (zaa rfl) (za9 rfl ti45 tp45 rfl rfl) (zaf rfl rfl (zaa rfl) (za9 rfl ti45 tp45 rfl rfl) (zaf rfl rfl (zaa rfl) (does_lit rfl ts30 ti45 rfl rfl xf xf xf rfl rfl) ?_))))
 refine za6 (zbm (id := 2) rfl) (za6 (wk_sl (d := 23) rfl rfl xk) ?_)
 refine zac rfl (zad (zag ?_))
 refine zbg (F' := [(1, eL eI exD), (2, eL eSh exL), (3, .ref (ePl ⟨[1, 1], 7⟩).cells), (4, .ref [eI s1, eI t1, eL eBr L1, eL eF y1]), (5, eI 0), (6, eL eF exY2)]) (σ' := []) (zb8 [] xf trivial ⟨.lo _ (show Lo 0 (eL eI exD) from zan fun _ => .s _), .lo _ (show Lo 0 (eL eSh exL) from zan lo_Sh), .lo _ xc, .lo _ hlb, .lo _ (.s _), .lo _ (show Lo 0 (eL eF exY2) from lo_Fs _), trivial⟩) ?_
 refine zab (zac rfl (zaf rfl rfl (zaa rfl) (zdc rfl (zbn rfl rfl rfl)) (zac rfl (zbz tf28_0 rfl (zbu ta22 rfl (zaf rfl rfl (zat rfl rfl rfl) (does_lit rfl ts22 ti3 rfl rfl xf xf xf rfl rfl) ?_))))))
 refine za6 (zbm (id := 0) rfl) (za6 (wk_sl (d := 29) rfl rfl xk) ?_)
 refine zaf rfl rfl (zat rfl rfl rfl) (zam rfl rfl ((equalSelf_pf [1, 1])) (zae rfl (zae rfl zap))) (zac rfl (zac rfl (zbz tf28_1 rfl (zbu ta3 rfl (zaf rfl rfl (zat rfl rfl rfl) (zdc rfl (zbn rfl rfl rfl)) (zac rfl (zac rfl (zac rfl (zac rfl (zcx ta28 ti28 rfl (zcx ta32 ti32 rfl (zaf rfl rfl (zat rfl rfl rfl) (zam rfl rfl (hc1) (zae rfl (zae rfl (zae rfl (zae rfl zap))))) (zac rfl (zac rfl (zac rfl (zac rfl (zcx ta28 ti28 rfl (zac rfl (zaf rfl rfl (zat rfl rfl rfl) (za9 rfl ti32 tp32 rfl rfl) ?_)))))))))))))))))))
 refine zaf rfl rfl (zat rfl rfl rfl) (does_callb rfl rfl hc2 (zbd.cons (.refl _) (zbd.cons (.refl _) (zbd.cons (.refl _) (zbd.cons (.agg _ _ rfl (zbd.cons (.refl _) (zbd.cons (.refl _) (zbd.cons .nil (zbd.cons (.refl _) zbd.nil)))).2) zbd.nil)))) xm) ?_
 refine zac rfl (zac rfl (zad (zai ?_)))
 (refine za7 ?_; repeat (first | refine zbc ?_ | refine zbe ?_))
 exact zb6 (.inr rfl) rfl rfl
end Go.Proofs.YtllkbjcemecmjaaGreat.Aw
end
section
namespace Go.Proofs.YtllkbjcemecmjaaGreat.Aw
open Go.RowKit Go.Proofs
variable {P : Program} [IsP P]
set_option maxHeartbeats 4000000 in
theorem rBound_pf (d : List Int) (l : List Sft) (lo hi : List Int) (y : List Fr) (hv : zce d l = true) (hy : y.length = d.length) (hlo : lo.length = l.length) (hhi : hi.length = l.length) : Pure P 40 [eL eI d, eL eSh l, eL eI lo, eL eI hi, eL eF y] (eFB (bdE d l lo hi y)) := by
 obtain ⟨⟨q1, q2, q3⟩, qd, ql⟩ := zb4 hv
 have HI : bdE d l lo hi y = if (dotE (d.map Fr.of) y).e ≠ 0 then (⟨0, 0⟩, false) else bdG l lo hi y l.length 0 ⟨(dotE (d.map Fr.of) y).n, (dotE (d.map Fr.of) y).d⟩ := rfl
 generalize bdE d l lo hi y = R at HI ⊢
 refine zcl (by rw [IsP.eq (P := P)]; exact Tryz.func40) rfl rfl rfl rfl rfl xa xc (by simp only [argF]; rfl) ?_
 refine zag (zab (zaf rfl rfl (zaa rfl) (za1 rfl ti45 rfl rfl) (zac rfl (zad (zag (zab (zac rfl (zad (zag (zag (zab (zac rfl (zad (zai (zas ?_)))))))))))))))
 refine zbg (wk_own (d := 12) 2 rfl (.inr rfl)) ?_
 refine zb1 (S := Nat) (fun k => [(0, eL eI d), (1, eL eSh l), (2, eL eI lo), (3, eL eI hi), (4, eL eF y), (10, .ptr 0 2 0 0), (12, .own 1 2 k), (13, eI k)]) (fun k => [.row 2 [.agg [eI 0, eI 0]], .row 2 (((d.map Fr.of).take k).map eF)]) (fun k => k ≤ d.length) (fun k => d.length - k) 0 (zb8 [0, 1] xf ⟨⟨_, rfl, .rowE xb rfl⟩, ⟨_, rfl, .rowE (zaz) rfl⟩, trivial⟩ ⟨.lo _ (zan fun _ => .s _), .lo _ xa, .lo _ (zan fun _ => .s _), .lo _ (zan fun _ => .s _), .lo _ xa, .ptr 0 0 2 0 0 rfl, .own 1 1 2 _ _ rfl rfl, .lo _ (.s _), trivial⟩) (Nat.zero_le _) (fun k hk => ?_)
 have hol : (d.map Fr.of).length = d.length := by simp
 refine zag (zag (zab (zac rfl (zac rfl (zaf rfl rfl (zaa rfl) (zao rfl ts22 rfl) ?_)))))
 refine za3 rfl rfl (zaa rfl) (za2 rfl rfl rfl) (fun h27 => ?_) (fun h27 => ?_)
 all_goals refine zad (zai ?_)
 all_goals (first | refine za5 rfl ?_ | refine zau rfl ?_)
 all_goals (repeat (first | refine zag ?_ | refine zar ?_ | refine zas ?_))
 ·
  have hlt : k < d.length := by omega
  have htk : (((d.map Fr.of).take k).map eF).length = k := by simp; omega
  have hrow : ((d.map Fr.of).take (k + 1)).map eF = ((d.map Fr.of).take k).map eF ++ [eF (Fr.of (gti d k))] := by
   rw [zcq xd, List.map_append, ofL_gti hlt]; rfl
  refine zab (zac rfl (zac rfl (zac rfl (zaf rfl rfl (zaa rfl) (zal rfl ts22 ti3 rfl rfl rfl (zbb xd) rfl) (zbu ta3 rfl (zaf rfl rfl (zaa rfl) (zam rfl rfl (rOf_pf _) (zae rfl zap)) (zaf rfl rfl (zaa rfl) (zco rfl ts30 ti45 rfl rfl xf xf rfl rfl rfl (.agg _ (zah (.s _) (zah (.s _) zak)))) ?_)))))))
  refine zaf rfl rfl (zaa rfl) (zbq rfl ts30 ti45 rfl xf rfl rfl xk rfl xe xg xg) ?_
  refine zac rfl (zad (zbl (zai (zab (zac rfl (zaf rfl rfl (zaa rfl) (zax rfl rfl rfl (IntWalk.i64_in _ xd)) (zac rfl (zad (zai ?_)))))))))
  exact ⟨k + 1, by omega, by omega, zb8 [0, 2] xf ⟨⟨_, rfl, .rowE xb rfl⟩, ⟨_, rfl, .rowE xb (Eq.trans (b := ((d.map Fr.of).take k).map eF ++ [eF (Fr.of (gti d k))]) rfl hrow.symm)⟩, trivial⟩ ⟨.lo _ (zan fun _ => .s _), .lo _ xa, .lo _ (zan fun _ => .s _), .lo _ (zan fun _ => .s _), .lo _ xa, .ptr 0 0 2 0 0 rfl, .own 2 1 2 _ _ rfl (by simp; omega), .lo _ (.s _), trivial⟩⟩
 (refine zb9 ?_; repeat (first | refine zcr ?_ | refine zbt ?_ | refine zbk rfl ?_ | refine zbl ?_ | refine zai ?_ | refine zag ?_ | refine zar ?_ | refine zas ?_))
 have e : (d.map Fr.of).take k = d.map Fr.of := List.take_of_length_le xd
 rw [e]
 have hdot := rDot_pf (P := P) (d.map Fr.of) y
 generalize dotE (d.map Fr.of) y = dt at HI hdot
 refine zab (zac rfl ?_)
 refine za6 (zbm (id := 1) rfl) (za6 (wk_sl (d := 39) rfl rfl xk) ?_)
 refine zac rfl (zaf rfl rfl (zaa rfl) (zam rfl rfl (hdot) (zae rfl (zae rfl zap))) (zac rfl (zac rfl (zac rfl (zaf rfl rfl (zaa rfl) (za1 rfl ti45 rfl rfl) (zba rfl (zaa rfl) (zaj rfl ti45 rfl rfl rfl rfl rfl rfl xf xf) (zac rfl (zad (zag (zag (zab (zac rfl ?_))))))))))))
 refine za3 rfl rfl (zaa rfl) (zbp rfl rfl rfl) (fun h45 => ?_) (fun h45 => ?_)
 all_goals refine zad (zai ?_)
 all_goals (first | refine za5 rfl ?_ | refine zau rfl ?_)
 all_goals (repeat (first | refine zag ?_ | refine zar ?_))
 ·
  rw [if_pos xd] at HI
  refine zab (zaf rfl rfl (zaa rfl) (za9 rfl ti45 tp45 rfl rfl) (zba rfl (zaa rfl) (zaj rfl ti45 rfl rfl rfl rfl rfl rfl xf xf) (zac rfl (zad (zai ?_)))))
  (refine za7 ?_; repeat (first | refine zbc ?_ | refine zbe ?_))
  exact zdf (.inr rfl) ta45 ti45 rfl rfl rfl rfl rfl rfl (by rw [HI]; rfl)
 rw [if_neg xd] at HI
 refine zab (zac rfl (zad (zai (zas ?_))))
 refine zb1 (S := Fr × Nat) (fun s => [(1, eL eSh l), (2, eL eI lo), (3, eL eI hi), (4, eL eF y), (10, .ptr 0 2 0 0), (14, .ptr 1 2 0 0), (16, eI s.2)]) (fun s => [.row 2 [.agg [eI 0, eI 0]], .row 2 [eF s.1]]) (fun s => s.2 ≤ l.length ∧ R = bdG l lo hi y (l.length - s.2) s.2 s.1) (fun s => l.length - s.2) (⟨dt.n, dt.d⟩, 0) (zb8 [0, 2] xf ⟨⟨_, rfl, .rowE xb rfl⟩, ⟨_, rfl, .rowE xb rfl⟩, trivial⟩ ⟨.lo _ xa, .lo _ (zan fun _ => .s _), .lo _ (zan fun _ => .s _), .lo _ xa, .ptr 0 0 2 0 0 rfl, .ptr 2 1 2 0 0 rfl, .lo _ (.s _), trivial⟩) ⟨Nat.zero_le _, HI⟩ (fun s hs => ?_)
 obtain ⟨sm, i⟩ := s
 obtain ⟨hi1, HJ⟩ := hs
 dsimp only at hi1 HJ ⊢
 clear HI hdot e
 refine zag (zag (zab (zac rfl (zac rfl (zaf rfl rfl (zaa rfl) (zao rfl ts23 rfl) ?_)))))
 refine za3 rfl rfl (zaa rfl) (za2 rfl rfl rfl) (fun h50 => ?_) (fun h50 => ?_)
 all_goals refine zad (zai ?_)
 all_goals (first | refine za5 rfl ?_ | refine zau rfl ?_)
 all_goals (repeat (first | refine zag ?_ | refine zar ?_ | refine zas ?_))
 ·
  have hlt : i < l.length := by omega
  rw [show l.length - i = (l.length - (i + 1)) + 1 by omega, bdG] at HJ
  obtain ⟨sf, hsf⟩ : ∃ sf, gti l i = sf := ⟨_, rfl⟩
  have hix : (l.map eSh)[i]? = some (eSh sf) := by rw [← hsf]; exact zbb hlt
  have hsl := (ql i hlt).2
  rw [hsf] at hsl HJ
  refine zab (zac rfl (zac rfl (zaf rfl rfl (zaa rfl) (zal rfl ts23 ti43 rfl rfl rfl hix rfl) (zbz tf43_1 rfl (zbu ta3 rfl (zaf rfl rfl (zaa rfl) (zam rfl rfl (rOf_pf _) (zae rfl zap)) (zaf rfl rfl (zaa rfl) (za1 rfl ti45 rfl rfl) (zba rfl (zaa rfl) (zaj rfl ti45 rfl rfl rfl rfl rfl rfl xf xf) (zad (zag (zag (zab (zac rfl (zad (zai (zas ?_))))))))))))))))
  obtain ⟨pe, hpe⟩ : ∃ pe, pe = prE y sf := ⟨_, rfl⟩
  rw [← hpe] at HJ
  have HK : pe = prG y sf.pd sf.pd.length 0 (Fr.of sf.cost) := hpe
  clear hpe
  refine zb1 (S := Fr × Nat) (fun s => [(1, eL eSh l), (2, eL eI lo), (3, eL eI hi), (4, eL eF y), (10, .ptr 0 2 0 0), (14, .ptr 1 2 0 0), (16, eI i), (17, .ptr 2 2 0 0), (18, eI s.2)]) (fun s => [.row 2 [.agg [eI 0, eI 0]], .row 2 [eF sm], .row 2 [eF s.1]]) (fun s => s.2 ≤ sf.pd.length ∧ pe = prG y sf.pd (sf.pd.length - s.2) s.2 s.1) (fun s => sf.pd.length - s.2) (Fr.of sf.cost, 0) (zb8 [0, 1, 2] xf ⟨⟨_, rfl, .rowE xb rfl⟩, ⟨_, rfl, .rowE xb rfl⟩, ⟨_, rfl, .rowE xb rfl⟩, trivial⟩ ⟨.lo _ xa, .lo _ (zan fun _ => .s _), .lo _ (zan fun _ => .s _), .lo _ xa, .ptr 0 0 2 0 0 rfl, .ptr 1 1 2 0 0 rfl, .lo _ (.s _), .ptr 2 2 2 0 0 rfl, .lo _ (.s _), trivial⟩) ⟨Nat.zero_le _, HK⟩ (fun s hs => ?_)
  obtain ⟨pr, j⟩ := s
  obtain ⟨hj, HK⟩ := hs
  dsimp only at hj HK ⊢
  refine zag (zag (zab (zac rfl (zac rfl (zac rfl (zaf rfl rfl (zaa rfl) (zal rfl ts23 ti43 rfl rfl rfl hix rfl) (zbz tf43_0 rfl (zbu ta22 rfl (zaf rfl rfl (zaa rfl) (zao rfl ts22 rfl) (zaf rfl rfl (zaa rfl) (za2 rfl rfl rfl) (zad (zai ?_))))))))))))
  refine zda (d := 64) rfl (fun hm3 => ?_)
  unfold maxLen at hm3
  refine aw_if rfl (fun h => ?_) (fun h => ?_)
  ·
   refine zar (zag (zas (zag ?_)))
   have hlt2 : j < sf.pd.length := by omega
   obtain ⟨g1, g2, g3⟩ := hsl j hlt2
   obtain ⟨p, hp⟩ : ∃ p : Nat, gti sf.pd j = (p : Int) := ⟨(gti sf.pd j).toNat, by omega⟩
   have hpy : p < y.length := by omega
   rw [show sf.pd.length - j = (sf.pd.length - (j + 1)) + 1 by omega, prG, hp, Int.toNat_natCast] at HK
   have hsub := rSub_pf (P := P) pr (gti y p)
   generalize subE pr (gti y p) = x at HK hsub
   refine zb2 hmix ?_
   refine zc1 ?_
   refine zbv rfl rfl (zaa rfl) (zdq rfl ta45 ti45 rfl rfl rfl rfl rfl) (ex_s rfl (ex_s rfl (ex_s rfl (zay rfl rfl (zaa rfl) (fun _ => (zal rfl ts23 ti43 rfl rfl rfl hix rfl)) (ex_f tf43_0 rfl (ex_l ta22 rfl (ex_s rfl (zay rfl rfl (zaa rfl) (fun _ => (zal rfl ts22 ti3 rfl rfl rfl (zbb hlt2) rfl)) (ex_l ta3 rfl (zay rfl rfl (zaa rfl) (fun _ => (zal rfl ts30 ti45 rfl rfl hp (zbb hpy) rfl)) (ex_w ta45 ti45 rfl (zay rfl rfl (zaa rfl) (fun _ => (zam rfl rfl (hsub) (zae rfl (zae rfl zap)))) ?_))))))))))))
   refine ex_s rfl (ex_s rfl (ex_s rfl ?_))
   refine zc9 rfl rfl (zaa rfl) (za1 rfl ti45 rfl rfl) (fun _ h => zdo h) ?_
   refine zci rfl (zaa rfl) (zaj rfl ti45 rfl rfl rfl rfl rfl rfl xf xf) (fun _ h => zbw h) ?_
   refine ex_s rfl ?_
   refine zcf xi ?_
   refine zag (zag (zab (zac rfl ?_)))
   refine za3 rfl rfl (zaa rfl) (zbp rfl rfl rfl) (fun h86 => ?_) (fun h86 => ?_)
   all_goals refine zad (zai ?_)
   all_goals (first | refine za5 rfl ?_ | refine zau rfl ?_)
   all_goals (repeat (first | refine zag ?_ | refine zai ?_ | refine zar ?_))
   ·
    rw [if_pos xd] at HK
    subst HK
    rw [if_pos (by show x.e ≠ 0; omega)] at HJ
    refine zab (zaf rfl rfl (zaa rfl) (za9 rfl ti45 tp45 rfl rfl) (zba rfl (zaa rfl) (zaj rfl ti45 rfl rfl rfl rfl rfl rfl xf xf) (zac rfl (zad (zai ?_)))))
    (refine za7 ?_; repeat (first | refine zbc ?_ | refine zbe ?_))
    exact zdf (.inr rfl) ta45 ti45 rfl rfl rfl rfl rfl rfl (by rw [HJ]; rfl)
   ·
    rw [if_neg xd] at HK
    refine zab (zaf rfl rfl (zaa rfl) (za8 rfl ta45 ti45 rfl rfl rfl rfl rfl) (zba rfl (zaa rfl) (zaj rfl ti45 rfl rfl rfl rfl rfl rfl xf xf) (zad (zbl (zai (zab (zac rfl (zaf rfl rfl (zaa rfl) (zax rfl rfl rfl (IntWalk.i64_in _ xd)) (zac rfl (zad (zai ?_)))))))))))
    exact ⟨(⟨x.n, x.d⟩, j + 1), ⟨by dsimp only; omega, HK⟩, by dsimp only; omega, zb8 [0, 1, 2] xf ⟨⟨_, rfl, .rowE xb rfl⟩, ⟨_, rfl, .rowE xb rfl⟩, ⟨_, rfl, .rowE xb rfl⟩, trivial⟩ ⟨.lo _ xa, .lo _ (zan fun _ => .s _), .lo _ (zan fun _ => .s _), .lo _ xa, .ptr 0 0 2 0 0 rfl, .ptr 1 1 2 0 0 rfl, .lo _ (.s _), .ptr 2 2 2 0 0 rfl, .lo _ (.s _), trivial⟩⟩
  ·
   rw [show sf.pd.length - j = 0 by omega, prG] at HK
   subst HK
   rw [if_neg xo] at HJ
   dsimp only at HJ
   obtain ⟨ch, hch⟩ : ∃ ch, gti hi i = ch := ⟨_, rfl⟩
   obtain ⟨cl, hcl⟩ : ∃ cl, gti lo i = cl := ⟨_, rfl⟩
   have hixh : (hi.map eI)[i]? = some (eI ch) := by rw [← hch]; exact zbb xd
   have hixl : (lo.map eI)[i]? = some (eI cl) := by rw [← hcl]; exact zbb xd
   rw [hch, hcl] at HJ
   obtain ⟨CH, hCH⟩ : ∃ CH, CH = if pr.n < 0 then ch else cl := ⟨_, rfl⟩
   rw [← hCH] at HJ
   clear hch hcl
   (refine zb9 ?_; repeat (first | refine zcr ?_ | refine zbt ?_ | refine zbk rfl ?_ | refine zbl ?_ | refine zai ?_ | refine zag ?_ | refine zar ?_ | refine zas ?_))
   refine zab (zac rfl (zac rfl (zaf rfl rfl (zaa rfl) (zal rfl ts22 ti3 rfl rfl rfl hixl rfl) (zbu ta3 rfl (zac rfl (zad (zag (zag (zab (zbz tf45_0 rfl (zaf rfl rfl (zaa rfl) (zaq rfl ta3 rfl rfl rfl rfl rfl) ?_)))))))))))
   refine za3 rfl rfl (zaa rfl) (za2 rfl rfl rfl) (fun h95 => ?_) (fun h95 => ?_)
   all_goals refine zad (zai ?_)
   all_goals (first | refine za5 rfl ?_ | refine zau rfl ?_)
   all_goals (repeat (first | refine zag ?_ | refine zar ?_))
   all_goals first
    |
     refine zab (zac rfl (zac rfl (zaf rfl rfl (zaa rfl) (zal rfl ts22 ti3 rfl rfl rfl hixh rfl) (zbu ta3 rfl (zac rfl (zad (zag ?_)))))))
     rw [if_pos xd] at hCH
     subst hCH
    |
     rw [if_neg xd] at hCH
     subst hCH
   all_goals have hmul := rMul_pf (P := P) pr (Fr.of CH)
   all_goals generalize mulE pr (Fr.of CH) = x at HJ hmul
   all_goals all_goals refine zb2 hmix ?_
   all_goals all_goals refine zc1 ?_
   all_goals (all_goals (first | refine zay rfl rfl (zaa rfl) (fun _ => (zck rfl ta45 ti45 rfl rfl)) ?_ | refine zbv rfl rfl (zaa rfl) (zdq rfl ta45 ti45 rfl rfl rfl rfl rfl) ?_ | refine zay rfl rfl (zaa rfl) (fun _ => (does_load_refs rfl ta45 ti45 rfl (Nat.le_of_ble_eq_true rfl))) ?_ | refine zbv rfl rfl (zaa rfl) (look_ptrs rfl ta45 ti45 rfl rfl rfl rfl (Nat.le_of_ble_eq_true rfl)) ?_))
   all_goals all_goals refine zay rfl rfl (zaa rfl) (fun _ => (mv_s (.inl rfl) rfl)) ?_
   all_goals all_goals refine zay rfl rfl (zaa rfl) (fun _ => (zam rfl rfl (rOf_pf _) (zae rfl zap))) ?_
   all_goals all_goals refine zay rfl rfl (zaa rfl) (fun _ => (zam rfl rfl (hmul) (zae rfl (zae rfl zap)))) ?_
   all_goals (all_goals (first | refine zay rfl rfl (zaa rfl) (fun _ => (mv_tup (.inl rfl) rfl)) ?_ | refine zay rfl rfl (zaa rfl) (fun _ => (mv_s (.inl rfl) rfl)) ?_))
   all_goals all_goals refine zay rfl rfl (zaa rfl) (fun _ => (zcz rfl rfl rfl)) ?_
   all_goals all_goals refine zay rfl rfl (zaa rfl) (fun _ => (zcz rfl rfl rfl)) ?_
   all_goals all_goals refine zc9 rfl rfl (zaa rfl) (za1 rfl ti45 rfl rfl) (fun _ h => zdo h) ?_
   all_goals all_goals refine zci rfl (zaa rfl) (zaj rfl ti45 rfl rfl rfl rfl rfl rfl xf xf) (fun _ h => zbw h) ?_
   all_goals all_goals refine zay rfl rfl (zaa rfl) (fun _ => (mv_s (.inr rfl) rfl)) ?_
   all_goals all_goals refine zcf xi ?_
   all_goals (all_goals (repeat (first | refine zag ?_ | refine zai ?_ | refine zar ?_ | refine zbl ?_ | refine zas ?_)))
   all_goals all_goals refine zab ?_
   all_goals all_goals refine zaf rfl rfl (zaa rfl) (mv_s (.inl rfl) rfl) ?_
   all_goals (all_goals (first | refine za3 rfl rfl (zaa rfl) (zbn rfl rfl rfl) (fun h108 => ?_) (fun h108 => ?_) | refine zcn rfl rfl (zaa rfl) (zbn rfl rfl rfl) (fun h108 => ?_) (fun h108 => ?_)))
   all_goals all_goals refine zad ?_
   all_goals (all_goals (repeat (first | refine zag ?_ | refine zai ?_ | refine zar ?_ | refine zbl ?_ | refine zas ?_)))
   all_goals (all_goals (first | refine za5 rfl ?_ | refine zau rfl ?_))
   all_goals (all_goals (repeat (first | refine zag ?_ | refine zai ?_ | refine zar ?_ | refine zbl ?_ | refine zas ?_)))
   all_goals first
    |
     rw [if_pos xd] at HJ
     refine zab (zac rfl (zaf rfl rfl (zaa rfl) (zdc xd (zbp rfl rfl rfl)) (zad (zai (za5 rfl (zag (zab (zaf rfl rfl (zaa rfl) (za9 rfl ti45 tp45 rfl rfl) (zba rfl (zaa rfl) (zaj rfl ti45 rfl rfl rfl rfl rfl rfl xf xf) (zac rfl (zad (zai ?_))))))))))))
     (refine za7 ?_; repeat (first | refine zbc ?_ | refine zbe ?_))
     exact zdf (.inr rfl) ta45 ti45 rfl rfl rfl rfl rfl rfl (by rw [HJ]; rfl)
    |
     rw [if_neg xd] at HJ
   all_goals have hadd := rAdd_pf (P := P) sm ⟨x.n, x.d⟩
   all_goals generalize addE sm ⟨x.n, x.d⟩ = t at HJ hadd
   all_goals all_goals refine zab ?_
   all_goals (all_goals (first | refine zaf rfl rfl (zaa rfl) (zck rfl ta45 ti45 rfl rfl) ?_ | refine zaf rfl rfl (zaa rfl) (za8 rfl ta45 ti45 rfl rfl rfl rfl rfl) ?_ | refine zaf rfl rfl (zaa rfl) (does_load_refs rfl ta45 ti45 rfl (Nat.le_of_ble_eq_true rfl)) ?_ | refine zaf rfl rfl (zaa rfl) (does_load_ptrs rfl ta45 ti45 rfl rfl rfl rfl (Nat.le_of_ble_eq_true rfl)) ?_))
   all_goals (all_goals (first | refine zaf rfl rfl (zaa rfl) (zck rfl ta45 ti45 rfl rfl) ?_ | refine zaf rfl rfl (zaa rfl) (za8 rfl ta45 ti45 rfl rfl rfl rfl rfl) ?_ | refine zaf rfl rfl (zaa rfl) (does_load_refs rfl ta45 ti45 rfl (Nat.le_of_ble_eq_true rfl)) ?_ | refine zaf rfl rfl (zaa rfl) (does_load_ptrs rfl ta45 ti45 rfl rfl rfl rfl (Nat.le_of_ble_eq_true rfl)) ?_))
   all_goals all_goals refine zaf rfl rfl (zaa rfl) (zam rfl rfl (hadd) (zae rfl (zae rfl zap))) ?_
   all_goals (all_goals (first | refine zaf rfl rfl (zaa rfl) (mv_tup (.inl rfl) rfl) ?_ | refine zaf rfl rfl (zaa rfl) (mv_s (.inl rfl) rfl) ?_))
   all_goals all_goals refine zaf rfl rfl (zaa rfl) (zcz rfl rfl rfl) ?_
   all_goals all_goals refine zaf rfl rfl (zaa rfl) (zcz rfl rfl rfl) ?_
   all_goals all_goals refine zba rfl (zaa rfl) (zaj rfl ti45 rfl rfl rfl rfl rfl rfl xf xf) ?_
   all_goals all_goals refine zaf rfl rfl (zaa rfl) (mv_s (.inr rfl) rfl) ?_
   all_goals all_goals refine zad ?_
   all_goals (all_goals (repeat (first | refine zag ?_ | refine zai ?_ | refine zar ?_ | refine zbl ?_ | refine zas ?_)))
   all_goals all_goals refine zab ?_
   all_goals all_goals refine zaf rfl rfl (zaa rfl) (mv_s (.inl rfl) rfl) ?_
   all_goals (all_goals (first | refine za3 rfl rfl (zaa rfl) (zbp rfl rfl rfl) (fun h116 => ?_) (fun h116 => ?_) | refine zcn rfl rfl (zaa rfl) (zbp rfl rfl rfl) (fun h116 => ?_) (fun h116 => ?_)))
   all_goals all_goals refine zad ?_
   all_goals (all_goals (repeat (first | refine zag ?_ | refine zai ?_ | refine zar ?_ | refine zbl ?_ | refine zas ?_)))
   all_goals (all_goals (first | refine za5 rfl ?_ | refine zau rfl ?_))
   all_goals (all_goals (repeat (first | refine zag ?_ | refine zai ?_ | refine zar ?_ | refine zbl ?_ | refine zas ?_)))
   all_goals first
    |
     rw [if_pos xd] at HJ
     refine zab (zaf rfl rfl (zaa rfl) (za9 rfl ti45 tp45 rfl rfl) (zba rfl (zaa rfl) (zaj rfl ti45 rfl rfl rfl rfl rfl rfl xf xf) (zac rfl (zad (zai ?_)))))
     (refine za7 ?_; repeat (first | refine zbc ?_ | refine zbe ?_))
     exact zdf (.inr rfl) ta45 ti45 rfl rfl rfl rfl rfl rfl (by rw [HJ]; rfl)
    |
     rw [if_neg xd] at HJ
     refine zab (zaf rfl rfl (zaa rfl) (za8 rfl ta45 ti45 rfl rfl rfl rfl rfl) (zba rfl (zaa rfl) (zaj rfl ti45 rfl rfl rfl rfl rfl rfl xf xf) (zad (zbl (zai (zab (zac rfl (zaf rfl rfl (zaa rfl) (zax rfl rfl rfl (IntWalk.i64_in _ xd)) (zac rfl (zad (zai ?_)))))))))))
     exact ⟨(⟨t.n, t.d⟩, i + 1), ⟨by dsimp only; omega, HJ⟩, by dsimp only; omega, zb8 [0, 1] xf ⟨⟨_, rfl, .rowE xb rfl⟩, ⟨_, rfl, .rowE xb rfl⟩, trivial⟩ ⟨.lo _ xa, .lo _ (zan fun _ => .s _), .lo _ (zan fun _ => .s _), .lo _ xa, .ptr 0 0 2 0 0 rfl, .ptr 1 1 2 0 0 rfl, .lo _ (.s _), trivial⟩⟩
 ·
  rw [show l.length - i = 0 by omega, bdG] at HJ
  (refine zb9 ?_; repeat (first | refine zcr ?_ | refine zbt ?_ | refine zbk rfl ?_ | refine zbl ?_ | refine zai ?_ | refine zag ?_ | refine zar ?_ | refine zas ?_))
  refine zab (zaf rfl rfl (zaa rfl) (za8 rfl ta45 ti45 rfl rfl rfl rfl rfl) (zba rfl (zaa rfl) (zaj rfl ti45 rfl rfl rfl rfl rfl rfl xf xf) (zac rfl (zad (zai ?_)))))
  (refine za7 ?_; repeat (first | refine zbc ?_ | refine zbe ?_))
  exact zdf (.inr rfl) ta45 ti45 rfl rfl rfl rfl rfl rfl (by rw [HJ]; rfl)
end Go.Proofs.YtllkbjcemecmjaaGreat.Aw
end
