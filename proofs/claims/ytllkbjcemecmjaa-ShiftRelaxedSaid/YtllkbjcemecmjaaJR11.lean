import Derived.Test.YtllkbjcemecmjaaJR10
import Derived.Test.YtllkbjcemecmjaaJR6
set_option linter.unusedSimpArgs false
set_option linter.unusedVariables false
set_option linter.unusedSectionVars false
section
namespace Go.Proofs.Ytllkbjcemecmjaa.Aw
open Go Go.RowKit Go.Proofs
variable {P : Program} [IsP P]
noncomputable def runC (vars : Nat) (t : Tb) : Tb × Int := open Classical in if h : ∃ r, ∃ f, runE vars f t = some r then Classical.choose h else (t, -1)
theorem runC_of {vars : Nat} {t : Tb} (h : ∃ f r, runE vars f t = some r) : ∃ f, runE vars f t = some (runC vars t) := by
 have h' : ∃ r, ∃ f, runE vars f t = some r := by obtain ⟨f, r, h⟩ := h; exact ⟨r, f, h⟩
 unfold runC
 rw [dif_pos h']
 exact Classical.choose_spec h'
theorem prcF_last : ∀ (f i : Nat) (t : Tb), (prcF f i t).last = t.last
 | 0, _, _ => rfl
 | f + 1, i, t => by
  unfold prcF
  split
  ·
   rfl
  ·
   dsimp only
   split
   ·
    exact prcF_last f (i + 1) t
   ·
    exact prcF_last f (i + 1) _
theorem prcE_last (c : List Fr) (t : Tb) : (prcE c t).last = t.last := prcF_last _ _ _
theorem runE_e {vars : Nat} {f : Nat} {t t' : Tb} {k : Int} (h : runE vars f t = some (t', k)) (he : t'.e = 0) : t.e = 0 := by
 refine Classical.byContradiction fun hne => ?_
 cases f with
 | zero => cases h
 | succ f =>
  unfold runE at h
  rw [show runS vars t = .inl (t, -1) by unfold runS; rw [if_pos hne]] at h
  cases h
  exact hne he
theorem runE_k {vars : Nat} : ∀ {f : Nat} {t t' : Tb} {k : Int}, runE vars f t = some (t', k) → 0 ≤ k → k < vars
 | 0, _, _, _, h, _ => by cases h
 | f + 1, t, t', k, h, hk => by
  unfold runE at h
  cases hr : runS vars t with
  | inr t1 => rw [hr] at h; exact runE_k (f := f) h hk
  | inl r =>
   rw [hr] at h
   cases h
   unfold runS at hr
   by_cases h0 : t.e ≠ 0
   ·
    rw [if_pos h0] at hr; cases hr; omega
   rw [if_neg h0] at hr
   dsimp only at hr
   split at hr
   ·
    cases hr; omega
   ·
    split at hr
    ·
     cases hr; omega
    ·
     split at hr
     ·
      rename_i h1 _ _
      obtain ⟨q, e1, e2, _⟩ := firstAt_get (p := negF) (l := t.cost.take vars) (by omega)
      rw [List.length_take] at e2
      cases hr
      omega
     ·
      cases hr
def solZ : Sol := ⟨0, [], [], [], ⟨0, 0⟩⟩
def rayF (t : Tb) (n k : Nat) : Nat → List Fr
 | 0 => if k < n then (za9 n).set k (Fr.of 1) else za9 n
 | i + 1 => if gti t.bas i < n then (rayF t n k i).set (gti t.bas i).toNat (fneg (gti (gti t.rows i) k)) else rayF t n k i
theorem rayF_len (t : Tb) (n k : Nat) : ∀ i, (rayF t n k i).length = n
 | 0 => by unfold rayF; split <;> simp [za9]
 | i + 1 => by unfold rayF; split <;> simp [rayF_len t n k i]
noncomputable def solE (p : LP) : Sol × Int :=
 let n := p.c.length
 let m := p.a.length
 let r1 := (runC (n + m) (prcE (cost1 n m) (begT p))).1
 if r1.e ≠ 0 then (solZ, r1.e) else
 if (gti r1.cost (n + 2 * m)).n ≠ 0 then (⟨2, [], (mulTE r1 (turnL p) 1).1, [], ⟨0, 0⟩⟩, (mulTE r1 (turnL p) 1).2) else
 let t2 := drvF m 0 r1
 if t2.e ≠ 0 then (solZ, t2.e) else
 let r2 := runC (n + m) (prcE (p.c ++ za9 (2 * m + 1)) t2)
 if r2.1.e ≠ 0 then (solZ, r2.1.e) else
 if 0 ≤ r2.2 then (⟨3, valsE r2.1 n, [], rayF r2.1 n r2.2.toNat m, ⟨0, 0⟩⟩, 0) else
 (⟨1, valsE r2.1 n, (mulTE r2.1 (turnL p) 0).1, [], (dotE p.c (valsE r2.1 n)).fr⟩, if (mulTE r2.1 (turnL p) 0).2 ≠ 0 then (mulTE r2.1 (turnL p) 0).2 else (dotE p.c (valsE r2.1 n)).e)
def zS : Zc := ⟨6, [.agg [eI 0, .s (.slice none 0 0), .s (.slice none 0 0), .s (.slice none 0 0), eI 0, eI 0]], (by repeat' (first | exact Lo.s _ | exact za2 | refine zax ?_ ?_ | refine zar ?_ | refine Lo.cells ?_ | refine Lo.agg _ ?_ | exact zak | refine zag ?_ ?_ | intro _))⟩
theorem cut_weak {N : Nat} {F F' : Frm} {σ X : List Ob} (h0 : 0 < σ.length) (hσ : ∀ ob ∈ σ, LoOb σ.length ob) (hF : FrLo F σ.length F') : Weak N F (σ ++ X) F' σ := (kwk_cut h0 hσ hF).weak
theorem lo_Sol (s : Sol) : Lo 0 (eSol s) := .agg _ (zag (.s _) (zag (lo_Fs _) (zag (lo_Fs _) (zag (lo_Fs _) (zag (.s _) (zag (.s _) zak))))))
theorem stB_lo (z : Zc) (t : Tb) : ∀ ob ∈ [Ob.row 5 [.agg [.own 1 1 t.rows.length, .s (.slice none 0 0), .own 2 1 t.bas.length, eI t.last, eI 0]], .row 1 (t.rows.map (eL eF)), .row 1 (t.bas.map eI), .row z.n z.cs], LoOb 4 ob := by
 intro ob hob
 simp only [List.mem_cons, List.mem_nil_iff, or_false] at hob
 rcases hob with rfl | rfl | rfl | rfl
 ·
  intro x hx c hc
  simp only [List.mem_singleton] at hx
  subst hx
  simp only [AV.cells, List.mem_cons, List.mem_nil_iff, or_false] at hc
  rcases hc with rfl | rfl | rfl | rfl | rfl
  ·
   exact .own _ _ _ (by decide)
  ·
   exact .s _
  ·
   exact .own _ _ _ (by decide)
  ·
   exact .s _
  ·
   exact .s _
 ·
  exact zdb t
 ·
  exact bas_lo t
 ·
  intro e he c hc; exact lo_up (z.lo e he c hc)
theorem cost1_eq (n m : Nat) : cost1 n m = (za9 (n + m) ++ List.replicate m (Fr.of 1)) ++ [Fr.of 0] := rfl
set_option maxHeartbeats 8000000 in
theorem solved_pf {n m : Nat} (p : LP) (h : LpOk p n m) : Pure P 34 [eP p] (.tup [eSol (solE p).1, eI (solE p).2]) := by
 have hb := K1.begin_call (P := P) zS p h
 have hn0 := h.cn
 have hm0 := h.am
 have hsm : m ≤ 12 ∧ n + 2 * m ≤ 40 := by have := h.hn; have := h.hm; omega
 have hnm : 1 ≤ n ∧ n ≤ 12 ∧ 1 ≤ m ∧ m ≤ 12 := by have := h.hn; have := h.hm; omega
 subst hn0 hm0
 obtain ⟨c1l, c1o⟩ := cost1_ok (n := p.c.length) (m := p.a.length)
 obtain ⟨b1, b2⟩ := begT_ok h (cost := cost1 p.c.length p.a.length) c1l c1o
 have hp1 := K4.priced_call (P := P) zS (.s (.slice none 0 0)) (begT p) (cost1 p.c.length p.a.length) (b1.sh hsm) rfl
 have hT1 : (prcE (cost1 p.c.length p.a.length) (begT p)).e = 0 → TbOk p.a.length (p.c.length + 2 * p.a.length) (prcE (cost1 p.c.length p.a.length) (begT p)) ∧ Bl.Can p.a.length (p.c.length + 2 * p.a.length) (zda (prcE (cost1 p.c.length p.a.length) (begT p))) := fun he => by
  obtain ⟨g1, g2, _⟩ := prcE_ok b1 b2 rfl he
  exact ⟨g1, g2⟩
 have hl1 : (prcE (cost1 p.c.length p.a.length) (begT p)).last = ((p.c.length + p.a.length : Nat) : Int) := by rw [prcE_last]; show (p.c.length : Int) + p.a.length = _; omega
 obtain ⟨f1, hf1⟩ := runC_of (run_any (vars := p.c.length + p.a.length) (by omega) hT1)
 have hI1 : (prcE (cost1 p.c.length p.a.length) (begT p)).e = 0 → I1 p.c.length p.a.length (prcE (cost1 p.c.length p.a.length) (begT p)) := fun he => by
  obtain ⟨g1, g2, _, _, _, g6⟩ := prcE_ok b1 b2 rfl he
  exact ⟨g1, g2, by rw [hl1]; omega, g6⟩
 have hbm := h.bm
 have HI : solE p = solE p := rfl
 conv at HI => rhs; unfold solE
 dsimp only at HI
 generalize solE p = R at HI ⊢
 refine zcu (by rw [IsP.eq (P := P)]; exact Try.func34) rfl rfl rfl rfl rfl (by repeat' (first | exact Lo.s _ | exact zak | refine zag ?_ ?_ | refine zan ?_ | refine Lo.agg _ ?_ | refine Lo.sl _ ?_ | intro _)) (by repeat' (first | exact Lo.s _ | exact zak | refine zag ?_ ?_ | refine zan ?_ | refine Lo.cells ?_ | refine Lo.agg _ ?_ | refine Lo.ref _ ?_ | refine Lo.tup _ ?_ | refine Lo.fn _ _ ?_ | refine Lo.sl _ ?_ | intro _)) (by simp only [argF]; rfl) ?_
 refine zah (zab (zaf rfl rfl (zaa rfl) (zb4 rfl rfl rfl rfl) (zaf rfl rfl (zaa rfl) (za0 rfl ti53 rfl rfl) (zac rfl (zae (zah ?_))))))
 refine zbi (zbs (id := 0) rfl) (zbi (zch (d := 1) rfl rfl rfl) ?_)
 refine zcj hmix ?_
 refine zcm (by kernel_rfl) ?_
 refine qx_f tf47_0 rfl (qx_l ta30 rfl (zcn rfl rfl (zaa rfl) (zao rfl ts30 rfl) (qx_f tf47_1 rfl (qx_l ta45 rfl (zcn rfl rfl (zaa rfl) (zao rfl ts45 rfl) (qx_s rfl (qx_s rfl ?_)))))))
 refine qx_nil ?_
 refine zah ?_
 refine zbi (F' := [(1, .ref (eP p).cells), (2, .ptr 0 6 0 0), (4, eI p.c.length), (5, eI p.a.length)]) (σ' := [.row zS.n zS.cs]) (zck [1] (by decide) ⟨⟨_, rfl, .rowE zS.lo rfl⟩, trivial⟩ ⟨.lo _ (.ref _ (lo_P p).cells), .ptr 1 0 6 0 0 rfl, .lo _ (.s _), .lo _ (.s _), trivial⟩) ?_
 refine zab (zc5 ta47 ti47 rfl (zaf rfl rfl (zaa rfl) (zbo rfl rfl hb (zad rfl zaq)) (zac rfl (zac rfl (zac rfl (zac rfl (zac rfl (zae (zah ?_)))))))))
 refine zbi (zbs (id := 4) rfl) (zbi (wk_sl (d := 7) rfl rfl (by simp [turnL_len, hbm])) ?_)
 refine zbi (F' := [(1, .ref (eP p).cells), (2, .ptr 3 6 0 0), (4, eI p.c.length), (5, eI p.a.length), (6, .ptr 0 5 0 0), (7, eL eB (turnL p))]) (σ' := [.row 5 [.agg [.own 1 1 (begT p).rows.length, .s (.slice none 0 0), .own 2 1 (begT p).bas.length, eI (begT p).last, eI 0]], .row 1 ((begT p).rows.map (eL eF)), .row 1 ((begT p).bas.map eI), .row zS.n zS.cs]) (zck [1, 2, 3, 0] (by decide) ⟨⟨_, rfl, zc2 (.cons (.own _ _ _ _ _ rfl rfl) (.cons (.lo _ (.s _)) (.cons (.own _ _ _ _ _ rfl rfl) (.cons (.lo _ (.s _)) (.cons (.lo _ (.s _)) .nil)))))⟩, ⟨_, rfl, .rowE (zdb _) rfl⟩, ⟨_, rfl, .rowE (bas_lo _) rfl⟩, ⟨_, rfl, .rowE zS.lo rfl⟩, trivial⟩ ⟨.lo _ (.ref _ (lo_P p).cells), .ptr 0 3 6 0 0 rfl, .lo _ (.s _), .lo _ (.s _), .ptr 1 0 5 0 0 rfl, .lo _ (zan fun _ => .s _), trivial⟩) ?_
 have hz1 := zeros_po (P := P) (p.c.length + p.a.length) (by omega)
 rw [show ((p.c.length + p.a.length : Nat) : Int) = (p.c.length : Int) + (p.a.length : Int) by omega] at hz1
 have ho1 := onesF_po (P := P) p.a.length (by omega)
 have hzl : ((za9 (p.c.length + p.a.length)).map eF).length = p.c.length + p.a.length := by simp [za9]
 have hol : ((List.replicate p.a.length (Fr.of 1)).map eF).length = p.a.length := by simp
 have hzl2 : (za9 (p.c.length + p.a.length)).length = p.c.length + p.a.length := by simp [za9]
 have hc1m : ((za9 (p.c.length + p.a.length)).map eF ++ (List.replicate p.a.length (Fr.of 1)).map eF) ++ [eF (Fr.of 0)] = (cost1 p.c.length p.a.length).map eF := by simp [cost1_eq]
 refine zab (zac rfl (zac rfl (zac rfl (zaf rfl rfl (zaa rfl) (zav rfl rfl rfl (IntWalk.i64_in _ (by omega))) (zaf rfl rfl (zaa rfl) (does_callO rfl rfl (hz1) (zad rfl zaq)) (zaf rfl rfl (zaa rfl) (zam rfl rfl ((swhole_pf 1)) (zad rfl zaq)) (zaf rfl rfl (zaa rfl) (zcr rfl ts30 ti51 rfl rfl (by decide) (by decide) rfl rfl rfl (.agg _ (zag (.s _) (zag (.s _) zak)))) (zac rfl (zaf rfl rfl (zaa rfl) (does_callO rfl rfl (ho1) (zad rfl (zad rfl zaq))) ?_)))))))))
 refine zaf rfl rfl (zaa rfl) (zbm rfl ts30 ti51 rfl (by decide) rfl rfl (by first | rfl | (simp; done) | (simp; omega)) rfl (by first | exact .own _ _ _ rfl rfl _ (by first | rfl | simp) | exact .emp | exact .nil | exact .sl _ (by first | simp; done | intro e he; simp at he; obtain ⟨_, _, rfl⟩ := he; rfl)) (by first | omega | (simp; omega) | (unfold maxLen; simp; omega)) (by first | omega | (simp; omega) | (unfold maxLen; simp; omega))) ?_
 refine zaf rfl rfl (zaa rfl) (zam rfl rfl ((swhole_pf 0)) (zad rfl zaq)) (zaf rfl rfl (zaa rfl) (zcr rfl ts30 ti51 rfl rfl (by decide) (by decide) rfl rfl rfl (.agg _ (zag (.s _) (zag (.s _) zak)))) ?_)
 refine zaf rfl rfl (zaa rfl) (zbm rfl ts30 ti51 rfl (by decide) rfl rfl (by first | rfl | (simp; done) | (simp; omega)) rfl (by first | exact .own _ _ _ rfl rfl _ (by first | rfl | simp) | exact .emp | exact .nil | exact .sl _ (by first | simp; done | intro e he; simp at he; obtain ⟨_, _, rfl⟩ := he; rfl)) (by first | omega | (simp; omega) | (unfold maxLen; simp; omega)) (by first | omega | (simp; omega) | (unfold maxLen; simp; omega))) ?_
 refine za5 (zbs (id := 7) rfl) (za5 (wk_sl (d := 43) rfl rfl (by simp; omega)) (za5 (cut_weak (σ := [.row 5 [.agg [.own 1 1 (begT p).rows.length, .s (.slice none 0 0), .own 2 1 (begT p).bas.length, eI (begT p).last, eI 0]], .row 1 ((begT p).rows.map (eL eF)), .row 1 ((begT p).bas.map eI), .row zS.n zS.cs]) (F' := [(1, .ref (eP p).cells), (2, .ptr 3 6 0 0), (4, eI p.c.length), (5, eI p.a.length), (6, .ptr 0 5 0 0), (7, eL eB (turnL p)), (31, .ptr 0 5 0 0), (43, eL eF (cost1 p.c.length p.a.length))]) (by simp) (stB_lo zS (begT p)) ⟨⟨rfl, lo_up (.ref _ (lo_P p).cells)⟩, ⟨rfl, .ptr _ _ _ _ (by simp)⟩, ⟨rfl, lo_up (.s _)⟩, ⟨rfl, lo_up (.s _)⟩, ⟨rfl, .ptr _ _ _ _ (by simp)⟩, ⟨rfl, lo_up (zan fun _ => .s _)⟩, ⟨rfl, .ptr _ _ _ _ (by simp)⟩, ⟨congrArg AV.sl hc1m, lo_up (lo_Fs _)⟩, trivial⟩) ?_))
 refine zaf rfl rfl (zaa rfl) (zbo rfl rfl hp1 (zad rfl (zad rfl zaq))) (zae (zah ?_))
 generalize prcE (cost1 p.c.length p.a.length) (begT p) = T1 at hp1 hT1 hl1 hf1 hI1 HI ⊢
 generalize hr1 : runC (p.c.length + p.a.length) T1 = r1 at hf1 HI
 obtain ⟨t1, k1⟩ := r1
 have hrun := K4.run_call (P := P) zS hsm (vars := p.c.length + p.a.length) (by omega) T1 t1 f1 k1 (fun he => (hT1 he).1) hf1
 rw [← hl1] at hrun
 dsimp only at HI
 refine zab (zac rfl (zac rfl (zac rfl (zb1 tf108_3 rfl (zaf rfl rfl (zaa rfl) (zap rfl ta3 rfl rfl rfl rfl rfl) (zaf rfl rfl (zaa rfl) (zbo rfl rfl hrun (zad rfl (zad rfl zaq))) (zae (zah (zah (zab (zac rfl (zac rfl (zb1 zdu rfl (zaf rfl rfl (zaa rfl) (zap rfl ta33 rfl rfl rfl rfl rfl) ?_))))))))))))))
 refine za3 rfl rfl (zaa rfl) (zbw rfl rfl rfl) (fun h55 => ?_) (fun h55 => ?_)
 all_goals refine zae (zai ?_)
 all_goals (first | refine za7 rfl ?_ | refine za1 rfl ?_)
 all_goals (repeat (first | refine zah ?_ | refine zat ?_))
 ·
  rw [if_pos h55] at HI
  refine zcj hmix ?_
  refine zdg ?_
  refine zaz rfl rfl (zaa rfl) (fun _ => (za6 rfl ti53 tp53 rfl rfl)) (ex_s rfl (ex_s rfl (ex_f zdu rfl (zbt rfl rfl (zaa rfl) (zbn rfl ta33 rfl rfl rfl rfl rfl) ?_))))
  refine zci rfl (zaa rfl) (zaj rfl ti53 rfl rfl rfl rfl rfl rfl (by decide) (by decide)) (fun _ h => zbr h) ?_
  refine ex_s rfl ?_
  refine zcc (by kernel_rfl) ?_
  refine zai ?_
  (refine za8 ?_; repeat (first | refine zbg ?_ | refine zbh ?_))
  subst HI
  exact post_cs (N := 0) (.inr rfl) ta53 ti53 rfl rfl rfl rfl rfl rfl (.agg _ _ rfl (zbb.cons (.refl _) (zbb.cons .nil (zbb.cons .nil (zbb.cons .nil (zbb.cons (.refl _) (zbb.cons (.refl _) zbb.nil)))))).2) (.refl _)
 rw [if_neg h55] at HI
 have e1 : t1.e = 0 := Decidable.not_not.1 h55
 have hj1 : I1 p.c.length p.a.length t1 := runE_inv (I1 p.c.length p.a.length) (fun _ _ => I1.step) f1 T1 t1 k1 (hI1 (runE_e hf1 e1)) hf1 e1
 clear hrun hp1 hT1 hI1 hf1 hr1 hb hz1 ho1 hzl hol hzl2 hc1m b1 b2
 have hsh1 := hj1.ok.sh hsm
 have hcl := hj1.ok.cl
 have hla := hj1.last
 have hxc : (t1.cost.map eF)[p.c.length + 2 * p.a.length]? = some (eF (gti t1.cost (p.c.length + 2 * p.a.length))) := zbd (by omega)
 have hkc : ((t1.cost.length : Nat) : Int) - 1 = ((p.c.length + 2 * p.a.length : Nat) : Int) := by omega
 refine zcj hmix ?_
 refine zcm (by kernel_rfl) ?_
 refine qx_s rfl (qx_s rfl (qx_f tf108_1 rfl (zcn rfl rfl (zaa rfl) (zap rfl ta30 rfl rfl rfl rfl rfl) (qx_s rfl (qx_s rfl (qx_f tf108_1 rfl (zcn rfl rfl (zaa rfl) (zap rfl ta30 rfl rfl rfl rfl rfl) (zcn rfl rfl (zaa rfl) (zao rfl ts30 rfl) (zcn rfl rfl (zaa rfl) (does_sub rfl rfl rfl (IntWalk.i64_in _ (by omega))) (zcn rfl rfl (zaa rfl) (zal rfl ts30 ti51 rfl rfl hkc hxc rfl) (qx_f tf51_0 rfl (qx_l ta3 rfl ?_))))))))))))
 refine qx_opP rfl rfl (zaa rfl) (zbw rfl rfl rfl) (fun h74 => ?_) (fun h74 => ?_)
 all_goals refine qx_nil ?_
 all_goals refine zai ?_
 all_goals (first | refine za7 rfl ?_ | refine za1 rfl ?_)
 all_goals (repeat (first | refine zah ?_ | refine zat ?_))
 ·
  rw [if_pos h74] at HI
  have hmu := K4.mult_call (P := P) zS t1 hsh1 (turnL p) (by rw [turnL_len, hbm]) 1 (by omega)
  refine zab (zac rfl (zac rfl (zaf rfl rfl (zaa rfl) (zbo rfl rfl hmu (zad rfl (zad rfl (zad rfl zaq)))) (zac rfl (zae (zah ?_))))))
  refine zcj hmix ?_
  refine zdg ?_
  refine ex_s rfl (zaz rfl rfl (zaa rfl) (fun _ => (za6 rfl ti53 tp53 rfl rfl)) (ex_s rfl (ex_s rfl (ex_f zdu rfl (zbt rfl rfl (zaa rfl) (zbn rfl ta33 rfl rfl rfl rfl rfl) ?_)))))
  refine zci rfl (zaa rfl) (zaj rfl ti53 rfl rfl rfl rfl rfl rfl (by decide) (by decide)) (fun _ h => zbr h) ?_
  refine ex_s rfl ?_
  refine zcc (by kernel_rfl) ?_
  refine zai ?_
  (refine za8 ?_; repeat (first | refine zbg ?_ | refine zbh ?_))
  subst HI
  exact post_cs (N := 0) (.inr rfl) ta53 ti53 rfl rfl rfl rfl rfl rfl (.agg _ _ rfl (zbb.cons (.refl _) (zbb.cons .nil (zbb.cons (.refl _) (zbb.cons .nil (zbb.cons (.refl _) (zbb.cons (.refl _) zbb.nil)))))).2) (.refl _)
 rw [if_neg h74] at HI
 have hJ : J1 p.c.length p.a.length t1 := ⟨hj1.ok, Can.toR hj1.can, hj1.last, art_zero hj1 (Decidable.not_not.1 h74)⟩
 clear hj1
 generalize hd : drvF p.a.length 0 t1 = t2 at HI
 have hbl1 := hJ.ok.bl
 refine zab (zac rfl (zac rfl (zb1 zdi rfl (zaf rfl rfl (zaa rfl) (zap rfl ta22 rfl rfl rfl rfl rfl) (zaf rfl rfl (zaa rfl) (zc6 rfl ts22 rfl) (zac rfl (zae (zai (zaw ?_)))))))))
 refine zca (S := Nat × Tb) (fun s => [(1, .ref (eP p).cells), (2, .ptr 3 6 0 0), (4, eI p.c.length), (5, eI p.a.length), (6, .ptr 0 5 0 0), (7, eL eB (turnL p)), (87, .own 2 1 t1.bas.length), (88, eI t1.bas.length), (89, eI s.1)]) (fun s => [.row 5 [tbC s.2 s.2.e], .row 1 (s.2.rows.map (eL eF)), .row 1 (s.2.bas.map eI), .row zS.n zS.cs]) (fun s => s.1 ≤ p.a.length ∧ J1 p.c.length p.a.length s.2 ∧ s.2.e = 0 ∧ t2 = drvF (p.a.length - s.1) s.1 s.2) (fun s => p.a.length - s.1) (0, t1)
  (wk_sub _ ⟨rfl, rfl, rfl, rfl, rfl, rfl, rfl, rfl, rfl, trivial⟩) ⟨Nat.zero_le _, hJ, e1, hd.symm⟩ (fun s hs => ?_)
 obtain ⟨i, s⟩ := s
 obtain ⟨hi, hJs, hse, hd2⟩ := hs
 dsimp only at hi hJs hse hd2 ⊢
 clear hd hJ hsh1 hcl hla hxc hkc h74 h55
 have hsh := hJs.ok.sh hsm
 have hsb := hJs.ok.bl
 have hsr := hJs.ok.rl
 have hsl : s.last = ((p.c.length + p.a.length : Nat) : Int) := by rw [hJs.last]; omega
 refine zah (zab ?_)
 refine za3 rfl rfl (zaa rfl) (za4 rfl rfl rfl) (fun h90 => ?_) (fun h90 => ?_)
 all_goals refine zae (zah ?_)
 all_goals (first | refine za7 rfl ?_ | refine za1 rfl ?_)
 all_goals (repeat (first | refine zah ?_ | refine zat ?_ | refine zaw ?_))
 ·
  have hlt : i < p.a.length := by omega
  have hrow := hsh.row hlt
  have hxb : (s.bas.map eI)[i]? = some (eI (gti s.bas i)) := zbd (by omega)
  have hxr : (s.rows.map (eL eF))[i]? = some (eL eF (gti s.rows i)) := zbd (by omega)
  rw [show p.a.length - i = (p.a.length - (i + 1)) + 1 by omega] at hd2
  unfold drvF at hd2
  refine zab (zac rfl (zaf rfl rfl (zaa rfl) (zau rfl ts22 ti3 rfl rfl rfl (by omega)) (zaf rfl rfl (zaa rfl) (zap rfl ta3 rfl rfl rfl hxb rfl) (zac rfl (zac rfl (zae (zah (zah (zab (zac rfl (zac rfl (zac rfl (zb1 tf108_3 rfl (zaf rfl rfl (zaa rfl) (zap rfl ta3 rfl rfl rfl rfl rfl) ?_))))))))))))))
  refine za3 rfl rfl (zaa rfl) (za4 rfl rfl rfl) (fun h99 => ?_) (fun h99 => ?_)
  all_goals refine zae (zai ?_)
  all_goals (first | refine za7 rfl ?_ | refine za1 rfl ?_)
  all_goals (repeat (first | refine zah ?_ | refine zat ?_))
  ·
   rw [if_pos h99] at hd2
   (refine zcl ?_; repeat (first | refine zc3 ?_ | refine zb2 ?_ | refine zbq rfl ?_ | refine zbu ?_ | refine zai ?_ | refine zah ?_ | refine zat ?_ | refine zaw ?_))
   refine zab (zaf rfl rfl (zaa rfl) (zav rfl rfl rfl (IntWalk.i64_in _ (by omega))) (zac rfl (zae (zai ?_))))
   exact ⟨(i + 1, s), ⟨by show i + 1 ≤ p.a.length; omega, hJs, hse, hd2⟩, by show p.a.length - (i + 1) < p.a.length - i; omega, wk_sub _ ⟨rfl, rfl, rfl, rfl, rfl, rfl, rfl, rfl, rfl, trivial⟩⟩
  ·
   rw [if_neg h99] at hd2
   dsimp only at hd2
   rw [show s.last.toNat = p.c.length + p.a.length by omega] at hd2
   have hix : Pure P 59 [.sl (((gti s.rows i).map eF).take (p.c.length + p.a.length)), .fn 60 []] (eI (zct nzF ((gti s.rows i).take (p.c.length + p.a.length)))) := by
    rw [← List.map_take]
    exact indexFF_pf _ [] nzF _ lo_F (.fn _ _ (by simp)) (fun a _ => solved1_pf a)
   have hfge := firstAt_ge nzF ((gti s.rows i).take (p.c.length + p.a.length))
   have hfl : 0 ≤ zct nzF ((gti s.rows i).take (p.c.length + p.a.length)) → zct nzF ((gti s.rows i).take (p.c.length + p.a.length)) < ((p.c.length + p.a.length : Nat) : Int) := fun h => by
    obtain ⟨q, e1, e2, _⟩ := firstAt_get h
    rw [List.length_take] at e2
    omega
   refine zcj hmix ?_
   refine zcm (by kernel_rfl) ?_
   refine qx_s rfl (qx_s rfl (qx_f zc4 rfl (zcn rfl rfl (zaa rfl) (zap rfl ta45 rfl rfl rfl rfl rfl) (qx_s rfl (zcn rfl rfl (zaa rfl) (zau rfl ts45 ti30 rfl rfl rfl (by omega)) (zcn rfl rfl (zaa rfl) (zap rfl ta30 rfl rfl rfl hxr rfl) (qx_s rfl (qx_s rfl (qx_f tf108_3 rfl (zcn rfl rfl (zaa rfl) (zap rfl ta3 rfl rfl rfl rfl rfl) ?_))))))))))
   refine zcn rfl rfl (zaa rfl) (does_slice_h rfl ts30 ti51 rfl rfl hsl (by simp; omega) (by intro e he; simp at he; obtain ⟨_, _, rfl⟩ := he; rfl)) ?_
   refine zcn rfl rfl (zaa rfl) (zam rfl rfl (hix) (zad rfl (zad rfl zaq))) (qx_s rfl ?_)
   refine qx_nil ?_
   refine zah ?_
   generalize zct nzF ((gti s.rows i).take (p.c.length + p.a.length)) = kk at hix hd2 hfge hfl ⊢
   refine zab (zac rfl ?_)
   refine za3 rfl rfl (zaa rfl) (zcz rfl rfl rfl) (fun h114 => ?_) (fun h114 => ?_)
   all_goals refine zae (zai ?_)
   all_goals (first | refine za7 rfl ?_ | refine za1 rfl ?_)
   all_goals (repeat (first | refine zah ?_ | refine zai ?_ | refine zat ?_ | refine zbu ?_))
   ·
    rw [if_neg (by omega)] at hd2
    obtain ⟨q, rfl⟩ : ∃ q : Nat, kk = q := ⟨kk.toNat, by omega⟩
    have hq := hfl h114
    rw [show (q : Int).toNat = q from rfl] at hd2
    have hpv := K4.pivot_call (P := P) zS s hsh hse i q hlt (by omega)
    have hJp := hJs.piv hse hlt (j := q) (by omega) (by omega)
    rw [hse]
    refine zab (zac rfl (zac rfl (zac rfl (zaf rfl rfl (zaa rfl) (zbo rfl rfl hpv (zad rfl (zad rfl (zad rfl zaq)))) (zae (zah ?_))))))
    generalize pivE i q s = s2 at hpv hd2 hJp ⊢
    refine zab (zac rfl (zac rfl (zb1 zdu rfl (zaf rfl rfl (zaa rfl) (zap rfl ta33 rfl rfl rfl rfl rfl) ?_))))
    refine za3 rfl rfl (zaa rfl) (zbw rfl rfl rfl) (fun h123 => ?_) (fun h123 => ?_)
    all_goals refine zae (zai ?_)
    all_goals (first | refine za7 rfl ?_ | refine za1 rfl ?_)
    all_goals (repeat (first | refine zah ?_ | refine zai ?_ | refine zat ?_ | refine zbu ?_))
    ·
     rw [if_pos h123] at hd2
     subst hd2
     rw [if_pos h123] at HI
     refine zcj hmix ?_
     refine zdg ?_
     refine zaz rfl rfl (zaa rfl) (fun _ => (za6 rfl ti53 tp53 rfl rfl)) (ex_s rfl (ex_s rfl (ex_f zdu rfl (zbt rfl rfl (zaa rfl) (zbn rfl ta33 rfl rfl rfl rfl rfl) ?_))))
     refine zci rfl (zaa rfl) (zaj rfl ti53 rfl rfl rfl rfl rfl rfl (by decide) (by decide)) (fun _ h => zbr h) ?_
     refine ex_s rfl ?_
     refine zcc (by kernel_rfl) ?_
     refine zai ?_
     (refine za8 ?_; repeat (first | refine zbg ?_ | refine zbh ?_))
     subst HI
     exact post_cs (N := 0) (.inr rfl) ta53 ti53 rfl rfl rfl rfl rfl rfl (.agg _ _ rfl (zbb.cons (.refl _) (zbb.cons .nil (zbb.cons .nil (zbb.cons .nil (zbb.cons (.refl _) (zbb.cons (.refl _) zbb.nil)))))).2) (.refl _)
    ·
     rw [if_neg h123] at hd2
     have e2 : s2.e = 0 := Decidable.not_not.1 h123
     refine zab (zaf rfl rfl (zaa rfl) (zav rfl rfl rfl (IntWalk.i64_in _ (by omega))) (zac rfl (zae (zai ?_))))
     exact ⟨(i + 1, s2), ⟨by show i + 1 ≤ p.a.length; omega, hJp e2, e2, hd2⟩, by show p.a.length - (i + 1) < p.a.length - i; omega, wk_sub _ ⟨rfl, rfl, rfl, rfl, rfl, rfl, rfl, rfl, rfl, trivial⟩⟩
   ·
    rw [if_pos (by omega)] at hd2
    refine zab (zaf rfl rfl (zaa rfl) (zav rfl rfl rfl (IntWalk.i64_in _ (by omega))) (zac rfl (zae (zai ?_))))
    exact ⟨(i + 1, s), ⟨by show i + 1 ≤ p.a.length; omega, hJs, hse, hd2⟩, by show p.a.length - (i + 1) < p.a.length - i; omega, wk_sub _ ⟨rfl, rfl, rfl, rfl, rfl, rfl, rfl, rfl, rfl, trivial⟩⟩
 have ei : i = p.a.length := by omega
 subst ei
 rw [Nat.sub_self] at hd2
 unfold drvF at hd2
 subst hd2
 rw [if_neg (by omega)] at HI
 (refine zcl ?_; repeat (first | refine zc3 ?_ | refine zb2 ?_ | refine zbq rfl ?_ | refine zbu ?_ | refine zai ?_ | refine zah ?_ | refine zat ?_ | refine zaw ?_))
 clear hi hbl1 h90
 have hc2l : (p.c ++ za9 (2 * p.a.length + 1)).length = p.c.length + 2 * p.a.length + 1 := by simp [za9]; omega
 have hc2o : ∀ x ∈ p.c ++ za9 (2 * p.a.length + 1), x.ok := fun x hx => by
  rcases List.mem_append.1 hx with hx | hx
  ·
   exact h.co x hx
  ·
   rw [List.eq_of_mem_replicate hx]; exact of_ok ⟨by decide, by decide⟩
 have hok2 : TbOk p.a.length (p.c.length + 2 * p.a.length) { t2 with cost := p.c ++ za9 (2 * p.a.length + 1) } := ⟨hJs.ok.rl, hJs.ok.rw_, hc2l, hc2o, hJs.ok.bl, hJs.ok.bs⟩
 have hp2 := K4.priced_call (P := P) zS (eL eF t2.cost) t2 (p.c ++ za9 (2 * p.a.length + 1)) (hok2.sh hsm) hse
 have hT2 : (prcE (p.c ++ za9 (2 * p.a.length + 1)) t2).e = 0 → TbOk p.a.length (p.c.length + 2 * p.a.length) (prcE (p.c ++ za9 (2 * p.a.length + 1)) t2) ∧ Bl.Can p.a.length (p.c.length + 2 * p.a.length) (zda (prcE (p.c ++ za9 (2 * p.a.length + 1)) t2)) := fun he => by
  obtain ⟨g1, g2, _⟩ := prcE_ok hok2 hJs.can hse he
  exact ⟨g1, g2⟩
 have hl2 : (prcE (p.c ++ za9 (2 * p.a.length + 1)) t2).last = ((p.c.length + p.a.length : Nat) : Int) := by rw [prcE_last]; exact hsl
 obtain ⟨f2, hf2⟩ := runC_of (run_any (vars := p.c.length + p.a.length) (by omega) hT2)
 have hcl := fun σ => cloneF_call (P := P) p.c (by omega) (by omega) σ
 have hz2 := zeros_po (P := P) (2 * p.a.length + 1) (by omega)
 rw [show ((2 * p.a.length + 1 : Nat) : Int) = 2 * (p.a.length : Int) + 1 by omega] at hz2
 have hzl : ((za9 (2 * p.a.length + 1)).map eF).length = 2 * p.a.length + 1 := by simp [za9]
 have hzl2 : (za9 (2 * p.a.length + 1)).length = 2 * p.a.length + 1 := by simp [za9]
 have hcll : (p.c.map eF).length = p.c.length := by simp
 have hc2m : p.c.map eF ++ (za9 (2 * p.a.length + 1)).map eF = (p.c ++ za9 (2 * p.a.length + 1)).map eF := by simp
 rw [hse]
 refine zab (zac rfl (zb1 tf47_0 rfl (zby ta30 rfl (zaf rfl rfl (zaa rfl) (zbo rfl rfl (hcl _) (zad rfl zaq)) (zac rfl (zaf rfl rfl (zaa rfl) (does_mul rfl rfl rfl (IntWalk.i64_in _ (by omega))) (zaf rfl rfl (zaa rfl) (zav rfl rfl rfl (IntWalk.i64_in _ (by omega))) (zaf rfl rfl (zaa rfl) (does_callO rfl rfl (hz2) (zad rfl zaq)) ?_))))))))
 refine zaf rfl rfl (zaa rfl) (zbm rfl ts30 ti51 rfl (by decide) rfl rfl (by first | rfl | (simp; done) | (simp; omega)) rfl (by first | exact .own _ _ _ rfl rfl _ (by first | rfl | simp) | exact .emp | exact .nil | exact .sl _ (by first | simp; done | intro e he; simp at he; obtain ⟨_, _, rfl⟩ := he; rfl)) (by first | omega | (simp; omega) | (unfold maxLen; simp; omega)) (by first | omega | (simp; omega) | (unfold maxLen; simp; omega))) ?_
 refine za5 (zbs (id := 6) rfl) (za5 (wk_sl (d := 138) rfl rfl (by simp)) (za5 (cut_weak (σ := stE zS t2 0) (F' := [(1, .ref (eP p).cells), (2, .ptr 3 6 0 0), (4, eI p.c.length), (5, eI p.a.length), (6, .ptr 0 5 0 0), (7, eL eB (turnL p)), (130, .ptr 0 5 0 0), (138, eL eF (p.c ++ za9 (2 * p.a.length + 1)))]) (by simp [stE]) (stE_lo _ _ _) ⟨⟨rfl, lo_up (.ref _ (lo_P p).cells)⟩, ⟨rfl, .ptr _ _ _ _ (by simp [stE])⟩, ⟨rfl, lo_up (.s _)⟩, ⟨rfl, lo_up (.s _)⟩, ⟨rfl, .ptr _ _ _ _ (by simp [stE])⟩, ⟨rfl, lo_up (zan fun _ => .s _)⟩, ⟨rfl, .ptr _ _ _ _ (by simp [stE])⟩, ⟨congrArg AV.sl hc2m, lo_up (lo_Fs _)⟩, trivial⟩) ?_))
 refine zaf rfl rfl (zaa rfl) (zbo rfl rfl hp2 (zad rfl (zad rfl zaq))) (zae (zah ?_))
 generalize prcE (p.c ++ za9 (2 * p.a.length + 1)) t2 = T2 at hp2 hT2 hl2 hf2 HI ⊢
 generalize hr2 : runC (p.c.length + p.a.length) T2 = r2 at hf2 HI
 obtain ⟨t4, k2⟩ := r2
 have hrun := K4.run_call (P := P) zS hsm (vars := p.c.length + p.a.length) (by omega) T2 t4 f2 k2 (fun he => (hT2 he).1) hf2
 rw [← hl2] at hrun
 dsimp only at HI
 refine zab (zac rfl (zac rfl (zac rfl (zb1 tf108_3 rfl (zaf rfl rfl (zaa rfl) (zap rfl ta3 rfl rfl rfl rfl rfl) (zaf rfl rfl (zaa rfl) (zbo rfl rfl hrun (zad rfl (zad rfl zaq))) (zac rfl (zae (zah (zah (zab (zac rfl (zac rfl (zb1 zdu rfl (zaf rfl rfl (zaa rfl) (zap rfl ta33 rfl rfl rfl rfl rfl) ?_)))))))))))))))
 refine za3 rfl rfl (zaa rfl) (zbw rfl rfl rfl) (fun h150 => ?_) (fun h150 => ?_)
 all_goals refine zae (zai ?_)
 all_goals (first | refine za7 rfl ?_ | refine za1 rfl ?_)
 all_goals (repeat (first | refine zah ?_ | refine zat ?_))
 ·
  rw [if_pos h150] at HI
  refine zcj hmix ?_
  refine zdg ?_
  refine zaz rfl rfl (zaa rfl) (fun _ => (za6 rfl ti53 tp53 rfl rfl)) (ex_s rfl (ex_s rfl (ex_f zdu rfl (zbt rfl rfl (zaa rfl) (zbn rfl ta33 rfl rfl rfl rfl rfl) ?_))))
  refine zci rfl (zaa rfl) (zaj rfl ti53 rfl rfl rfl rfl rfl rfl (by decide) (by decide)) (fun _ h => zbr h) ?_
  refine ex_s rfl ?_
  refine zcc (by kernel_rfl) ?_
  refine zai ?_
  (refine za8 ?_; repeat (first | refine zbg ?_ | refine zbh ?_))
  subst HI
  exact post_cs (N := 0) (.inr rfl) ta53 ti53 rfl rfl rfl rfl rfl rfl (.agg _ _ rfl (zbb.cons (.refl _) (zbb.cons .nil (zbb.cons .nil (zbb.cons .nil (zbb.cons (.refl _) (zbb.cons (.refl _) zbb.nil)))))).2) (.refl _)
 rw [if_neg h150] at HI
 have e4 : t4.e = 0 := Decidable.not_not.1 h150
 have hok4 : TbOk p.a.length (p.c.length + 2 * p.a.length) t4 := runE_inv (TbOk p.a.length (p.c.length + 2 * p.a.length)) (fun _ _ g1 g2 g3 => (runS_step (by omega) g1 g2 g3).2.1) f2 T2 t4 k2 (hT2 (runE_e hf2 e4)).1 hf2 e4
 have hl4 : t4.last = ((p.c.length + p.a.length : Nat) : Int) := runE_inv (fun t => TbOk p.a.length (p.c.length + 2 * p.a.length) t ∧ t.last = ((p.c.length + p.a.length : Nat) : Int)) (fun _ _ g1 g2 g3 => ⟨(runS_step (by omega) g1.1 g2 g3).2.1, (runS_step (by omega) g1.1 g2 g3).2.2.1.trans g1.2⟩) f2 T2 t4 k2 ⟨(hT2 (runE_e hf2 e4)).1, hl2⟩ hf2 e4 |>.2
 have hsh4 := hok4.sh hsm
 have hbl4 := hok4.bl
 have hrl4 := hok4.rl
 have hva := K4.values_call (P := P) zS t4 hsh4 p.c.length (by omega)
 have hkk := runE_k hf2
 rw [e4]
 refine zab (zac rfl (zac rfl (zaf rfl rfl (zaa rfl) (zbo rfl rfl hva (zad rfl (zad rfl zaq))) (zac rfl (zae (zah (zah (zab (zac rfl ?_)))))))))
 refine za3 rfl rfl (zaa rfl) (zcz rfl rfl rfl) (fun h160 => ?_) (fun h160 => ?_)
 all_goals refine zae (zai ?_)
 all_goals (first | refine za7 rfl ?_ | refine za1 rfl ?_)
 all_goals (repeat (first | refine zah ?_ | refine zat ?_))
 ·
  rw [if_pos (by omega)] at HI
  obtain ⟨q, rfl⟩ : ∃ q : Nat, k2 = q := ⟨k2.toNat, by omega⟩
  have hq := hkk (by omega)
  rw [show (q : Int).toNat = q from rfl] at HI
  have hz3 := zeros_po (P := P) p.c.length (by omega)
  have hz3l : ((za9 p.c.length).map eF).length = p.c.length := by simp [za9]
  have hw1 := swhole_pf (P := P) 1
  refine zab (zac rfl (zaf rfl rfl (zaa rfl) (does_callO rfl rfl (hz3) (zad rfl zaq)) (zac rfl (zae (zah (zah (zab (zac rfl (zac rfl ?_)))))))))
  refine za3 rfl rfl (zaa rfl) (za4 rfl rfl rfl) (fun h165 => ?_) (fun h165 => ?_)
  all_goals refine zae (zai ?_)
  all_goals (first | refine za7 rfl ?_ | refine za1 rfl ?_)
  all_goals (repeat (first | refine zah ?_ | refine zat ?_))
  ·
   have hqn : q < p.c.length := by omega
   have hxz : ((za9 p.c.length).map eF)[q]? = some (eF (gti (za9 p.c.length) q)) := zbd (by simp [za9]; exact hqn)
   have hray : rayF t4 p.c.length q 0 = (za9 p.c.length).set q (Fr.of 1) := by unfold rayF; rw [if_pos hqn]
   refine zab (zac rfl (zac rfl (zaf rfl rfl (zaa rfl) (zam rfl rfl (hw1) (zad rfl zaq)) (zaf rfl rfl (zaa rfl) (zau rfl ts30 ti51 rfl rfl rfl (by omega)) (zbe rfl (zaa rfl) (zaj rfl ti51 rfl rfl rfl hxz rfl rfl (by decide) (by decide)) (zae (zah (zah (zab (zac rfl (zac rfl (zb1 zdi rfl (zaf rfl rfl (zaa rfl) (zap rfl ta22 rfl rfl rfl rfl rfl) (zaf rfl rfl (zaa rfl) (zc6 rfl ts22 rfl) (zac rfl (zae (zai (zaw ?_))))))))))))))))))
   refine zca (S := Nat) (fun i => [(2, .ptr 3 6 0 0), (4, eI p.c.length), (6, .ptr 0 5 0 0), (12, eI q), (13, eL eF (valsE t4 p.c.length)), (14, .own 4 2 p.c.length), (173, .own 2 1 t4.bas.length), (174, eI t4.bas.length), (175, eI i)]) (fun i => [.row 5 [tbC t4 0], .row 1 (t4.rows.map (eL eF)), .row 1 (t4.bas.map eI), .row zS.n zS.cs, .row 2 ((rayF t4 p.c.length q i).map eF)]) (fun i => i ≤ p.a.length) (fun i => p.a.length - i) 0
    (zck [0, 1, 2, 3, 4] (by decide) ⟨⟨_, rfl, tb_ren rfl rfl⟩, ⟨_, rfl, .rowE (zdb t4) rfl⟩, ⟨_, rfl, .rowE (bas_lo t4) rfl⟩, ⟨_, rfl, .rowE zS.lo rfl⟩, ⟨_, rfl, .rowE (by repeat' (first | exact Lo.s _ | exact za2 | refine zax ?_ ?_ | refine zar ?_ | refine Lo.cells ?_ | refine Lo.agg _ ?_ | exact zak | refine zag ?_ ?_ | intro _)) (by rw [hray]; try (first | rfl | (rw [List.map_set]; rfl)))⟩, trivial⟩ ⟨.ptr 3 3 6 0 0 rfl, .lo _ (.s _), .ptr 0 0 5 0 0 rfl, .lo _ (.s _), .lo _ (lo_Fs _), .own 4 4 2 _ _ rfl (by first | rfl | (simp [za9]; done)), .own 2 2 1 _ _ rfl rfl, .lo _ (.s _), .lo _ (.s _), trivial⟩) (Nat.zero_le _) (fun i hi => ?_)
   refine zah (zab ?_)
   refine za3 rfl rfl (zaa rfl) (za4 rfl rfl rfl) (fun h176 => ?_) (fun h176 => ?_)
   all_goals refine zae (zah ?_)
   all_goals (first | refine za7 rfl ?_ | refine za1 rfl ?_)
   all_goals (repeat (first | refine zah ?_ | refine zat ?_ | refine zaw ?_))
   ·
    have hlt : i < p.a.length := by omega
    have hbi := hsh4.bs i hlt
    have hrow := hsh4.row hlt
    have hxb : (t4.bas.map eI)[i]? = some (eI (gti t4.bas i)) := zbd (by omega)
    have hxr : (t4.rows.map (eL eF))[i]? = some (eL eF (gti t4.rows i)) := zbd (by omega)
    have hxq : ((gti t4.rows i).map eF)[q]? = some (eF (gti (gti t4.rows i) q)) := zbd (by omega)
    have hqo := hok4.cell (i := i) (j := q) hlt (by omega)
    have hng := sneg_pf (P := P) (gti (gti t4.rows i) q) ⟨hqo.1, hqo.2.1⟩
    have hrl := rayF_len t4 p.c.length q i
    refine zab (zac rfl (zaf rfl rfl (zaa rfl) (zau rfl ts22 ti3 rfl rfl rfl (by omega)) (zaf rfl rfl (zaa rfl) (zap rfl ta3 rfl rfl rfl hxb rfl) (zac rfl (zac rfl (zae (zah (zab (zac rfl (zac rfl ?_))))))))))
    refine za3 rfl rfl (zaa rfl) (za4 rfl rfl rfl) (fun h182 => ?_) (fun h182 => ?_)
    all_goals refine zae (zai ?_)
    all_goals (first | refine za7 rfl ?_ | refine za1 rfl ?_)
    all_goals (repeat (first | refine zai ?_ | refine zat ?_ | refine zbu ?_))
    ·
     obtain ⟨b, hb⟩ : ∃ b : Nat, gti t4.bas i = b := ⟨(gti t4.bas i).toNat, by omega⟩
     have hbn : b < p.c.length := by omega
     have hxo : ((rayF t4 p.c.length q i).map eF)[b]? = some (eF (gti (rayF t4 p.c.length q i) b)) := zbd (by omega)
     have hv : rayF t4 p.c.length q (i + 1) = (rayF t4 p.c.length q i).set b (fneg (gti (gti t4.rows i) q)) := by rw [rayF, if_pos h182, hb]; rfl
     refine zab (zac rfl (zac rfl (zac rfl (zac rfl (zb1 zc4 rfl (zaf rfl rfl (zaa rfl) (zap rfl ta45 rfl rfl rfl rfl rfl) (zac rfl (zaf rfl rfl (zaa rfl) (zau rfl ts45 ti30 rfl rfl rfl (by omega)) (zaf rfl rfl (zaa rfl) (zap rfl ta30 rfl rfl rfl hxr rfl) (zac rfl (zaf rfl rfl (zaa rfl) (zal rfl ts30 ti51 rfl rfl rfl hxq rfl) (zc5 ta51 ti51 rfl (zaf rfl rfl (zaa rfl) (zam rfl rfl (hng) (zad rfl zaq)) (zaf rfl rfl (zaa rfl) (zau rfl ts30 ti51 rfl rfl hb hbn) ?_))))))))))))))
     refine zbe rfl (zaa rfl) (zaj rfl ti51 rfl rfl rfl hxo rfl rfl (by decide) (by decide)) (zae (zbu (zai (zab (zaf rfl rfl (zaa rfl) (zav rfl rfl rfl (IntWalk.i64_in _ (by omega))) (zac rfl (zae (zai ?_))))))))
     exact ⟨i + 1, by omega, by omega, (zck [0, 1, 2, 3, 4] (by decide) ⟨⟨_, rfl, tb_ren rfl rfl⟩, ⟨_, rfl, .rowE (zdb t4) rfl⟩, ⟨_, rfl, .rowE (bas_lo t4) rfl⟩, ⟨_, rfl, .rowE zS.lo rfl⟩, ⟨_, rfl, .rowE (by repeat' (first | exact Lo.s _ | exact za2 | refine zax ?_ ?_ | refine zar ?_ | refine Lo.cells ?_ | refine Lo.agg _ ?_ | exact zak | refine zag ?_ ?_ | intro _)) (by rw [hv, List.map_set]; try rfl)⟩, trivial⟩ ⟨.ptr 3 3 6 0 0 rfl, .lo _ (.s _), .ptr 0 0 5 0 0 rfl, .lo _ (.s _), .lo _ (lo_Fs _), .own 4 4 2 _ _ rfl (by first | rfl | (simp [za9]; done)), .own 2 2 1 _ _ rfl rfl, .lo _ (.s _), .lo _ (.s _), trivial⟩)⟩
    ·
     have hv : rayF t4 p.c.length q (i + 1) = rayF t4 p.c.length q i := by rw [rayF, if_neg h182]
     refine zab (zaf rfl rfl (zaa rfl) (zav rfl rfl rfl (IntWalk.i64_in _ (by omega))) (zac rfl (zae (zai ?_))))
     exact ⟨i + 1, by omega, by omega, (zck [0, 1, 2, 3, 4] (by decide) ⟨⟨_, rfl, tb_ren rfl rfl⟩, ⟨_, rfl, .rowE (zdb t4) rfl⟩, ⟨_, rfl, .rowE (bas_lo t4) rfl⟩, ⟨_, rfl, .rowE zS.lo rfl⟩, ⟨_, rfl, .rowE (by repeat' (first | exact Lo.s _ | exact za2 | refine zax ?_ ?_ | refine zar ?_ | refine Lo.cells ?_ | refine Lo.agg _ ?_ | exact zak | refine zag ?_ ?_ | intro _)) (by rw [hv])⟩, trivial⟩ ⟨.ptr 3 3 6 0 0 rfl, .lo _ (.s _), .ptr 0 0 5 0 0 rfl, .lo _ (.s _), .lo _ (lo_Fs _), .own 4 4 2 _ _ rfl (by first | rfl | (simp [za9]; done)), .own 2 2 1 _ _ rfl rfl, .lo _ (.s _), .lo _ (.s _), trivial⟩)⟩
   ·
    have ei : i = p.a.length := by omega
    subst ei
    (refine zcl ?_; repeat (first | refine zc3 ?_ | refine zb2 ?_ | refine zbq rfl ?_ | refine zbu ?_ | refine zai ?_ | refine zah ?_ | refine zat ?_ | refine zaw ?_))
    refine zbi (zbs (id := 4) rfl) (zbi (wk_sl (d := 14) rfl rfl (by rw [List.length_map, rayF_len])) ?_)
    refine zab (zac rfl (zac rfl (zaf rfl rfl (zaa rfl) (za6 rfl ti53 tp53 rfl rfl) (zbe rfl (zaa rfl) (zaj rfl ti53 rfl rfl rfl rfl rfl rfl (by decide) (by decide)) (zac rfl (zae (zai ?_)))))))
    (refine za8 ?_; repeat (first | refine zbg ?_ | refine zbh ?_))
    subst HI
    exact post_cs (N := 0) (.inr rfl) ta53 ti53 rfl rfl rfl rfl rfl rfl (.agg _ _ rfl (zbb.cons (.refl _) (zbb.cons (.refl _) (zbb.cons .nil (zbb.cons (.refl _) (zbb.cons (.refl _) (zbb.cons (.refl _) zbb.nil)))))).2) (.refl _)
  ·
   have hqn : ¬ q < p.c.length := by omega
   have hray : rayF t4 p.c.length q 0 = za9 p.c.length := by unfold rayF; rw [if_neg hqn]
   refine zab (zac rfl (zac rfl (zb1 zdi rfl (zaf rfl rfl (zaa rfl) (zap rfl ta22 rfl rfl rfl rfl rfl) (zaf rfl rfl (zaa rfl) (zc6 rfl ts22 rfl) (zac rfl (zae (zai (zaw ?_)))))))))
   refine zca (S := Nat) (fun i => [(2, .ptr 3 6 0 0), (4, eI p.c.length), (6, .ptr 0 5 0 0), (12, eI q), (13, eL eF (valsE t4 p.c.length)), (14, .own 4 2 p.c.length), (173, .own 2 1 t4.bas.length), (174, eI t4.bas.length), (175, eI i)]) (fun i => [.row 5 [tbC t4 0], .row 1 (t4.rows.map (eL eF)), .row 1 (t4.bas.map eI), .row zS.n zS.cs, .row 2 ((rayF t4 p.c.length q i).map eF)]) (fun i => i ≤ p.a.length) (fun i => p.a.length - i) 0
    (zck [0, 1, 2, 3, 4] (by decide) ⟨⟨_, rfl, tb_ren rfl rfl⟩, ⟨_, rfl, .rowE (zdb t4) rfl⟩, ⟨_, rfl, .rowE (bas_lo t4) rfl⟩, ⟨_, rfl, .rowE zS.lo rfl⟩, ⟨_, rfl, .rowE (by repeat' (first | exact Lo.s _ | exact za2 | refine zax ?_ ?_ | refine zar ?_ | refine Lo.cells ?_ | refine Lo.agg _ ?_ | exact zak | refine zag ?_ ?_ | intro _)) (by rw [hray]; try (first | rfl | (rw [List.map_set]; rfl)))⟩, trivial⟩ ⟨.ptr 3 3 6 0 0 rfl, .lo _ (.s _), .ptr 0 0 5 0 0 rfl, .lo _ (.s _), .lo _ (lo_Fs _), .own 4 4 2 _ _ rfl (by first | rfl | (simp [za9]; done)), .own 2 2 1 _ _ rfl rfl, .lo _ (.s _), .lo _ (.s _), trivial⟩) (Nat.zero_le _) (fun i hi => ?_)
   refine zah (zab ?_)
   refine za3 rfl rfl (zaa rfl) (za4 rfl rfl rfl) (fun h176 => ?_) (fun h176 => ?_)
   all_goals refine zae (zah ?_)
   all_goals (first | refine za7 rfl ?_ | refine za1 rfl ?_)
   all_goals (repeat (first | refine zah ?_ | refine zat ?_ | refine zaw ?_))
   ·
    have hlt : i < p.a.length := by omega
    have hbi := hsh4.bs i hlt
    have hrow := hsh4.row hlt
    have hxb : (t4.bas.map eI)[i]? = some (eI (gti t4.bas i)) := zbd (by omega)
    have hxr : (t4.rows.map (eL eF))[i]? = some (eL eF (gti t4.rows i)) := zbd (by omega)
    have hxq : ((gti t4.rows i).map eF)[q]? = some (eF (gti (gti t4.rows i) q)) := zbd (by omega)
    have hqo := hok4.cell (i := i) (j := q) hlt (by omega)
    have hng := sneg_pf (P := P) (gti (gti t4.rows i) q) ⟨hqo.1, hqo.2.1⟩
    have hrl := rayF_len t4 p.c.length q i
    refine zab (zac rfl (zaf rfl rfl (zaa rfl) (zau rfl ts22 ti3 rfl rfl rfl (by omega)) (zaf rfl rfl (zaa rfl) (zap rfl ta3 rfl rfl rfl hxb rfl) (zac rfl (zac rfl (zae (zah (zab (zac rfl (zac rfl ?_))))))))))
    refine za3 rfl rfl (zaa rfl) (za4 rfl rfl rfl) (fun h182 => ?_) (fun h182 => ?_)
    all_goals refine zae (zai ?_)
    all_goals (first | refine za7 rfl ?_ | refine za1 rfl ?_)
    all_goals (repeat (first | refine zai ?_ | refine zat ?_ | refine zbu ?_))
    ·
     obtain ⟨b, hb⟩ : ∃ b : Nat, gti t4.bas i = b := ⟨(gti t4.bas i).toNat, by omega⟩
     have hbn : b < p.c.length := by omega
     have hxo : ((rayF t4 p.c.length q i).map eF)[b]? = some (eF (gti (rayF t4 p.c.length q i) b)) := zbd (by omega)
     have hv : rayF t4 p.c.length q (i + 1) = (rayF t4 p.c.length q i).set b (fneg (gti (gti t4.rows i) q)) := by rw [rayF, if_pos h182, hb]; rfl
     refine zab (zac rfl (zac rfl (zac rfl (zac rfl (zb1 zc4 rfl (zaf rfl rfl (zaa rfl) (zap rfl ta45 rfl rfl rfl rfl rfl) (zac rfl (zaf rfl rfl (zaa rfl) (zau rfl ts45 ti30 rfl rfl rfl (by omega)) (zaf rfl rfl (zaa rfl) (zap rfl ta30 rfl rfl rfl hxr rfl) (zac rfl (zaf rfl rfl (zaa rfl) (zal rfl ts30 ti51 rfl rfl rfl hxq rfl) (zc5 ta51 ti51 rfl (zaf rfl rfl (zaa rfl) (zam rfl rfl (hng) (zad rfl zaq)) (zaf rfl rfl (zaa rfl) (zau rfl ts30 ti51 rfl rfl hb hbn) ?_))))))))))))))
     refine zbe rfl (zaa rfl) (zaj rfl ti51 rfl rfl rfl hxo rfl rfl (by decide) (by decide)) (zae (zbu (zai (zab (zaf rfl rfl (zaa rfl) (zav rfl rfl rfl (IntWalk.i64_in _ (by omega))) (zac rfl (zae (zai ?_))))))))
     exact ⟨i + 1, by omega, by omega, (zck [0, 1, 2, 3, 4] (by decide) ⟨⟨_, rfl, tb_ren rfl rfl⟩, ⟨_, rfl, .rowE (zdb t4) rfl⟩, ⟨_, rfl, .rowE (bas_lo t4) rfl⟩, ⟨_, rfl, .rowE zS.lo rfl⟩, ⟨_, rfl, .rowE (by repeat' (first | exact Lo.s _ | exact za2 | refine zax ?_ ?_ | refine zar ?_ | refine Lo.cells ?_ | refine Lo.agg _ ?_ | exact zak | refine zag ?_ ?_ | intro _)) (by rw [hv, List.map_set]; try rfl)⟩, trivial⟩ ⟨.ptr 3 3 6 0 0 rfl, .lo _ (.s _), .ptr 0 0 5 0 0 rfl, .lo _ (.s _), .lo _ (lo_Fs _), .own 4 4 2 _ _ rfl (by first | rfl | (simp [za9]; done)), .own 2 2 1 _ _ rfl rfl, .lo _ (.s _), .lo _ (.s _), trivial⟩)⟩
    ·
     have hv : rayF t4 p.c.length q (i + 1) = rayF t4 p.c.length q i := by rw [rayF, if_neg h182]
     refine zab (zaf rfl rfl (zaa rfl) (zav rfl rfl rfl (IntWalk.i64_in _ (by omega))) (zac rfl (zae (zai ?_))))
     exact ⟨i + 1, by omega, by omega, (zck [0, 1, 2, 3, 4] (by decide) ⟨⟨_, rfl, tb_ren rfl rfl⟩, ⟨_, rfl, .rowE (zdb t4) rfl⟩, ⟨_, rfl, .rowE (bas_lo t4) rfl⟩, ⟨_, rfl, .rowE zS.lo rfl⟩, ⟨_, rfl, .rowE (by repeat' (first | exact Lo.s _ | exact za2 | refine zax ?_ ?_ | refine zar ?_ | refine Lo.cells ?_ | refine Lo.agg _ ?_ | exact zak | refine zag ?_ ?_ | intro _)) (by rw [hv])⟩, trivial⟩ ⟨.ptr 3 3 6 0 0 rfl, .lo _ (.s _), .ptr 0 0 5 0 0 rfl, .lo _ (.s _), .lo _ (lo_Fs _), .own 4 4 2 _ _ rfl (by first | rfl | (simp [za9]; done)), .own 2 2 1 _ _ rfl rfl, .lo _ (.s _), .lo _ (.s _), trivial⟩)⟩
   ·
    have ei : i = p.a.length := by omega
    subst ei
    (refine zcl ?_; repeat (first | refine zc3 ?_ | refine zb2 ?_ | refine zbq rfl ?_ | refine zbu ?_ | refine zai ?_ | refine zah ?_ | refine zat ?_ | refine zaw ?_))
    refine zbi (zbs (id := 4) rfl) (zbi (wk_sl (d := 14) rfl rfl (by rw [List.length_map, rayF_len])) ?_)
    refine zab (zac rfl (zac rfl (zaf rfl rfl (zaa rfl) (za6 rfl ti53 tp53 rfl rfl) (zbe rfl (zaa rfl) (zaj rfl ti53 rfl rfl rfl rfl rfl rfl (by decide) (by decide)) (zac rfl (zae (zai ?_)))))))
    (refine za8 ?_; repeat (first | refine zbg ?_ | refine zbh ?_))
    subst HI
    exact post_cs (N := 0) (.inr rfl) ta53 ti53 rfl rfl rfl rfl rfl rfl (.agg _ _ rfl (zbb.cons (.refl _) (zbb.cons (.refl _) (zbb.cons .nil (zbb.cons (.refl _) (zbb.cons (.refl _) (zbb.cons (.refl _) zbb.nil)))))).2) (.refl _)
 ·
  rw [if_neg (by omega)] at HI
  have hmu := K4.mult_call (P := P) zS t4 hsh4 (turnL p) (by rw [turnL_len, hbm]) 0 (by omega)
  rw [e4] at hmu
  have hdot := fDot_pf (P := P) p.c (valsE t4 p.c.length)
  generalize dotE p.c (valsE t4 p.c.length) = dd at hdot HI
  generalize mulTE t4 (turnL p) 0 = mm at hmu HI
  refine zab (zac rfl (zac rfl (zaf rfl rfl (zaa rfl) (zbo rfl rfl hmu (zad rfl (zad rfl (zad rfl zaq)))) (zac rfl (zae (zah (zab (zb1 tf47_0 rfl (zby ta30 rfl (zac rfl (zaf rfl rfl (zaa rfl) (zam rfl rfl (hdot) (zad rfl (zad rfl zaq))) (zac rfl (zac rfl (zac rfl (zaf rfl rfl (zaa rfl) (za0 rfl ti51 rfl rfl) (zbe rfl (zaa rfl) (zaj rfl ti51 rfl rfl rfl rfl rfl rfl (by decide) (by decide)) (zac rfl (zae (zah (zah (zab (zac rfl (zac rfl ?_)))))))))))))))))))))))
  refine zb1 zdu rfl (zaf rfl rfl (zaa rfl) (zap rfl ta33 rfl rfl rfl rfl rfl) ?_)
  refine za3 rfl rfl (zaa rfl) (zbw rfl rfl rfl) (fun h215 => ?_) (fun h215 => ?_)
  all_goals refine zae (zai ?_)
  all_goals (first | refine za7 rfl ?_ | refine za1 rfl ?_)
  all_goals (repeat (first | refine zah ?_ | refine zat ?_))
  ·
   rw [if_pos h215] at HI
   refine zab (zac rfl (zac rfl (zb1 zdu rfl (zaf rfl rfl (zaa rfl) (zap rfl ta33 rfl rfl rfl rfl rfl) (zac rfl (zae (zah (zab (zac rfl (zac rfl (zaf rfl rfl (zaa rfl) (zba rfl ta51 ti51 rfl rfl rfl rfl rfl) (zaf rfl rfl (zaa rfl) (za6 rfl ti53 tp53 rfl rfl) (zac rfl (zbe rfl (zaa rfl) (zaj rfl ti53 rfl rfl rfl rfl rfl rfl (by decide) (by decide)) (zac rfl (zae (zai ?_)))))))))))))))))
   (refine za8 ?_; repeat (first | refine zbg ?_ | refine zbh ?_))
   subst HI
   exact post_cs (N := 0) (.inr rfl) ta53 ti53 rfl rfl rfl rfl rfl rfl (.agg _ _ rfl (zbb.cons (.refl _) (zbb.cons (.refl _) (zbb.cons (.refl _) (zbb.cons .nil (zbb.cons (.refl _) (zbb.cons (.refl _) zbb.nil)))))).2) (.refl _)
  ·
   rw [if_neg h215] at HI
   refine zab (zac rfl (zac rfl (zaf rfl rfl (zaa rfl) (zba rfl ta51 ti51 rfl rfl rfl rfl rfl) (zaf rfl rfl (zaa rfl) (za6 rfl ti53 tp53 rfl rfl) (zac rfl (zbe rfl (zaa rfl) (zaj rfl ti53 rfl rfl rfl rfl rfl rfl (by decide) (by decide)) (zac rfl (zae (zai ?_)))))))))
   (refine za8 ?_; repeat (first | refine zbg ?_ | refine zbh ?_))
   subst HI
   exact post_cs (N := 0) (.inr rfl) ta53 ti53 rfl rfl rfl rfl rfl rfl (.agg _ _ rfl (zbb.cons (.refl _) (zbb.cons (.refl _) (zbb.cons (.refl _) (zbb.cons .nil (zbb.cons (.refl _) (zbb.cons (.refl _) zbb.nil)))))).2) (.refl _)
end Go.Proofs.Ytllkbjcemecmjaa.Aw
end
section
namespace Go.Proofs.Ytllkbjcemecmjaa.Aw
open Go Go.RowKit Go.Proofs
variable {P : Program} [IsP P]
theorem lpOk_of {p : LP} (hv : validP p = true) : LpOk p p.c.length p.a.length := by
 obtain ⟨⟨q1, q2, q3, q4, q5, q6, q7, q8⟩, qr⟩ := validP_iff hv
 exact ⟨rfl, rfl, q7, q5, ⟨q1, q2⟩, ⟨q3, q4⟩, fun x hx => (Fr.okB_iff _).1 (List.all_eq_true.1 q6 x hx), fun x hx => (Fr.okB_iff _).1 (List.all_eq_true.1 q8 x hx), fun i hi => ⟨(qr i hi).1, fun x hx => (Fr.okB_iff _).1 (List.all_eq_true.1 (qr i hi).2.1 x hx)⟩⟩
noncomputable def slvE (p : LP) : Sol × Int :=
 if validP p = false then (solZ, 1) else
 if (solE p).2 ≠ 0 then (solZ, 6) else
 if checkB p (solE p).1 = false then (solZ, 6) else ((solE p).1, 0)
theorem slvE_ok {p : LP} (h : (slvE p).2 = 0) : checkB p (slvE p).1 = true := by
 unfold slvE at h ⊢
 split at h
 ·
  cases h
 ·
  rename_i h1
  rw [if_neg h1]
  split at h
  ·
   cases h
  ·
   rename_i h2
   rw [if_neg h2]
   split at h
   ·
    cases h
   ·
    rename_i h3
    rw [if_neg h3]
    simpa using h3
set_option maxHeartbeats 2000000 in
theorem solve_pf (p : LP) : Pure P 16 [eP p] (.tup [eSol (slvE p).1, eI (slvE p).2]) := by
 have hva := sValid_pf (P := P) p
 have hlo : Lo 0 (.ref (eP p).cells) := .ref _ (lo_P p).cells
 refine zcu (by rw [IsP.eq (P := P)]; exact Try.func16) rfl rfl rfl rfl rfl (by repeat' (first | exact Lo.s _ | exact zak | refine zag ?_ ?_ | refine zan ?_ | refine Lo.agg _ ?_ | refine Lo.sl _ ?_ | intro _)) (by repeat' (first | exact Lo.s _ | exact zak | refine zag ?_ ?_ | refine zan ?_ | refine Lo.cells ?_ | refine Lo.agg _ ?_ | refine Lo.ref _ ?_ | refine Lo.tup _ ?_ | refine Lo.fn _ _ ?_ | refine Lo.sl _ ?_ | intro _)) (by simp only [argF]; rfl) ?_
 refine zah (zab (zaf rfl rfl (zaa rfl) (zb4 rfl rfl rfl rfl) (zaf rfl rfl (zaa rfl) (za0 rfl ti53 rfl rfl) (zac rfl (zae (zah (zah ?_)))))))
 refine zbi (zbs (id := 0) rfl) (zbi (zch (d := 1) rfl rfl rfl) ?_)
 cases hv : validP p with
 | false =>
  rw [hv] at hva
  have hR : slvE p = (solZ, 1) := by unfold slvE; rw [if_pos hv]
  rw [hR]
  refine zab (zc5 ta47 ti47 rfl (zaf rfl rfl (zaa rfl) (zam rfl rfl (hva) (zad rfl zaq)) (zaf rfl rfl (zaa rfl) (zbv rfl rfl) (zae (zai (za7 rfl (zah (zab (zaf rfl rfl (zaa rfl) (za6 rfl ti53 tp53 rfl rfl) (zbe rfl (zaa rfl) (zaj rfl ti53 rfl rfl rfl rfl rfl rfl (by decide) (by decide)) (zac rfl (zae (zai ?_)))))))))))))
  (refine za8 ?_; repeat (first | refine zbg ?_ | refine zbh ?_))
  exact post_cs (N := 0) (.inr rfl) ta53 ti53 rfl rfl rfl rfl rfl rfl (.agg _ _ rfl (zbb.cons (.refl _) (zbb.cons .nil (zbb.cons .nil (zbb.cons .nil (zbb.cons (.refl _) (zbb.cons (.refl _) zbb.nil)))))).2) (.refl _)
 | true =>
  rw [hv] at hva
  have hs := solved_pf (P := P) p (lpOk_of hv)
  have hc := sCheck_pf (P := P) p (solE p).1
  have HI : slvE p = if (solE p).2 ≠ 0 then (solZ, 6) else if checkB p (solE p).1 = false then (solZ, 6) else ((solE p).1, 0) := by
   unfold slvE; rw [if_neg (by rw [hv]; simp)]
  generalize slvE p = R at HI ⊢
  generalize solE p = s at hs hc HI
  refine zab (zc5 ta47 ti47 rfl (zaf rfl rfl (zaa rfl) (zam rfl rfl (hva) (zad rfl zaq)) (zaf rfl rfl (zaa rfl) (zbv rfl rfl) (zae (zai (za1 rfl (zat (zah (zab (zc5 ta47 ti47 rfl (zaf rfl rfl (zaa rfl) (zam rfl rfl (hs) (zad rfl zaq)) (zac rfl (zac rfl (zac rfl (zaf rfl rfl (zaa rfl) (za0 rfl ti53 rfl rfl) (zbe rfl (zaa rfl) (zaj rfl ti53 rfl rfl rfl rfl rfl rfl (by decide) (by decide)) (zac rfl (zae (zah (zah ?_))))))))))))))))))))
  by_cases he : s.2 ≠ 0
  ·
   rw [if_pos he] at HI
   refine zab (zac rfl (zaf rfl rfl (zaa rfl) (zds he (zbw rfl rfl rfl)) (zac rfl (zay rfl (zay rfl (zay rfl (zay rfl (zac rfl (zae (zai (za7 rfl (zah (zab (zaf rfl rfl (zaa rfl) (za6 rfl ti53 tp53 rfl rfl) (zbe rfl (zaa rfl) (zaj rfl ti53 rfl rfl rfl rfl rfl rfl (by decide) (by decide)) (zac rfl (zae (zai ?_))))))))))))))))))
   (refine za8 ?_; repeat (first | refine zbg ?_ | refine zbh ?_))
   subst HI
   exact post_cs (N := 0) (.inr rfl) ta53 ti53 rfl rfl rfl rfl rfl rfl (.agg _ _ rfl (zbb.cons (.refl _) (zbb.cons .nil (zbb.cons .nil (zbb.cons .nil (zbb.cons (.refl _) (zbb.cons (.refl _) zbb.nil)))))).2) (.refl _)
  ·
   rw [if_neg he] at HI
   cases hck : checkB p s.1 with
   | false =>
    rw [hck] at hc
    rw [if_pos hck] at HI
    refine zab (zac rfl (zaf rfl rfl (zaa rfl) (dec_f he (zbw rfl rfl rfl)) (zac rfl (zc5 ta47 ti47 rfl (zaf rfl rfl (zas rfl rfl rfl) (zba rfl ta53 ti53 rfl rfl rfl rfl rfl) (zaf rfl rfl (zas rfl rfl rfl) (zam rfl rfl (hc) (zad rfl (zad rfl zaq))) (zaf rfl rfl (zas rfl rfl rfl) (zbv rfl rfl) (zac rfl (zae (zai (za7 rfl (zah (zab (zaf rfl rfl (zaa rfl) (za6 rfl ti53 tp53 rfl rfl) (zbe rfl (zaa rfl) (zaj rfl ti53 rfl rfl rfl rfl rfl rfl (by decide) (by decide)) ?_)))))))))))))))
    refine zac rfl (zae (zai ?_))
    (refine za8 ?_; repeat (first | refine zbg ?_ | refine zbh ?_))
    subst HI
    exact post_cs (N := 0) (.inr rfl) ta53 ti53 rfl rfl rfl rfl rfl rfl (.agg _ _ rfl (zbb.cons (.refl _) (zbb.cons .nil (zbb.cons .nil (zbb.cons .nil (zbb.cons (.refl _) (zbb.cons (.refl _) zbb.nil)))))).2) (.refl _)
   | true =>
    rw [hck] at hc
    rw [if_neg (by rw [hck]; simp)] at HI
    refine zab (zac rfl (zaf rfl rfl (zaa rfl) (dec_f he (zbw rfl rfl rfl)) (zac rfl (zc5 ta47 ti47 rfl (zaf rfl rfl (zas rfl rfl rfl) (zba rfl ta53 ti53 rfl rfl rfl rfl rfl) (zaf rfl rfl (zas rfl rfl rfl) (zam rfl rfl (hc) (zad rfl (zad rfl zaq))) (zaf rfl rfl (zas rfl rfl rfl) (zbv rfl rfl) (zac rfl (zae (zai (za1 rfl (zat (zah (zab (zaf rfl rfl (zaa rfl) (zba rfl ta53 ti53 rfl rfl rfl rfl rfl) (zbe rfl (zaa rfl) (zaj rfl ti53 rfl rfl rfl rfl rfl rfl (by decide) (by decide)) ?_))))))))))))))))
    refine zac rfl (zae (zai ?_))
    (refine za8 ?_; repeat (first | refine zbg ?_ | refine zbh ?_))
    subst HI
    exact post_cs (N := 0) (.inr rfl) ta53 ti53 rfl rfl rfl rfl rfl rfl (.refl _) (.refl _)
end Go.Proofs.Ytllkbjcemecmjaa.Aw
end
section
namespace Go.Proofs.Ytllkbjcemecmjaa.Aw
open Go Go.RowKit Go.Proofs
variable {P : Program} [IsP P]
def pvA (d : List Int) (l : List Sft) (cost left : Int) : AV := .agg [eL eI d, eL eSh l, eI cost, eI left]
theorem zerosR_po (n : Nat) (h : 1 ≤ n ∧ n ≤ 24) : PureO P 55 [eL eF [Fr.of 0], eI n] 2 ((za9 n).map eF) :=
 repO (K1.repF_call (Fr.of 0) n ⟨h.1, by omega⟩) h.1 (zag (.sl _ (zag (lo_F _) zak)) (zag (.s _) zak))
def simE (d : List Int) (l : List Sft) (cost : Int) (hi : List Int) : List Fr :=
 let k := shE d l hi
 if 0 ≤ k then (za9 d.length).set k.toNat (Fr.of (cost + 1)) else za9 d.length
theorem zdt {ρ : List Nat} {d : List Int} {l : List Sft} {a b : Int} : ObRn ρ (.row 4 [pvA d l a b]) (.row 4 [pvA d l a b]) := .rowE (by
 intro e he c hc
 simp only [List.mem_singleton] at he
 subst he
 simp only [pvA, AV.cells, List.mem_cons, List.mem_nil_iff, or_false] at hc
 rcases hc with rfl | rfl | rfl | rfl
 ·
  exact zan fun _ => .s _
 ·
  exact zan fun s => lo_Sh s
 ·
  exact .s _
 ·
  exact .s _) rfl
namespace K1
set_option maxHeartbeats 2000000 in
theorem simple_call (d : List Int) (l : List Sft) (cost left : Int) (lo hi : List Int) (hv : zb6 d l = true) (hc : okC l hi) (hd : 1 ≤ d.length ∧ d.length ≤ 24) (hk : 0 ≤ cost ∧ cost ≤ 1000000) (hs : shE d l hi < d.length) :
  CallE P 42 [.ptr 0 4 0 0, eBx lo hi] [.row 4 [pvA d l cost left]] (eL eF (simE d l cost hi)) [.row 4 [pvA d l cost left]] := by
 have hz := zerosR_po (P := P) d.length hd
 have hsh := short_pf (P := P) d l hi hv hc
 have hzl : ((za9 d.length).map eF).length = d.length := by simp [za9]
 have HI : simE d l cost hi = if 0 ≤ shE d l hi then (za9 d.length).set (shE d l hi).toNat (Fr.of (cost + 1)) else za9 d.length := rfl
 generalize simE d l cost hi = R at HI ⊢
 generalize shE d l hi = k at hs hsh HI
 refine callE_fn1 (Nat.le_refl _) (by rw [IsP.eq (P := P)]; exact Try.func42) rfl rfl (Nat.le_of_ble_eq_true rfl) rfl ?_
 simp only [argF]
 refine kw_seq (kw_region (kops_op rfl rfl (zaa rfl) (zb4 rfl rfl rfl rfl) (kops_s rfl (kops_nil (kw_seq ?_)))))
 refine kw_weak (kwk_froz (id := 1) rfl) ?_
 refine kw_weak (kwk_ref (d := 3) rfl rfl rfl) ?_
 refine kw_draw hmix ?_
 refine kdraw_ex ?_
 refine zaz rfl rfl (zaa rfl) (fun _ => (zam rfl rfl ((whole_pf 0)) (zad rfl zaq))) (zaz rfl rfl (zaa rfl) (fun _ => (zcr rfl ts30 ti51 rfl rfl (by decide) (by decide) rfl rfl rfl (.agg _ (zag (.s _) (zag (.s _) zak))))) (ex_s rfl (ex_s rfl (ex_f tf70_0 rfl (zbt rfl rfl (zaa rfl) (zbn rfl ta22 rfl rfl rfl rfl rfl) (zaz rfl rfl (zaa rfl) (fun _ => (zao rfl ts22 rfl)) ?_))))))
 refine zdh rfl rfl (zaa rfl) (does_callO rfl rfl (hz) (zad rfl (zad rfl zaq))) (fun _ h => zdr h) ?_
 refine ex_s rfl ?_
 refine zcc (by kernel_rfl) ?_
 refine kw_seq (kw_seq ?_)
 refine kw_draw hmix ?_
 refine kdraw_ex ?_
 refine ex_s rfl (ex_s rfl (ex_f tf70_0 rfl (zbt rfl rfl (zaa rfl) (zbn rfl ta22 rfl rfl rfl rfl rfl) (ex_s rfl (ex_s rfl (ex_f tf70_1 rfl (zbt rfl rfl (zaa rfl) (zbn rfl ta23 rfl rfl rfl rfl rfl) (ex_f tf74_1 rfl (ex_l ta22 rfl (zaz rfl rfl (zaa rfl) (fun _ => (zam rfl rfl (hsh) (zad rfl (zad rfl (zad rfl zaq))))) (ex_s rfl ?_)))))))))))
 refine zcc (by kernel_rfl) ?_
 refine kw_seq (kw_region (kops_s rfl ?_))
 refine kops_opP rfl rfl (zaa rfl) (zcz rfl rfl rfl) (fun h27 => ?_) (fun h27 => ?_)
 all_goals refine kops_nil (zai ?_)
 all_goals (first | refine kw_true rfl ?_ | refine kw_false rfl ?_)
 all_goals (repeat (first | refine kw_seq ?_ | refine kw_skip ?_))
 ·
  rw [if_pos h27] at HI
  obtain ⟨q, rfl⟩ : ∃ q : Nat, k = q := ⟨k.toNat, by omega⟩
  have hxq : ((za9 d.length).map eF)[q]? = some (eF (gti (za9 d.length) q)) := zbd (by simp [za9]; omega)
  refine kw_region (kops_s rfl (kops_s rfl (kops_s rfl (kops_s rfl (kops_f tf70_2 rfl (kops_op rfl rfl (zaa rfl) (zap rfl ta3 rfl rfl rfl rfl rfl) (kops_op rfl rfl (zaa rfl) (zav rfl rfl rfl (IntWalk.i64_in _ (by omega))) (kops_op rfl rfl (zaa rfl) (zam rfl rfl ((whole_pf _)) (zad rfl zaq)) (kops_op rfl rfl (zaa rfl) (zau rfl ts30 ti51 rfl rfl rfl (by omega)) (kops_eff rfl (zaa rfl) (zaj rfl ti51 rfl rfl rfl hxq rfl rfl (by decide) (by decide)) (kops_nil (kw_seq ?_))))))))))))
  refine kw_weak (kwk_froz (id := 2) rfl) ?_
  refine kw_weak (kwk_sl (d := 5) rfl rfl (by simp [za9])) ?_
  refine kw_region (kops_s rfl (kops_s rfl (kops_nil (zai ?_))))
  have hR : ((za9 d.length).map eF).set q (eF (Fr.of (cost + 1))) = R.map eF := by rw [HI, List.map_set]; rfl
  have hLo : Lo 0 (.sl (((za9 d.length).map eF).set q (eF (Fr.of (cost + 1))))) := by rw [hR]; exact lo_Fs R
  refine kw_weak (F' := [(4, .sl (((za9 d.length).map eF).set q (eF (Fr.of (cost + 1)))))]) (σ' := [.row 4 [pvA d l cost left]]) (kwk_st [0] rfl (by decide) ⟨⟨_, rfl, zdt⟩, trivial⟩ ⟨.lo _ hLo, trivial⟩) ?_
  (refine kw_ret ?_; repeat (first | refine zbg ?_ | refine zbh ?_))
  exact ⟨.inr rfl, congrArg AV.sl hR, rfl⟩
 ·
  rw [if_neg h27] at HI
  refine kw_weak (kwk_froz (id := 2) rfl) ?_
  refine kw_weak (kwk_sl (d := 5) rfl rfl (by simp [za9])) ?_
  refine kw_region (kops_s rfl (kops_s rfl (kops_nil (zai ?_))))
  subst HI
  refine kw_weak (F' := [(4, eL eF (za9 d.length))]) (σ' := [.row 4 [pvA d l cost left]]) (kwk_st [0] rfl (by decide) ⟨⟨_, rfl, zdt⟩, trivial⟩ ⟨.lo _ (lo_Fs _), trivial⟩) ?_
  (refine kw_ret ?_; repeat (first | refine zbg ?_ | refine zbh ?_))
  exact ⟨.inr rfl, rfl, rfl⟩
end K1
end Go.Proofs.Ytllkbjcemecmjaa.Aw
end
section
namespace Go.Proofs.Ytllkbjcemecmjaa.Aw
open Go Go.RowKit Go.Proofs
variable {P : Program} [IsP P]
theorem pe1_bd (d : List Int) : ∀ (n i : Nat), i < (pe1 d n).length → 0 ≤ gti (pe1 d n) i ∧ gti (pe1 d n) i < n
 | 0, i, h => by simp [pe1] at h
 | n + 1, i, h => by
  unfold pe1 at h ⊢
  by_cases hi : i < (pe1 d n).length
  ·
   have h1 := pe1_bd d n i hi
   have e : gti (pe1 d n ++ if 0 < gti d n then [(n : Int)] else []) i = gti (pe1 d n) i := by unfold gti; rw [List.getElem?_append_left hi]
   rw [e]; omega
  ·
   split at h
   ·
    rename_i hp
    have hi2 : i = (pe1 d n).length := by simp at h; omega
    have e : gti (pe1 d n ++ if 0 < gti d n then [(n : Int)] else []) i = n := by rw [if_pos hp]; unfold gti; rw [List.getElem?_append_right (by omega), hi2, Nat.sub_self]; rfl
    rw [e]; omega
   ·
    simp at h; omega
def mltF (s : Sol) (cost : Int) (per : List Int) (y0 : List Fr) : Nat → List Fr
 | 0 => y0
 | i + 1 =>
  let y1 := (mltF s cost per y0 i).set (gti per i).toNat (gti s.y i)
  if s.kind = 2 then (if (mulE (gti s.y i) (Fr.of (2 * cost + 2))).e = 0 then y1.set (gti per i).toNat (mulE (gti s.y i) (Fr.of (2 * cost + 2))).fr else y1) else y1
theorem mltF_len (s : Sol) (cost : Int) (per : List Int) (y0 : List Fr) : ∀ i, (mltF s cost per y0 i).length = y0.length
 | 0 => rfl
 | i + 1 => by unfold mltF; dsimp only; split <;> (try split) <;> simp [mltF_len s cost per y0 i]
noncomputable def mltE (d : List Int) (l : List Sft) (cost : Int) (lo hi : List Int) : List Fr × Bool :=
 if l.length = 0 then (za9 d.length, true) else
 if 12 < (prgE d l lo hi).a.length then (za9 d.length, false) else
 if (slvE (prgE d l lo hi)).2 ≠ 0 then (za9 d.length, false) else
 if (slvE (prgE d l lo hi)).1.kind = 3 then (za9 d.length, false) else
 if (slvE (prgE d l lo hi)).1.y.length < (pe1 d d.length).length then (za9 d.length, false) else
 (mltF (slvE (prgE d l lo hi)).1 cost (pe1 d d.length) (za9 d.length) (pe1 d d.length).length, true)
namespace K1
set_option maxHeartbeats 4000000 in
theorem multipliers_call (d : List Int) (l : List Sft) (cost left : Int) (lo hi : List Int) (hv : zb6 d l = true) (hlo : lo.length = l.length) (hhi : hi.length = l.length) (hd : 1 ≤ d.length ∧ d.length ≤ 24) (hk : 0 ≤ cost ∧ cost ≤ 1000000) :
  CallE P 40 [.ptr 0 4 0 0, eBx lo hi] [.row 4 [pvA d l cost left]] (.tup [eL eF (mltE d l cost lo hi).1, eB (mltE d l cost lo hi).2]) [.row 4 [pvA d l cost left]] := by
 have hz := zerosR_po (P := P) d.length hd
 have hzl : ((za9 d.length).map eF).length = d.length := by simp [za9]
 have hpg := program_pf (P := P) d l lo hi hv hlo hhi
 have hso := solve_pf (P := P) (prgE d l lo hi)
 have HI : mltE d l cost lo hi = mltE d l cost lo hi := rfl
 conv at HI => rhs; unfold mltE
 have hpe := fun i => pe1_bd d d.length i
 have hpl := pe1_len d d.length
 generalize mltE d l cost lo hi = R at HI ⊢
 generalize slvE (prgE d l lo hi) = s at hso HI
 generalize prgE d l lo hi = lp at hpg hso HI
 generalize pe1 d d.length = per at hpg hpe hpl HI
 have fin : ∀ (y : List Fr) (b : Bool) (N : Nat) (F : Frm) (X : List Ob), R = (y, b) → F.get 4 = .own 2 2 d.length → F.get 5 = eB b → True := fun _ _ _ _ _ _ _ _ => trivial
 refine callE_fn (Nat.le_refl _) (by rw [IsP.eq (P := P)]; exact Try.func40) rfl rfl (Nat.le_of_ble_eq_true rfl) ?_
 simp only [argF]
 refine kw_seq (kw_region (kops_op rfl rfl (zaa rfl) (zb4 rfl rfl rfl rfl) (kops_s rfl (kops_s rfl (kops_nil (kw_seq ?_))))))
 refine kw_weak (kwk_froz (id := 1) rfl) ?_
 refine kw_weak (kwk_ref (d := 3) rfl rfl rfl) ?_
 refine kw_draw hmix ?_
 refine kdraw_ex ?_
 refine zaz rfl rfl (zaa rfl) (fun _ => (zam rfl rfl ((whole_pf 0)) (zad rfl zaq))) (zaz rfl rfl (zaa rfl) (fun _ => (zcr rfl ts30 ti51 rfl rfl (by decide) (by decide) rfl rfl rfl (.agg _ (zag (.s _) (zag (.s _) zak))))) (ex_s rfl (ex_s rfl (ex_f tf70_0 rfl (zbt rfl rfl (zaa rfl) (zbn rfl ta22 rfl rfl rfl rfl rfl) (zaz rfl rfl (zaa rfl) (fun _ => (zao rfl ts22 rfl)) ?_))))))
 refine zdh rfl rfl (zaa rfl) (does_callO rfl rfl (hz) (zad rfl (zad rfl zaq))) (fun _ h => zdr h) ?_
 refine ex_s rfl ?_
 refine zcc (by kernel_rfl) ?_
 refine kw_seq (kw_seq (kw_region (kops_s rfl (kops_s rfl (kops_f tf70_1 rfl (kops_op rfl rfl (zaa rfl) (zap rfl ta23 rfl rfl rfl rfl rfl) (kops_op rfl rfl (zaa rfl) (zao rfl ts23 rfl) ?_)))))))
 refine kops_opP rfl rfl (zaa rfl) (zbk rfl rfl rfl) (fun h28 => ?_) (fun h28 => ?_)
 all_goals refine kops_nil (zai ?_)
 all_goals (first | refine kw_true rfl ?_ | refine kw_false rfl ?_)
 all_goals (repeat (first | refine kw_seq ?_ | refine kw_skip ?_))
 ·
  rw [if_pos (by omega)] at HI
  refine kw_weak (kwk_froz (id := 2) rfl) ?_
  refine kw_weak (kwk_sl (d := 6) rfl rfl (by simp [za9])) ?_
  refine kw_region (kops_s rfl (kops_s rfl (kops_s rfl (kops_nil (zai ?_)))))
  subst HI
  refine kw_weak (F' := [(4, eL eF (za9 d.length)), (5, eB true)]) (σ' := [.row 4 [pvA d l cost left]]) (kwk_st [0] rfl (by decide) ⟨⟨_, rfl, zdt⟩, trivial⟩ ⟨.lo _ (lo_Fs _), .lo _ (.s _), trivial⟩) ?_
  (refine kw_ret ?_; repeat (first | refine zbg ?_ | refine zbh ?_))
  exact ⟨.inr rfl, rfl, _, .cons _ _ _ _ (.tmp 4 _ rfl) (.cons _ _ _ _ (.tmp 5 _ rfl) .nil), rfl⟩
 rw [if_neg (by omega)] at HI
 refine kw_draw hmix ?_
 refine kdraw_ex ?_
 refine ex_s rfl (ex_s rfl (ex_f tf70_0 rfl (zbt rfl rfl (zaa rfl) (zbn rfl ta22 rfl rfl rfl rfl rfl) (ex_s rfl (ex_s rfl (ex_f tf70_1 rfl (zbt rfl rfl (zaa rfl) (zbn rfl ta23 rfl rfl rfl rfl rfl) (ex_w ta74 ti74 rfl (zaz rfl rfl (zaa rfl) (fun _ => (zam rfl rfl (hpg) (zad rfl (zad rfl (zad rfl zaq))))) (ex_s rfl (ex_s rfl (ex_s rfl ?_))))))))))))
 refine zdh rfl rfl (zaa rfl) (za0 rfl ti47 rfl rfl) (fun _ h => zdr h) ?_
 refine zci rfl (zaa rfl) (zaj rfl ti47 rfl rfl rfl rfl rfl rfl (by decide) (by decide)) (fun _ h => zbr h) ?_
 refine ex_s rfl ?_
 refine zcc (by kernel_rfl) ?_
 refine kw_seq (kw_seq ?_)
 refine kw_weak (kwk_froz (id := 3) rfl) ?_
 refine kw_weak (kwk_ref (d := 7) rfl rfl rfl) ?_
 refine kw_weak (F' := [(0, .ptr 0 4 0 0), (6, .own 1 2 d.length), (7, .ref (eP lp).cells), (8, eL eI per)]) (σ' := [.row 4 [pvA d l cost left], .row 2 ((za9 d.length).map eF)]) (kwk_st [0, 2] rfl (by decide) ⟨⟨_, rfl, zdt⟩, ⟨_, rfl, .rowE (by repeat' (first | exact Lo.s _ | exact za2 | refine zax ?_ ?_ | refine zar ?_ | refine Lo.cells ?_ | refine Lo.agg _ ?_ | exact zak | refine zag ?_ ?_ | intro _)) rfl⟩, trivial⟩ ⟨.ptr 0 0 4 0 0 rfl, .own 2 1 2 _ _ rfl hzl, .lo _ (.ref _ (lo_P lp).cells), .lo _ (zan fun _ => .s _), trivial⟩) ?_
 refine kw_region (kops_f tf47_1 rfl (kops_l ta45 rfl (kops_op rfl rfl (zaa rfl) (zao rfl ts45 rfl) ?_)))
 refine kops_opP rfl rfl (zaa rfl) (zb5 rfl rfl rfl) (fun h46 => ?_) (fun h46 => ?_)
 all_goals refine kops_nil (zai ?_)
 all_goals (first | refine kw_true rfl ?_ | refine kw_false rfl ?_)
 all_goals (repeat (first | refine kw_seq ?_ | refine kw_skip ?_))
 ·
  rw [if_pos (by omega)] at HI
  refine kw_weak (kwk_froz (id := 1) rfl) ?_
  refine kw_weak (kwk_sl (d := 6) rfl rfl (by simp [za9, mltF_len])) ?_
  refine kw_region (kops_s rfl (kops_s rfl (kops_s rfl (kops_nil (zai ?_)))))
  refine kw_weak (F' := [(4, eL eF (za9 d.length)), (5, eB false)]) (σ' := [.row 4 [pvA d l cost left]]) (kwk_st [0] rfl (by decide) ⟨⟨_, rfl, zdt⟩, trivial⟩ ⟨.lo _ (lo_Fs _), .lo _ (.s _), trivial⟩) ?_
  (refine kw_ret ?_; repeat (first | refine zbg ?_ | refine zbh ?_))
  subst HI
  exact ⟨.inr rfl, rfl, _, .cons _ _ _ _ (.tmp 4 _ rfl) (.cons _ _ _ _ (.tmp 5 _ rfl) .nil), rfl⟩
 rw [if_neg (by omega)] at HI
 refine kw_region (kops_w ta47 ti47 rfl (kops_op rfl rfl (zaa rfl) (zam rfl rfl (hso) (zad rfl zaq)) (kops_s rfl (kops_s rfl (kops_s rfl (kops_op rfl rfl (zaa rfl) (za0 rfl ti53 rfl rfl) (kops_eff rfl (zaa rfl) (zaj rfl ti53 rfl rfl rfl rfl rfl rfl (by decide) (by decide)) (kops_s rfl (kops_nil (kw_seq (kw_seq ?_)))))))))))
 refine kw_weak (kwk_froz (id := 2) rfl) ?_
 refine kw_weak (kwk_ref (d := 9) rfl rfl rfl) ?_
 refine kw_region (kops_s rfl ?_)
 refine kops_opP rfl rfl (zaa rfl) (zbw rfl rfl rfl) (fun h54 => ?_) (fun h54 => ?_)
 all_goals refine kops_s rfl ?_
 all_goals (first | refine kops_f tf53_0 rfl ?_ | refine kops_z rfl ?_)
 all_goals (first | refine kops_l ta3 rfl ?_ | refine kops_z rfl ?_)
 all_goals (first | refine kops_opP rfl rfl (zas rfl rfl rfl) (zbk rfl rfl rfl) (fun h58 => ?_) (fun h58 => ?_) | refine kops_z rfl ?_)
 all_goals refine kops_s rfl (kops_s rfl ?_)
 all_goals (first | refine kops_f tf53_2 rfl ?_ | refine kops_z rfl ?_)
 all_goals (first | refine kops_l ta30 rfl ?_ | refine kops_z rfl ?_)
 all_goals (first | refine kops_op rfl rfl (zas rfl rfl rfl) (zao rfl ts30 rfl) ?_ | refine kops_z rfl ?_)
 all_goals (first | refine kops_s rfl ?_ | refine kops_z rfl ?_)
 all_goals (first | refine kops_op rfl rfl (zas rfl rfl rfl) (zao rfl ts22 rfl) ?_ | refine kops_z rfl ?_)
 all_goals (first | refine kops_opP rfl rfl (zas rfl rfl rfl) (za4 rfl rfl rfl) (fun h66 => ?_) (fun h66 => ?_) | refine kops_z rfl ?_)
 all_goals refine kops_s rfl (kops_nil (zai ?_))
 all_goals (first | refine kw_true rfl ?_ | refine kw_false rfl ?_)
 all_goals (repeat (first | refine kw_seq ?_ | refine kw_skip ?_))
 ·
  rw [if_pos h54] at HI
  refine kw_weak (kwk_froz (id := 1) rfl) ?_
  refine kw_weak (kwk_sl (d := 6) rfl rfl (by simp [za9, mltF_len])) ?_
  refine kw_region (kops_s rfl (kops_s rfl (kops_s rfl (kops_nil (zai ?_)))))
  refine kw_weak (F' := [(4, eL eF (za9 d.length)), (5, eB false)]) (σ' := [.row 4 [pvA d l cost left]]) (kwk_st [0] rfl (by decide) ⟨⟨_, rfl, zdt⟩, trivial⟩ ⟨.lo _ (lo_Fs _), .lo _ (.s _), trivial⟩) ?_
  (refine kw_ret ?_; repeat (first | refine zbg ?_ | refine zbh ?_))
  subst HI
  exact ⟨.inr rfl, rfl, _, .cons _ _ _ _ (.tmp 4 _ rfl) (.cons _ _ _ _ (.tmp 5 _ rfl) .nil), rfl⟩
 ·
  rw [if_neg h54, if_pos h58] at HI
  refine kw_weak (kwk_froz (id := 1) rfl) ?_
  refine kw_weak (kwk_sl (d := 6) rfl rfl (by simp [za9, mltF_len])) ?_
  refine kw_region (kops_s rfl (kops_s rfl (kops_s rfl (kops_nil (zai ?_)))))
  refine kw_weak (F' := [(4, eL eF (za9 d.length)), (5, eB false)]) (σ' := [.row 4 [pvA d l cost left]]) (kwk_st [0] rfl (by decide) ⟨⟨_, rfl, zdt⟩, trivial⟩ ⟨.lo _ (lo_Fs _), .lo _ (.s _), trivial⟩) ?_
  (refine kw_ret ?_; repeat (first | refine zbg ?_ | refine zbh ?_))
  subst HI
  exact ⟨.inr rfl, rfl, _, .cons _ _ _ _ (.tmp 4 _ rfl) (.cons _ _ _ _ (.tmp 5 _ rfl) .nil), rfl⟩
 ·
  rw [if_neg h54, if_neg h58, if_pos (by omega)] at HI
  refine kw_weak (kwk_froz (id := 1) rfl) ?_
  refine kw_weak (kwk_sl (d := 6) rfl rfl (by simp [za9, mltF_len])) ?_
  refine kw_region (kops_s rfl (kops_s rfl (kops_s rfl (kops_nil (zai ?_)))))
  refine kw_weak (F' := [(4, eL eF (za9 d.length)), (5, eB false)]) (σ' := [.row 4 [pvA d l cost left]]) (kwk_st [0] rfl (by decide) ⟨⟨_, rfl, zdt⟩, trivial⟩ ⟨.lo _ (lo_Fs _), .lo _ (.s _), trivial⟩) ?_
  (refine kw_ret ?_; repeat (first | refine zbg ?_ | refine zbh ?_))
  subst HI
  exact ⟨.inr rfl, rfl, _, .cons _ _ _ _ (.tmp 4 _ rfl) (.cons _ _ _ _ (.tmp 5 _ rfl) .nil), rfl⟩
 rw [if_neg h54, if_neg h58, if_neg (by omega)] at HI
 refine kw_region (kops_s rfl (kops_op rfl rfl (zaa rfl) (zao rfl ts22 rfl) (kops_s rfl (kops_nil (zai (kw_block ?_))))))
 refine kw_loops (S := Nat) (fun i => [(0, .ptr 0 4 0 0), (6, .own 1 2 d.length), (9, .ref (eSol s.1).cells), (69, eL eI per), (70, eI per.length), (71, eI i)]) (fun i => [.row 4 [pvA d l cost left], .row 2 ((mltF s.1 cost per (za9 d.length) i).map eF)]) (fun i => i ≤ per.length) (fun i => per.length - i) 0
  (kwk_st [0, 1] rfl (by decide) ⟨⟨_, rfl, zdt⟩, ⟨_, rfl, .rowE (by repeat' (first | exact Lo.s _ | exact za2 | refine zax ?_ ?_ | refine zar ?_ | refine Lo.cells ?_ | refine Lo.agg _ ?_ | exact zak | refine zag ?_ ?_ | intro _)) rfl⟩, trivial⟩ ⟨.ptr 0 0 4 0 0 rfl, .own 1 1 2 _ _ rfl rfl, .lo _ (.ref _ (lo_Sol s.1).cells), .lo _ (zan fun _ => .s _), .lo _ (.s _), .lo _ (.s _), trivial⟩) (Nat.zero_le _) (fun i hi => ?_)
 have hml := mltF_len s.1 cost per (za9 d.length) i
 have hzl2 : (za9 d.length).length = d.length := by simp [za9]
 refine kw_seq (kw_region ?_)
 refine kops_opP rfl rfl (zaa rfl) (za4 rfl rfl rfl) (fun h72 => ?_) (fun h72 => ?_)
 all_goals refine kops_nil (kw_seq ?_)
 all_goals (first | refine kw_true rfl ?_ | refine kw_false rfl ?_)
 all_goals (repeat (first | refine kw_seq ?_ | refine kw_skip ?_ | refine kw_block ?_))
 ·
  have hlt : i < per.length := by omega
  have hbd := hpe i hlt
  obtain ⟨k, hkk⟩ : ∃ k : Nat, gti per i = k := ⟨(gti per i).toNat, by omega⟩
  have hkd : k < d.length := by omega
  have hxp : (per.map eI)[i]? = some (eI (gti per i)) := zbd hlt
  have hxy : (s.1.y.map eF)[i]? = some (eF (gti s.1.y i)) := zbd (by omega)
  have hxo : ((mltF s.1 cost per (za9 d.length) i).map eF)[k]? = some (eF (gti (mltF s.1 cost per (za9 d.length) i) k)) := zbd (by omega)
  have hx1 : (((mltF s.1 cost per (za9 d.length) i).map eF).set k (eF (gti s.1.y i)))[k]? = some (eF (gti s.1.y i)) := List.getElem?_set_self (by simp; omega)
  have hstep : mltF s.1 cost per (za9 d.length) (i + 1) = if s.1.kind = 2 then (if (mulE (gti s.1.y i) (Fr.of (2 * cost + 2))).e = 0 then ((mltF s.1 cost per (za9 d.length) i).set k (gti s.1.y i)).set k (mulE (gti s.1.y i) (Fr.of (2 * cost + 2))).fr else (mltF s.1 cost per (za9 d.length) i).set k (gti s.1.y i)) else (mltF s.1 cost per (za9 d.length) i).set k (gti s.1.y i) := by
   rw [mltF, hkk]; rfl
  refine kw_region (kops_s rfl (kops_op rfl rfl (zaa rfl) (zal rfl ts22 ti3 rfl rfl rfl hxp rfl) (kops_l ta3 rfl (kops_s rfl (kops_s rfl (kops_nil (kw_seq (kw_region (kops_s rfl (kops_s rfl (kops_f tf53_2 rfl (kops_l ta30 rfl (kops_s rfl (kops_op rfl rfl (zaa rfl) (zal rfl ts30 ti51 rfl rfl rfl hxy rfl) (kops_w ta51 ti51 rfl (kops_op rfl rfl (zaa rfl) (zau rfl ts30 ti51 rfl rfl hkk hkd) (kops_eff rfl (zaa rfl) (zaj rfl ti51 rfl rfl rfl hxo rfl rfl (by decide) (by decide)) (kops_nil (kw_seq (kw_region (kops_f tf53_0 rfl ?_)))))))))))))))))))))
  refine kops_l ta3 rfl ?_
  refine kops_opP rfl rfl (zaa rfl) (zbk rfl rfl rfl) (fun h86 => ?_) (fun h86 => ?_)
  all_goals refine kops_nil (zai ?_)
  all_goals (first | refine kw_true rfl ?_ | refine kw_false rfl ?_)
  all_goals (repeat (first | refine kw_seq ?_ | refine zai ?_ | refine kw_skip ?_ | refine zbu ?_))
  ·
   rw [if_pos h86] at hstep
   have hmu := fMul_pf (P := P) (gti s.1.y i) (Fr.of (2 * cost + 2))
   have hwh := whole_pf (P := P) (2 * cost + 2)
   generalize mulE (gti s.1.y i) (Fr.of (2 * cost + 2)) = z at hstep hmu
   refine kw_draw hmix ?_
   refine kdraw_ex ?_
   refine ex_s rfl (ex_s rfl (zaz rfl rfl (zaa rfl) (fun _ => (zau rfl ts30 ti51 rfl rfl hkk hkd)) (zbt rfl rfl (zaa rfl) (look_whole rfl ta51 ti51 rfl rfl rfl hx1 rfl) (ex_s rfl (ex_s rfl (ex_f tf70_2 rfl (zbt rfl rfl (zaa rfl) (zbn rfl ta3 rfl rfl rfl rfl rfl) (zaz rfl rfl (zaa rfl) (fun _ => (does_mul rfl rfl rfl (IntWalk.i64_in _ (by omega)))) (zaz rfl rfl (zaa rfl) (fun _ => (zav rfl rfl rfl (IntWalk.i64_in _ (by omega)))) (zaz rfl rfl (zaa rfl) (fun _ => (zam rfl rfl (hwh) (zad rfl zaq))) (zaz rfl rfl (zaa rfl) (fun _ => (zam rfl rfl (hmu) (zad rfl (zad rfl zaq)))) ?_)))))))))))
   refine ex_s rfl (ex_s rfl (ex_s rfl ?_))
   refine zdh rfl rfl (zaa rfl) (za0 rfl ti51 rfl rfl) (fun _ h => zdr h) ?_
   refine zci rfl (zaa rfl) (zaj rfl ti51 rfl rfl rfl rfl rfl rfl (by decide) (by decide)) (fun _ h => zbr h) ?_
   refine ex_s rfl ?_
   refine zcc (by kernel_rfl) ?_
   refine kw_seq (kw_region (kops_s rfl ?_))
   refine kops_opP rfl rfl (zaa rfl) (zbk rfl rfl rfl) (fun h103 => ?_) (fun h103 => ?_)
   all_goals refine kops_nil (zai ?_)
   all_goals (first | refine kw_true rfl ?_ | refine kw_false rfl ?_)
   all_goals (repeat (first | refine zai ?_ | refine kw_skip ?_ | refine zbu ?_))
   ·
    rw [if_pos h103] at hstep
    refine kw_region (kops_s rfl (kops_s rfl (kops_op rfl rfl (zaa rfl) (zba rfl ta51 ti51 rfl rfl rfl rfl rfl) (kops_op rfl rfl (zaa rfl) (zau rfl ts30 ti51 rfl rfl hkk hkd) (kops_eff rfl (zaa rfl) (zaj rfl ti51 rfl rfl rfl hx1 rfl rfl (by decide) (by decide)) (kops_nil (zbu (zai (kw_region (kops_op rfl rfl (zaa rfl) (zav rfl rfl rfl (IntWalk.i64_in _ (by omega))) (kops_s rfl (kops_nil (zai ?_)))))))))))))
    exact ⟨i + 1, by omega, by omega, kwk_st [0, 1] rfl (by decide) ⟨⟨_, rfl, zdt⟩, ⟨_, rfl, .rowE (by repeat' (first | exact Lo.s _ | exact za2 | refine zax ?_ ?_ | refine zar ?_ | refine Lo.cells ?_ | refine Lo.agg _ ?_ | exact zak | refine zag ?_ ?_ | intro _)) (by rw [hstep, List.map_set, List.map_set]; rfl)⟩, trivial⟩ ⟨.ptr 0 0 4 0 0 rfl, .own 1 1 2 _ _ rfl rfl, .lo _ (.ref _ (lo_Sol s.1).cells), .lo _ (zan fun _ => .s _), .lo _ (.s _), .lo _ (.s _), trivial⟩⟩
   ·
    rw [if_neg h103] at hstep
    refine kw_region (kops_op rfl rfl (zaa rfl) (zav rfl rfl rfl (IntWalk.i64_in _ (by omega))) (kops_s rfl (kops_nil (zai ?_))))
    exact ⟨i + 1, by omega, by omega, kwk_st [0, 1] rfl (by decide) ⟨⟨_, rfl, zdt⟩, ⟨_, rfl, .rowE (by repeat' (first | exact Lo.s _ | exact za2 | refine zax ?_ ?_ | refine zar ?_ | refine Lo.cells ?_ | refine Lo.agg _ ?_ | exact zak | refine zag ?_ ?_ | intro _)) (by rw [hstep, List.map_set]; rfl)⟩, trivial⟩ ⟨.ptr 0 0 4 0 0 rfl, .own 1 1 2 _ _ rfl rfl, .lo _ (.ref _ (lo_Sol s.1).cells), .lo _ (zan fun _ => .s _), .lo _ (.s _), .lo _ (.s _), trivial⟩⟩
  ·
   rw [if_neg h86] at hstep
   refine kw_region (kops_op rfl rfl (zaa rfl) (zav rfl rfl rfl (IntWalk.i64_in _ (by omega))) (kops_s rfl (kops_nil (zai ?_))))
   exact ⟨i + 1, by omega, by omega, kwk_st [0, 1] rfl (by decide) ⟨⟨_, rfl, zdt⟩, ⟨_, rfl, .rowE (by repeat' (first | exact Lo.s _ | exact za2 | refine zax ?_ ?_ | refine zar ?_ | refine Lo.cells ?_ | refine Lo.agg _ ?_ | exact zak | refine zag ?_ ?_ | intro _)) (by rw [hstep, List.map_set]; rfl)⟩, trivial⟩ ⟨.ptr 0 0 4 0 0 rfl, .own 1 1 2 _ _ rfl rfl, .lo _ (.ref _ (lo_Sol s.1).cells), .lo _ (zan fun _ => .s _), .lo _ (.s _), .lo _ (.s _), trivial⟩⟩
 ·
  have ei : i = per.length := by omega
  subst ei
  (refine kw_exit ?_; repeat (first | refine zc3 ?_ | refine zb2 ?_ | refine zbq rfl ?_ | refine zbu ?_ | refine zai ?_ | refine kw_seq ?_ | refine kw_skip ?_ | refine kw_block ?_))
  refine kw_weak (kwk_froz (id := 1) rfl) ?_
  refine kw_weak (kwk_sl (d := 6) rfl rfl (by simp [za9, mltF_len])) ?_
  refine kw_region (kops_s rfl (kops_s rfl (kops_s rfl (kops_nil (zai ?_)))))
  refine kw_weak (F' := [(4, eL eF (mltF s.1 cost per (za9 d.length) per.length)), (5, eB true)]) (σ' := [.row 4 [pvA d l cost left]]) (kwk_st [0] rfl (by decide) ⟨⟨_, rfl, zdt⟩, trivial⟩ ⟨.lo _ (lo_Fs _), .lo _ (.s _), trivial⟩) ?_
  (refine kw_ret ?_; repeat (first | refine zbg ?_ | refine zbh ?_))
  subst HI
  exact ⟨.inr rfl, rfl, _, .cons _ _ _ _ (.tmp 4 _ rfl) (.cons _ _ _ _ (.tmp 5 _ rfl) .nil), rfl⟩
end K1
end Go.Proofs.Ytllkbjcemecmjaa.Aw
end
section
namespace Go.Proofs.Ytllkbjcemecmjaa.Aw
open Go Go.RowKit Go.Proofs
def NoMp : Ob → Prop
 | .mp _ => False
 | _ => True
section
variable {P : Program} {σ σ' X : List Ob} {f : FuncId} {args : List AV} {r : AV}
def rowsOf (G : Cx) (τ : List Ob) (k b : Nat) : Prop := ∃ i, k ≤ i ∧ alive τ i ∧ G.mu i = some (some b)
def Cx.front (G : Cx) (τ : List Ob) (k : Nat) : Cx := { G with mu := fun i => if i < k then G.mu i else none, Pr := fun b o => G.Pr b o ∨ rowsOf G τ k b }
theorem rowAt_low {G G' : Cx} {k b sz : Nat} {cs : List AV} {f : Nat × Nat → Prop} (low : ∀ {v x}, Rep G v x → Lo k x → Rep G' v x) (hw : G'.w = G.w) (hlo : ∀ e ∈ cs, ∀ c ∈ e.cells, Lo k c) : RowAt G b sz cs f → RowAt G' b sz cs f := fun ⟨cur, t, fr, g1, g2, g3, g4⟩ =>
 ⟨cur, t, fr, by rw [hw]; exact g1, g2, g3, fun i e he => ⟨(g4 i e he).1, (g4 i e he).2.1, fun j c hc => by
  obtain ⟨v, h6, h7⟩ := (g4 i e he).2.2 j c hc
  exact ⟨v, h6, low h7 (hlo e (List.mem_of_getElem? he) c (List.mem_of_getElem? hc))⟩⟩⟩
theorem front_rel {G : Cx} (hr : Rel G (σ ++ X)) (hm : ∀ ob ∈ σ, NoMp ob) (ho : ∀ ob ∈ σ, ObLo σ.length ob) : Rel (G.front (σ ++ X) σ.length) σ := by
 have hmu : ∀ i, i < σ.length → (G.front (σ ++ X) σ.length).mu i = G.mu i := fun i hi => if_pos hi
 have low : ∀ {v x}, Rep G v x → Lo σ.length x → Rep (G.front (σ ++ X) σ.length) v x := fun hv hx => hv.low hx (fun _ _ h => h) (fun _ _ _ => rfl) (fun id y hid hy => by rw [hmu id hid]; exact hy) (fun _ => zb8.refl _)
 have hget : ∀ id ob, σ[id]? = some ob → (σ ++ X)[id]? = some ob := fun id ob h => by rw [List.getElem?_append_left (List.getElem?_eq_some_iff.1 h).1]; exact h
 refine ⟨hr.below, hr.le, fun b o h => ?_, fun id ob hob => ?_, fun i j b hi hj hm1 hm2 => ?_, fun id hid => if_neg (by omega)⟩
 ·
  rcases h with h | h | ⟨i, h1, ⟨sz, cs, h2⟩, h3⟩
  ·
   exact hr.st b o (.inl h)
  ·
   exact hr.st b o (.inr h)
  ·
   exact (hr.obs i _ h2).lt h3
 ·
  have hid := (List.getElem?_eq_some_iff.1 hob).1
  have h1 := hr.obs id ob (hget id ob hob)
  have hlo := ho ob (List.mem_of_getElem? hob)
  have hnm := hm ob (List.mem_of_getElem? hob)
  cases ob with
  | dead => intro b hb; rw [hmu id hid] at hb; exact h1 b hb
  | row sz cs =>
   simp only [ObOk, hmu id hid] at h1 ⊢
   cases hx : G.mu id with
   | none => rw [hx] at h1; exact h1
   | some x =>
    rw [hx] at h1
    cases x with
    | none => exact h1
    | some b =>
     refine ⟨rowAt_low low rfl (fun e he c hc => (hlo e he).cells c hc) h1.1, h1.2.1, fun o h => ?_⟩
     rcases h with h | h | ⟨i, g1, g2, g3⟩
     ·
      exact h1.2.2 o (.inl h)
     ·
      exact h1.2.2 o (.inr h)
     ·
      have := hr.inj i id b g2 ⟨sz, cs, hget id _ hob⟩ g3 hx
      omega
  | fz sz cs =>
   simp only [ObOk, hmu id hid] at h1 ⊢
   cases hx : G.mu id with
   | none => rw [hx] at h1; exact h1
   | some x =>
    rw [hx] at h1
    cases x with
    | none => exact h1
    | some b => exact ⟨rowAt_low low rfl (fun e he c hc => (hlo e he).cells c hc) h1.1, h1.2⟩
  | mp X => exact hnm.elim
 ·
  obtain ⟨sz, cs, h1⟩ := hi
  obtain ⟨sz', cs', h1'⟩ := hj
  rw [hmu i (List.getElem?_eq_some_iff.1 h1).1] at hm1
  rw [hmu j (List.getElem?_eq_some_iff.1 h1').1] at hm2
  exact hr.inj i j b ⟨sz, cs, hget i _ h1⟩ ⟨sz', cs', hget j _ h1'⟩ hm1 hm2
theorem CallE.frame (h : CallE P f args σ r σ') (hl : σ'.length = σ.length) (hX : ∀ ob ∈ X, NoMp ob) (hm : ∀ ob ∈ σ, NoMp ob) (hm' : ∀ ob ∈ σ', NoMp ob) (ha : ∀ x ∈ args, Lo σ.length x) (ho : ∀ ob ∈ σ, ObLo σ.length ob) : CallE P f args (σ ++ X) r (σ' ++ X) := by
 refine ⟨h.ent, fun G vargs hr hsz hrep => ?_⟩
 have hmu : ∀ i, i < σ.length → (G.front (σ ++ X) σ.length).mu i = G.mu i := fun i hi => if_pos hi
 have low : ∀ {v x}, Rep G v x → Lo σ.length x → Rep (G.front (σ ++ X) σ.length) v x := fun hv hx => hv.low hx (fun _ _ h => h) (fun _ _ _ => rfl) (fun id y hid hy => by rw [hmu id hid]; exact hy) (fun _ => zb8.refl _)
 refine (h.call (G.front (σ ++ X) σ.length) vargs (front_rel hr hm ho) hsz (fun j v x h1 h2 => low (hrep j v x h1 h2) (ha x (List.mem_of_getElem? h2)))).mono ?_
 rintro e w' ⟨v, G', rfl, rfl, he, hr', hv⟩
 let G2 : Cx := { G' with mu := fun i => if i < σ.length then G'.mu i else G.mu i, Pr := G.Pr }
 have hmu2 : ∀ i, i < σ.length → G2.mu i = G'.mu i := fun i hi => if_pos hi
 have hmu3 : ∀ i, σ.length ≤ i → G2.mu i = G.mu i := fun i hi => if_neg (by omega)
 have low2 : ∀ {v x}, Rep G' v x → Lo σ.length x → Rep G2 v x := fun hv hx => hv.low hx (fun _ _ h => h) (fun _ _ _ => rfl) (fun id y hid hy => by rw [hmu2 id hid]; exact hy) (fun _ => zb8.refl _)
 have hpr : ∀ b o, G.Pr b o → G'.Pr b o := fun b o h => by rw [he.pr]; exact .inl h
 have hsp : ∀ b o, G2.SP b o → G'.SP b o := fun b o h => h.imp id (hpr b o)
 have hext : G.Ext G2 := ⟨he.base, he.w0, he.st, fun b o h => he.cell b o (h.imp id .inl), fun id x hx => by
   by_cases hid : id < σ.length
   ·
    rw [hmu2 id hid]; exact he.mu id x (by rw [hmu id hid]; exact hx)
   ·
    rw [hmu3 id (by omega)]; exact hx, he.size, he.rows, he.stN, rfl, fun b o h => (he.prN b o h).imp id (fun h1 h2 => h1 (.inl h2))⟩
 have hlo' : ∀ id ob, σ'[id]? = some ob → ObLo σ.length ob := fun id ob hob => by rw [← hl]; exact rel_lo hr' hob
 have hprot : ∀ b, rowsOf G (σ ++ X) σ.length b → ∀ o, G'.Pr b o := fun b hb o => by rw [he.pr]; exact .inr hb
 refine ⟨v, G2, rfl, rfl, hext, ⟨hr'.below, hr'.le, fun b o h => hr'.st b o (hsp b o h), fun id ob hob => ?_, fun i j b hi hj h1 h2 => ?_, fun id hid => ?_⟩, low2 hv (by rw [← hl]; exact rep_lo hr'.fresh hv)⟩
 ·
  by_cases hid : id < σ.length
  ·
   rw [List.getElem?_append_left (by omega)] at hob
   have h1 := hr'.obs id ob hob
   have hlo := hlo' id ob hob
   have hnm := hm' ob (List.mem_of_getElem? hob)
   cases ob with
   | dead => intro b hb; rw [hmu2 id hid] at hb; exact h1 b hb
   | row sz cs =>
    simp only [ObOk, hmu2 id hid] at h1 ⊢
    cases hx : G'.mu id with
    | none => rw [hx] at h1; exact h1
    | some x =>
     rw [hx] at h1
     cases x with
     | none => exact h1
     | some b => exact ⟨rowAt_low low2 rfl (fun e he c hc => (hlo e he).cells c hc) h1.1, h1.2.1, fun o h => h1.2.2 o (hsp b o h)⟩
   | fz sz cs =>
    simp only [ObOk, hmu2 id hid] at h1 ⊢
    cases hx : G'.mu id with
    | none => rw [hx] at h1; exact h1
    | some x =>
     rw [hx] at h1
     cases x with
     | none => exact h1
     | some b => exact ⟨rowAt_low low2 rfl (fun e he c hc => (hlo e he).cells c hc) h1.1, h1.2⟩
   | mp X => exact hnm.elim
  ·
   rw [List.getElem?_append_right (by omega), hl] at hob
   have hobX : (σ ++ X)[id]? = some ob := by rw [List.getElem?_append_right (by omega)]; exact hob
   have h1 := hr.obs id ob hobX
   have hnm := hX ob (List.mem_of_getElem? hob)
   have keepRow : ∀ {b sz : Nat} {cs : List AV} {fq : Nat × Nat → Prop}, RowAt G b sz cs fq → (∀ (k : Nat) e (j : Nat), cs[k]? = some e → j < e.cells.length → (G.front (σ ++ X) σ.length).SP b (k * sz + j)) → RowAt G2 b sz cs fq := fun ⟨cur, t, fr, g1, g2, g3, g4⟩ hk => by
    obtain ⟨cur', k1, k2⟩ := he.rows _ _ _ _ g1
    refine ⟨cur', t, fr, k1, g2, by rw [k2]; exact g3, fun k e hke => ⟨(g4 k e hke).1, (g4 k e hke).2.1, fun j c hc => ?_⟩⟩
    obtain ⟨u, q1, q2⟩ := (g4 k e hke).2.2 j c hc
    have hcell := he.cell _ _ (hk k e j hke (List.getElem?_eq_some_iff.1 hc).1)
    simp only [World.cell?, k1] at hcell
    have e1 : (G.front (σ ++ X) σ.length).w.heap[_]? = _ := g1
    simp only [e1] at hcell
    refine ⟨u, ?_, q2.ext hext⟩
    simpa [q1] using hcell
   cases ob with
   | dead => intro b hb; rw [hmu3 id (by omega)] at hb; exact Nat.lt_of_lt_of_le (h1 b hb) he.size
   | row sz cs =>
    simp only [ObOk, hmu3 id (by omega)] at h1 ⊢
    cases hx : G.mu id with
    | none => rw [hx] at h1; exact h1
    | some x =>
     rw [hx] at h1
     cases x with
     | none => exact h1
     | some b =>
      have hrow : rowsOf G (σ ++ X) σ.length b := ⟨id, by omega, ⟨sz, cs, hobX⟩, hx⟩
      refine ⟨keepRow h1.1 (fun k e j _ _ => .inr (.inr hrow)), ?_, fun o h => ?_⟩
      ·
       show G'.base ≤ b
       rw [he.base]; exact h1.2.1
      ·
       rcases h with h | h
       ·
        rcases he.prN b o h with h2 | h2
        ·
         exact h1.2.2 o (.inl h2)
        ·
         exact h2 (.inr hrow)
       ·
        exact h1.2.2 o (.inr h)
   | fz sz cs =>
    simp only [ObOk, hmu3 id (by omega)] at h1 ⊢
    cases hx : G.mu id with
    | none => rw [hx] at h1; exact h1
    | some x =>
     rw [hx] at h1
     cases x with
     | none => exact h1
     | some b => exact ⟨keepRow h1.1 (fun k e j hk hj => .inl (h1.2 k e j hk hj)), fun k e j hk hj => he.st _ _ (h1.2 k e j hk hj)⟩
   | mp X => exact hnm.elim
 ·
  have cross : ∀ i j, i < σ.length → σ.length ≤ j → alive (σ' ++ X) i → alive (σ' ++ X) j → G2.mu i = some (some b) → G2.mu j = some (some b) → False := fun i j hi hj ⟨sz, cs, a1⟩ ⟨sz', cs', a2⟩ m1 m2 => by
   rw [List.getElem?_append_left (by omega)] at a1
   rw [List.getElem?_append_right (by omega), hl] at a2
   rw [hmu2 i hi] at m1
   rw [hmu3 j hj] at m2
   have h3 := hr'.obs i _ a1
   simp only [ObOk, m1] at h3
   exact h3.2.2 0 (.inr (hprot b ⟨j, hj, ⟨sz', cs', by rw [List.getElem?_append_right (by omega)]; exact a2⟩, m2⟩ 0))
  rcases Nat.lt_or_ge i σ.length with hi' | hi' <;> rcases Nat.lt_or_ge j σ.length with hj' | hj'
  ·
   obtain ⟨sz, cs, a1⟩ := hi
   obtain ⟨sz', cs', a2⟩ := hj
   rw [List.getElem?_append_left (by omega)] at a1 a2
   rw [hmu2 i hi'] at h1
   rw [hmu2 j hj'] at h2
   exact hr'.inj i j b ⟨sz, cs, a1⟩ ⟨sz', cs', a2⟩ h1 h2
  ·
   exact (cross i j hi' hj' hi hj h1 h2).elim
  ·
   exact (cross j i hj' hi' hj hi h2 h1).elim
  ·
   obtain ⟨sz, cs, a1⟩ := hi
   obtain ⟨sz', cs', a2⟩ := hj
   rw [List.getElem?_append_right (by omega), hl] at a1 a2
   rw [hmu3 i hi'] at h1
   rw [hmu3 j hj'] at h2
   refine hr.inj i j b ⟨sz, cs, ?_⟩ ⟨sz', cs', ?_⟩ h1 h2
   ·
    rw [List.getElem?_append_right (by omega)]; exact a1
   ·
    rw [List.getElem?_append_right (by omega)]; exact a2
 ·
  rw [List.length_append, hl] at hid
  rw [hmu3 id (by omega)]
  exact hr.fresh id (by rw [List.length_append]; exact hid)
theorem CallE.frame1 {a a' : Ob} (h : CallE P f args [a] r [a']) (X : List Ob) (hX : ∀ ob ∈ X, NoMp ob) (hm : NoMp a) (hm' : NoMp a') (ha : ∀ x ∈ args, Lo 1 x) (ho : ObLo 1 a) : CallE P f args (a :: X) r (a' :: X) :=
 h.frame (σ := [a]) (σ' := [a']) rfl hX (by simpa using hm) (by simpa using hm') ha (by simpa using ho)
end
end Go.Proofs.Ytllkbjcemecmjaa.Aw
end
section
namespace Go.Proofs.Ytllkbjcemecmjaa.Aw
open Go Go.RowKit Go.Proofs
variable {P : Program} [IsP P]
inductive Wn : AV → AV → Prop
 | refl (x : AV) : Wn x x
 | nil : Wn (.s (.slice none 0 0)) (.sl [])
 | emp : Wn .emp (.sl [])
 | agg (cs cs' : List AV) (hl : cs.length = cs'.length) (h : ∀ (j : Nat) x y, cs[j]? = some x → cs'[j]? = some y → Wn x y) : Wn (.agg cs) (.agg cs')
 | tup (cs cs' : List AV) (hl : cs.length = cs'.length) (h : ∀ (j : Nat) x y, cs[j]? = some x → cs'[j]? = some y → Wn x y) : Wn (.tup cs) (.tup cs')
theorem Wn.one {x y : AV} (h : Wn x y) (hx : x.one = true) : y.one = true := by
 cases h <;> first | exact hx | rfl | (simp [AV.one] at hx)
theorem rep_wn {G : Cx} {x y : AV} (h : Wn x y) : ∀ {v : Value}, Rep G v x → Rep G v y := by
 induction h with
 | refl x => exact fun h => h
 | nil => exact fun h => rep_nil h
 | emp => intro v h; cases h with | emp A hA => exact .slnil A 0
 | agg cs cs' hl h ih =>
  intro v hv
  cases hv with
  | agg vs _ g1 g2 g3 =>
   refine .agg vs cs' (g1.trans hl) (fun c hc => ?_) (fun j v c hv hc => ?_)
   ·
    obtain ⟨j, hj, rfl⟩ := List.mem_iff_getElem.1 hc
    exact (h j _ _ (List.getElem?_eq_getElem (by omega)) (List.getElem?_eq_getElem hj)).one (g2 _ (List.getElem_mem (by omega)))
   ·
    have hj : j < cs.length := by rw [hl]; exact (List.getElem?_eq_some_iff.1 hc).1
    exact ih j _ c (List.getElem?_eq_getElem hj) hc (g3 j v _ hv (List.getElem?_eq_getElem hj))
 | tup cs cs' hl h ih =>
  intro v hv
  cases hv with
  | tup vs _ g1 g3 =>
   refine .tup vs cs' (g1.trans hl) (fun j v c hv hc => ?_)
   have hj : j < cs.length := by rw [hl]; exact (List.getElem?_eq_some_iff.1 hc).1
   exact ih j _ c (List.getElem?_eq_getElem hj) hc (g3 j v _ hv (List.getElem?_eq_getElem hj))
def WnL (l l' : List AV) : Prop := l.length = l'.length ∧ ∀ (j : Nat) x y, l[j]? = some x → l'[j]? = some y → Wn x y
theorem WnL.nil : WnL [] [] := ⟨rfl, by simp⟩
theorem WnL.cons {x y : AV} {l l' : List AV} (h : Wn x y) (t : WnL l l') : WnL (x :: l) (y :: l') := by
 refine ⟨by simp [t.1], fun j a b ha hb => ?_⟩
 cases j with
 | zero => simp at ha hb; subst ha hb; exact h
 | succ j => exact t.2 j a b (by simpa using ha) (by simpa using hb)
theorem WnL.agg {l l' : List AV} (h : WnL l l') : Wn (.agg l) (.agg l') := .agg _ _ h.1 h.2
theorem WnL.tup {l l' : List AV} (h : WnL l l') : Wn (.tup l) (.tup l') := .tup _ _ h.1 h.2
theorem K1.callE_fnW {σ σ' : List Ob} {f : FuncId} {y : AV} {args : List AV} {fn : Func} {c : Code} (hl : σ.length = 1) (hl' : σ'.length = 1) (ho : ∀ ob ∈ σ', ObLo 1 ob) (hy : Lo 1 y) (hf : P.funcs[f]? = some fn) (hname : (fn.name == "runtime.NumGoroutine") = false) (hb : fn.body = some c) (hn : args.length ≤ fn.ntmps)
  (h : K1.KWp P fn.ntmps c (argF 0 args) σ (fun e F σ1 => (e = .normal ∨ e = .ret) ∧ ∃ X xs, σ1 = σ' ++ X ∧ ResL P F σ1 fn.results.toList xs ∧ Wn (oneOf xs) y)) : CallE P f args σ y σ' := by
 refine ⟨enters_of hf hname hb, fun G vargs hrel hsz hrep => ?_⟩
 refine calls_of_wp hf hb ?_
 have hfo : FOk G { tmps := vargs ++ Array.replicate (fn.ntmps - vargs.size) undef, defers := [] } (argF 0 args) := by
  intro d
  rw [argF_get]
  simp only [Nat.zero_le, if_true, Nat.sub_zero]
  by_cases hd : d < args.length
  ·
   have h1 : (vargs ++ Array.replicate (fn.ntmps - vargs.size) undef).getD d undef = vargs[d]'(by omega) := by
    rw [Array.getD_eq_getD_getElem?, Array.getElem?_append_left (by omega)]
    simp [show d < vargs.size by omega]
   rw [h1]
   have h2 : args.getD d .any = args[d] := by rw [List.getD_eq_getElem?_getD, List.getElem?_eq_getElem hd]; rfl
   rw [h2]
   exact hrep d _ _ (by simp [show d < vargs.size by omega]) (by simp [hd])
  ·
   have h2 : args.getD d .any = .any := by
    rw [List.getD_eq_getElem?_getD, List.getElem?_eq_none (by omega)]; rfl
   rw [h2]; exact .any _
 have hs8 : S8 fn.ntmps G { tmps := vargs ++ Array.replicate (fn.ntmps - vargs.size) undef, defers := [] } (argF 0 args) σ := ⟨hrel, hfo, rfl, by simp; omega⟩
 refine Code.wp_mono (fun e a w q => ?_) (h G _ hs8)
 obtain ⟨G', F', σ1, rfl, h2, h3, he, X, xs, rfl, hrl, hw⟩ := q
 obtain ⟨v, h6, h7⟩ := results_run (fn := fn) h3.rel h3.fr hrl
 replace h7 := rep_wn hw h7
 have hext : G.Ext (G'.cut 1) := ⟨h2.step.base, h2.step.w0, h2.step.st, h2.step.cell, fun id x hx => by
  by_cases hid : id < 1
  ·
   have := h2.mu0 id x hid hx
   simp only [Cx.cut, if_pos hid]; exact this
  ·
   rw [hrel.fresh id (by omega)] at hx; exact absurd hx (by simp), h2.size, h2.rows, h2.step.stN, h2.step.pr, h2.step.prN⟩
 have htk : (σ' ++ X).take 1 = σ' := by rw [List.take_append_of_le_length (by omega), List.take_of_length_le (by omega)]
 have hrel' : Rel (G'.cut 1) σ' := by
  have := cut_rel (k := 1) h3.rel (by rw [List.length_append]; omega) (by rw [htk]; exact ho)
  rwa [htk] at this
 have post : ∃ (v' : Value) (G'' : Cx), Ending.returned v = .returned v' ∧ G''.w = G'.w ∧ G.Ext G'' ∧ Rel G'' σ' ∧ Rep G'' v' y := ⟨v, G'.cut 1, rfl, rfl, hext, hrel', h7.low hy (fun _ _ h => h) (fun _ _ _ => rfl) (fun id y hid hy => by simp only [Cx.cut, if_pos hid]; exact hy) (fun _ => zb8.refl _)⟩
 rcases he with rfl | rfl
 ·
  exact ⟨h3.df, _, h6, post⟩
 ·
  exact ⟨h3.df, _, h6, post⟩
theorem noMp1 (X : List Ob) (h : X.all (fun ob => match ob with | .mp _ => false | _ => true) = true) : ∀ ob ∈ X, NoMp ob := fun ob hob => by
 have := List.all_eq_true.1 h ob hob
 cases ob <;> first | trivial | cases this
def zBr : Br := .mk 0 0 [] []
def zdk (lo hi : List Int) : Nat → Int
 | 0 => -1
 | i + 1 => if 0 < gti hi i - gti lo i ∧ (zdk lo hi i < 0 ∨ gti hi (zdk lo hi i).toNat - gti lo (zdk lo hi i).toNat < gti hi i - gti lo i) then (i : Int) else zdk lo hi i
theorem wideF_bd (lo hi : List Int) : ∀ i, -1 ≤ zdk lo hi i ∧ zdk lo hi i < i ∧ (0 ≤ zdk lo hi i → 0 < gti hi (zdk lo hi i).toNat - gti lo (zdk lo hi i).toNat)
 | 0 => by unfold zdk; omega
 | i + 1 => by
  have ih := wideF_bd lo hi i
  unfold zdk
  split
  ·
   rename_i h
   refine ⟨by omega, by omega, fun _ => ?_⟩
   rw [Int.toNat_natCast]; exact h.1
  ·
   exact ⟨ih.1, by omega, ih.2.2⟩
noncomputable def prvT (d : List Int) (l : List Sft) (cost : Int) : Nat → Int → List Int → List Int → Br × Bool × Int
 | 0, n, _, _ => (zBr, false, n)
 | f + 1, n, lo, hi =>
  if n - 1 < 0 then (zBr, false, n - 1) else
  if (mltE d l cost lo hi).2 = true ∧ prvB d l lo hi (mltE d l cost lo hi).1 cost = true then (.mk 0 0 [] (mltE d l cost lo hi).1, true, n - 1) else
  if prvB d l lo hi (simE d l cost hi) cost = true then (.mk 0 0 [] (simE d l cost hi), true, n - 1) else
  if zdk lo hi l.length < 0 then (zBr, false, n - 1) else
  if (prvT d l cost f (n - 1) lo (setI hi (zdk lo hi l.length).toNat ((gti lo (zdk lo hi l.length).toNat + gti hi (zdk lo hi l.length).toNat) / 2))).2.1 = false then (zBr, false, (prvT d l cost f (n - 1) lo (setI hi (zdk lo hi l.length).toNat ((gti lo (zdk lo hi l.length).toNat + gti hi (zdk lo hi l.length).toNat) / 2))).2.2) else
  let t := (gti lo (zdk lo hi l.length).toNat + gti hi (zdk lo hi l.length).toNat) / 2
  let a := prvT d l cost f (n - 1) lo (setI hi (zdk lo hi l.length).toNat t)
  let b := prvT d l cost f a.2.2 (setI lo (zdk lo hi l.length).toNat (t + 1)) hi
  (.mk (zdk lo hi l.length) t [a.1, b.1] [], b.2.1, b.2.2)
theorem prvT_bd (d : List Int) (l : List Sft) (cost : Int) : ∀ (f : Nat) (n : Int) (lo hi : List Int), 0 ≤ n → -1 ≤ (prvT d l cost f n lo hi).2.2 ∧ (prvT d l cost f n lo hi).2.2 ≤ n ∧ ((prvT d l cost f n lo hi).2.1 = true → 0 ≤ (prvT d l cost f n lo hi).2.2)
 | 0, n, lo, hi, h => by unfold prvT; dsimp only; exact ⟨by omega, by omega, fun h => by cases h⟩
 | f + 1, n, lo, hi, h => by
  unfold prvT
  split
  ·
   dsimp only; exact ⟨by omega, by omega, fun h => by cases h⟩
  ·
   split
   ·
    dsimp only; exact ⟨by omega, by omega, fun h => by omega⟩
   ·
    split
    ·
     dsimp only; exact ⟨by omega, by omega, fun h => by omega⟩
    ·
     split
     ·
      dsimp only; exact ⟨by omega, by omega, fun h => by cases h⟩
     ·
      have h1 := prvT_bd d l cost f (n - 1) lo (setI hi (zdk lo hi l.length).toNat ((gti lo (zdk lo hi l.length).toNat + gti hi (zdk lo hi l.length).toNat) / 2)) (by omega)
      split
      ·
       dsimp only; exact ⟨h1.1, by omega, fun h => by cases h⟩
      ·
       rename_i hb
       have h2 := prvT_bd d l cost f _ (setI lo (zdk lo hi l.length).toNat ((gti lo (zdk lo hi l.length).toNat + gti hi (zdk lo hi l.length).toNat) / 2 + 1)) hi (h1.2.2 (by simpa using hb))
       dsimp only
       exact ⟨h2.1, by omega, h2.2.2⟩
def boxM (lo hi : List Int) : Nat → Nat
 | 0 => 0
 | n + 1 => boxM lo hi n + (gti hi n - gti lo n).toNat
theorem boxM_congr {lo hi lo' hi' : List Int} : ∀ {n : Nat}, (∀ i, i < n → (gti hi' i - gti lo' i).toNat ≤ (gti hi i - gti lo i).toNat) → boxM lo' hi' n ≤ boxM lo hi n
 | 0, _ => Nat.le_refl _
 | n + 1, h => by
  have h1 := boxM_congr (n := n) (fun i hi => h i (by omega))
  have h2 := h n (by omega)
  show boxM lo' hi' n + _ ≤ boxM lo hi n + _
  omega
theorem boxM_lt {lo hi lo' hi' : List Int} {k : Nat} : ∀ {n : Nat}, k < n → (∀ i, i < n → (gti hi' i - gti lo' i).toNat ≤ (gti hi i - gti lo i).toNat) → (gti hi' k - gti lo' k).toNat < (gti hi k - gti lo k).toNat → boxM lo' hi' n < boxM lo hi n
 | 0, h, _, _ => by omega
 | n + 1, h, h1, h2 => by
  have h3 := boxM_congr (n := n) (fun i hi => h1 i (by omega))
  have h4 := h1 n (by omega)
  show boxM lo' hi' n + _ < boxM lo hi n + _
  by_cases e : k = n
  ·
   subst e; omega
  ·
   have := boxM_lt (n := n) (by omega) (fun i hi => h1 i (by omega)) h2
   omega
theorem boxM_hi {lo hi : List Int} {n k : Nat} {t : Int} (hk : k < n) (hl : k < hi.length) (h1 : gti lo k ≤ t) (h2 : t < gti hi k) : boxM lo (setI hi k t) n < boxM lo hi n := by
 refine boxM_lt hk (fun i _ => ?_) ?_
 ·
  rw [setI_gti hl]; split
  ·
   rename_i e; subst e; omega
  ·
   exact Nat.le_refl _
 ·
  rw [setI_gti hl, if_pos rfl]; omega
theorem boxM_lo {lo hi : List Int} {n k : Nat} {t : Int} (hk : k < n) (hl : k < lo.length) (h1 : gti lo k < t) (h2 : t ≤ gti hi k) : boxM (setI lo k t) hi n < boxM lo hi n := by
 refine boxM_lt hk (fun i _ => ?_) ?_
 ·
  rw [setI_gti hl]; split
  ·
   rename_i e; subst e; omega
  ·
   exact Nat.le_refl _
 ·
  rw [setI_gti hl, if_pos rfl]; omega
end Go.Proofs.Ytllkbjcemecmjaa.Aw
end
