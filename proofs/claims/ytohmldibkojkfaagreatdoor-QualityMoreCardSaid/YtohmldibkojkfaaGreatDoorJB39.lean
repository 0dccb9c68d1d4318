import Derived.Test.YtohmldibkojkfaaGreatDoorJB38
set_option linter.unusedSimpArgs false
set_option linter.unusedVariables false
set_option linter.unusedSectionVars false
section
namespace Go.Proofs.YtohmldibkojkfaaGreatDoor.Aw
open Go Go.RowKit Go.Proofs Go.Maps Go.WideMaps Dl
variable {P : Program} [IsP P]
set_option maxHeartbeats 8000000 in
theorem run_pf (n : Net) (w : List ByteArray) (c : Cst) (most : Int) : Pure P 64 [eN n, eL eS w, eC c, eI most] (eRun n w c (runO n w c most)) := by
 have HI : runO n w c most = if ze8 n w c = false then (zSr, 0, 1) else if most < 1 ∨ 2000 < most then (zSr, 0, 2) else srP n w c most := rfl
 have hRB : ze8 n w c = (decide ((zc0 n w).2 = 0) && vcB c) := rfl
 have hlR := lo_Run (k := 0) n w c (runO n w c most)
 generalize runO n w c most = R at HI hlR ⊢
 have hrt := zs6 (P := P) n w c
 have hS0 := zsy (P := P) n w
 have hE0 := end_pf (P := P) n w
 generalize ze8 n w c = rb at hrt HI hRB
 have hln : Lo 0 (.ref (eN n).cells) := .ref _ (lo_N n).cells
 have hlc : Lo 0 (.ref (eC c).cells) := .ref _ (lo_C c).cells
 refine zcu (by rw [IsP.eq (P := P)]; exact Tryz.func64) rfl rfl rfl rfl rfl (zaj (lo_N n) (zaj (lo_W w) (zaj (lo_C c) (zaj (.s _) zar)))) hlR (by simp only [argF]; rfl) ?_
 refine zaf (zab (zad rfl rfl (zaa rfl) (zbv rfl rfl rfl rfl) ?_))
 refine zau (zbk (id := 0) rfl) (zau (zch (d := 4) rfl rfl rfl) ?_)
 refine zad rfl rfl (zaa rfl) (zbv rfl rfl rfl rfl) ?_
 refine zau (zbk (id := 1) rfl) (zau (zch (d := 6) rfl rfl rfl) ?_)
 refine zac rfl (zac rfl (zac rfl (zae (zaf (zaq (zaf ?_))))))
 cases rb with
 | false =>
  refine zab (zbr ta24 ti24 rfl (zac rfl (zbr ta27 ti27 rfl (zad rfl rfl (zaa rfl) (zai rfl rfl (hrt) (zag rfl (zag rfl (zag rfl zam)))) (zad rfl rfl (zaa rfl) (zay rfl rfl) (zac rfl (zae (zah (za0 rfl (zaf (zab (zac rfl (zac rfl (zac rfl (zae (zah ?_))))))))))))))))
  (refine zav ?_; repeat (first | refine za6 ?_ | refine za7 ?_))
  have hR : R = (zSr, 0, 1) := HI.trans (if_pos rfl)
  subst hR
  exact zhs (.inr rfl) rfl rfl rfl rfl (if_neg (by decide)).symm
 | true =>
 rw [if_neg (by decide)] at HI
 refine zab (zbr ta24 ti24 rfl (zac rfl (zbr ta27 ti27 rfl (zad rfl rfl (zaa rfl) (zai rfl rfl (hrt) (zag rfl (zag rfl (zag rfl zam)))) (zad rfl rfl (zaa rfl) (zay rfl rfl) (zac rfl (zae (zah (zax rfl (zaf (zab (zac rfl ?_))))))))))))
 refine zfo rfl rfl (zaa rfl) (zaz rfl rfl rfl) (fun h38 => ?_) (fun h38 => ?_)
 all_goals refine zac rfl ?_
 all_goals (first | refine zac rfl ?_ | refine zat rfl ?_)
 all_goals (first | refine zfo rfl rfl (zal rfl rfl rfl) (za5 rfl rfl rfl) (fun h41 => ?_) (fun h41 => ?_) | refine zat rfl ?_)
 all_goals refine zac rfl (zac rfl (zae (zah ?_)))
 all_goals (first | refine za0 rfl ?_ | refine zax rfl ?_)
 all_goals (repeat (first | refine zaf ?_ | refine zao ?_))
 all_goals first
  |
   refine zab (zac rfl (zac rfl (zac rfl (zae (zah ?_)))))
   (refine zav ?_; repeat (first | refine za6 ?_ | refine za7 ?_))
   have hR : R = (zSr, 0, 2) := HI.trans (if_pos (by omega))
   subst hR
   exact zhs (.inr rfl) rfl rfl rfl rfl (if_neg (by decide)).symm
  | skip
 rw [if_neg (by omega)] at HI
 have hm : 1 ≤ most ∧ most ≤ 2000 := by omega
 have hs2 : (zc0 n w).2 = 0 := by
  symm at hRB; simp only [Bool.and_eq_true, decide_eq_true_eq] at hRB; exact hRB.1
 have hvc : vcB c = true := by
  symm at hRB; simp only [Bool.and_eq_true, decide_eq_true_eq] at hRB; exact hRB.2
 obtain ⟨hvn, hww, hse, hee, hsk, hek⟩ := ziq hs2
 have hI0 : PI n w c (zc0 n w).1 (endE n w).1 most (iniS (zc0 n w).1) [(0, 0)] (-1) 0 := zxh hsk hm.1
 have HI2 : R = runP n w c most (endE n w).1 (most.toNat * 1000 + 3) (iniS (zc0 n w).1) [(0, 0)] (-1) 0 := HI
 clear HI
 generalize zc0 n w = s0 at hS0 hsk hI0 HI2 hse hs2 hRB
 generalize endE n w = e0 at hE0 hek hI0 HI2 hee
 obtain ⟨s0, s02⟩ := s0
 obtain ⟨goal, e02⟩ := e0
 refine zab (zbr ta24 ti24 rfl (zac rfl (zad rfl rfl (zaa rfl) (zai rfl rfl (hS0) (zag rfl (zag rfl zam))) (zac rfl (zac rfl (zac rfl (zac rfl (zac rfl (zae (zaf (zab (zbr ta24 ti24 rfl (zac rfl (zad rfl rfl (zaa rfl) (zai rfl rfl (hE0) (zag rfl (zag rfl zam))) (zac rfl (zac rfl (zac rfl (zac rfl (zac rfl (zae (zaf (zab (zbr ta24 ti24 rfl (zac rfl (zbr ta27 ti27 rfl (zad rfl rfl (zaa rfl) (zno rfl zvm) (zad rfl rfl (zaa rfl) (zbf rfl ti110 tp110 rfl rfl) ?_)))))))))))))))))))))))))))
 refine zad rfl rfl (zaa rfl) (zbv rfl rfl rfl rfl) (zac rfl (zae (zaf ?_)))
 refine zbd (zjc (id := 3) (sz2 := 1) (pre := [eI n.places, eL eT n.trans, eI n.source, eI n.sink, eL eS w, eI c.log, eI c.model, eI c.silent]) (post := [.s (.slice none 0 0), .s (.slice none 0 0), .s (.slice none 0 0), .s (.slice none 0 0), .mp 2]) (e' := .agg [eI n.places, eL eT n.trans, eI n.source, eI n.sink, eL eS w, eI c.log, eI c.model, eI c.silent, .own 4 1 0, .s (.slice none 0 0), .s (.slice none 0 0), .s (.slice none 0 0), .s (.slice none 0 0), .mp 2]) rfl rfl rfl) ?_
 refine zbd (zjc (id := 3) (sz2 := 1) (pre := [eI n.places, eL eT n.trans, eI n.source, eI n.sink, eL eS w, eI c.log, eI c.model, eI c.silent, .own 4 1 0]) (post := [.s (.slice none 0 0), .s (.slice none 0 0), .s (.slice none 0 0), .mp 2]) (e' := .agg [eI n.places, eL eT n.trans, eI n.source, eI n.sink, eL eS w, eI c.log, eI c.model, eI c.silent, .own 4 1 0, .own 5 1 0, .s (.slice none 0 0), .s (.slice none 0 0), .s (.slice none 0 0), .mp 2]) rfl rfl rfl) ?_
 refine zbd (zjc (id := 3) (sz2 := 1) (pre := [eI n.places, eL eT n.trans, eI n.source, eI n.sink, eL eS w, eI c.log, eI c.model, eI c.silent, .own 4 1 0, .own 5 1 0]) (post := [.s (.slice none 0 0), .s (.slice none 0 0), .mp 2]) (e' := .agg [eI n.places, eL eT n.trans, eI n.source, eI n.sink, eL eS w, eI c.log, eI c.model, eI c.silent, .own 4 1 0, .own 5 1 0, .own 6 1 0, .s (.slice none 0 0), .s (.slice none 0 0), .mp 2]) rfl rfl rfl) ?_
 refine zbd (zjc (id := 3) (sz2 := 3) (pre := [eI n.places, eL eT n.trans, eI n.source, eI n.sink, eL eS w, eI c.log, eI c.model, eI c.silent, .own 4 1 0, .own 5 1 0, .own 6 1 0]) (post := [.s (.slice none 0 0), .mp 2]) (e' := .agg [eI n.places, eL eT n.trans, eI n.source, eI n.sink, eL eS w, eI c.log, eI c.model, eI c.silent, .own 4 1 0, .own 5 1 0, .own 6 1 0, .own 7 3 0, .s (.slice none 0 0), .mp 2]) rfl rfl rfl) ?_
 refine zbd (zjc (id := 3) (sz2 := 1) (pre := [eI n.places, eL eT n.trans, eI n.source, eI n.sink, eL eS w, eI c.log, eI c.model, eI c.silent, .own 4 1 0, .own 5 1 0, .own 6 1 0, .own 7 3 0]) (post := [.mp 2]) (e' := seE n w c 4 5 6 7 8 2 0 0 0 0 0) rfl rfl rfl) ?_
 refine zbd (zc3 (σ' := stSr P n w c zSr .dead .dead) [0, 1, 3, 4, 5, 6, 7, 8, 2] (by decide) ⟨⟨_, rfl, .dead _⟩, ⟨_, rfl, .dead _⟩, ⟨_, rfl, zk4 (.own _ _ _ _ _ rfl rfl) (.own _ _ _ _ _ rfl rfl) (.own _ _ _ _ _ rfl rfl) (.own _ _ _ _ _ rfl rfl) (.own _ _ _ _ _ rfl rfl) (.mp _ _ rfl)⟩, ⟨_, rfl, .rowE (zh8 []) rfl⟩, ⟨_, rfl, .rowE (zeb []) rfl⟩, ⟨_, rfl, .rowE (zeb []) rfl⟩, ⟨_, rfl, .rowE (zgm []) rfl⟩, ⟨_, rfl, .rowE (zgy []) rfl⟩, ⟨_, rfl, zrk rfl⟩, trivial⟩ (F' := [(1, eL eS w), (3, eI most), (4, .ref (eN n).cells), (6, .ref (eC c).cells), (11, eL eI s0), (13, eL eI goal), (15, .ptr 2 14 0 0)]) ⟨.lo _ (lo_W w), .lo _ (.s _), .lo _ hln, .lo _ hlc, .lo _ lo_I, .lo _ lo_I, .ptr 3 2 14 0 0 rfl, trivial⟩) ?_
 have hSk0 : SOk zSr := ⟨rfl, rfl, rfl, rfl, List.nodup_nil, by show (0 : Nat) ≤ 500000; omega, by intro y hy; cases hy⟩
 have hM0 := znb (P := P) (n := n) (w := w) (c := c) (S := zSr) (q1 := .dead) (q2 := .dead) (y := s0) (cy := 0) (f := -1) (m := ⟨0, 0, ByteArray.empty⟩) hSk0 hsk (show (-1 : Int) < 0 by decide)
 refine zab (zac rfl (zac rfl (zad rfl rfl (zaa rfl) (zbf rfl zg4 tp143 rfl rfl) (zad rfl rfl (zaa rfl) (zde rfl rfl hM0 rfl) (zae (zaf ?_))))))
 refine zbd (zc3 (σ' := stSr P n w c (iniS s0) .dead .dead) [0, 1, 2, 10, 11, 12, 13, 14, 8] (by decide) ⟨⟨_, rfl, .dead _⟩, ⟨_, rfl, .dead _⟩, ⟨_, rfl, zk4 (.own _ _ _ _ _ rfl rfl) (.own _ _ _ _ _ rfl rfl) (.own _ _ _ _ _ rfl rfl) (.own _ _ _ _ _ rfl rfl) (.own _ _ _ _ _ rfl rfl) (.mp _ _ rfl)⟩, ⟨_, rfl, .rowE (zh8 [s0]) rfl⟩, ⟨_, rfl, .rowE (zeb [0]) rfl⟩, ⟨_, rfl, .rowE (zeb [-1]) rfl⟩, ⟨_, rfl, .rowE (zgm [_]) rfl⟩, ⟨_, rfl, .rowE (zgy [false]) rfl⟩, ⟨_, rfl, zrk rfl⟩, trivial⟩ (F' := [(1, eL eS w), (3, eI most), (4, .ref (eN n).cells), (6, .ref (eC c).cells), (13, eL eI goal), (15, .ptr 2 14 0 0)]) ⟨.lo _ (lo_W w), .lo _ (.s _), .lo _ hln, .lo _ hlc, .lo _ lo_I, .ptr 2 2 14 0 0 rfl, trivial⟩) ?_
 refine zab (zad rfl rfl (zaa rfl) (zbf rfl zfa z1n rfl rfl) (zad rfl rfl (zaa rfl) (zef rfl zim zfa rfl rfl (by decide) (by decide) rfl rfl rfl) (zad rfl rfl (zaa rfl) (zbv rfl rfl rfl rfl) (zac rfl (zae (zaf ?_))))))
 refine zbd (zc3 (σ' := stRu P n w c (iniS s0) [(0, 0)]) [10, 9, 2, 3, 4, 5, 6, 7, 8] (by decide) ⟨⟨_, rfl, zhf (.own _ _ _ _ _ rfl rfl)⟩, ⟨_, rfl, .rowE (znn [(0, 0)]) rfl⟩, ⟨_, rfl, zk4 (.own _ _ _ _ _ rfl rfl) (.own _ _ _ _ _ rfl rfl) (.own _ _ _ _ _ rfl rfl) (.own _ _ _ _ _ rfl rfl) (.own _ _ _ _ _ rfl rfl) (.mp _ _ rfl)⟩, ⟨_, rfl, .rowE (zh8 [s0]) rfl⟩, ⟨_, rfl, .rowE (zeb [0]) rfl⟩, ⟨_, rfl, .rowE (zeb [-1]) rfl⟩, ⟨_, rfl, .rowE (zgm [_]) rfl⟩, ⟨_, rfl, .rowE (zgy [false]) rfl⟩, ⟨_, rfl, zrk rfl⟩, trivial⟩ (F' := [(1, eL eS w), (3, eI most), (4, .ref (eN n).cells), (6, .ref (eC c).cells), (13, eL eI goal), (15, .ptr 2 14 0 0), (16, .ptr 0 1 0 0)]) ⟨.lo _ (lo_W w), .lo _ (.s _), .lo _ hln, .lo _ hlc, .lo _ lo_I, .ptr 2 2 14 0 0 rfl, .ptr 10 0 1 0 0 rfl, trivial⟩) ?_
 refine zab (zac rfl (zac rfl (zae (zaf (zaq ?_)))))
 replace hI0 : PI n w c s0 goal most (iniS s0) [(0, 0)] (-1) 0 := hI0
 replace HI2 : R = runP n w c most goal (most.toNat * 1000 + 3) (iniS s0) [(0, 0)] (-1) 0 := HI2
 clear hRB hS0 hE0 hek hee hSk0 hM0 hs2 hrt
 refine zcd (S := Nat × Sr × List En × Int × Int) (fun p => [(1, eL eS w), (3, eI most), (4, .ref (eN n).cells), (6, .ref (eC c).cells), (13, eL eI goal), (15, .ptr 2 14 0 0), (16, .ptr 0 1 0 0), (17, eI p.2.2.2.1), (18, eI p.2.2.2.2)]) (fun p => stRu P n w c p.2.1 p.2.2.1)
  (fun p => PI n w c s0 goal most p.2.1 p.2.2.1 p.2.2.2.1 p.2.2.2.2 ∧ R = runP n w c most goal p.1 p.2.1 p.2.2.1 p.2.2.2.1 p.2.2.2.2 ∧ (most - p.2.2.2.2) * 1000 + p.2.2.1.length < p.1) (fun p => p.1) (most.toNat * 1000 + 3, iniS s0, [(0, 0)], -1, 0)
  (zbx _ ⟨rfl, rfl, rfl, rfl, rfl, rfl, rfl, rfl, rfl, trivial⟩) ⟨hI0, HI2, by show (most - 0) * 1000 + ((1 : Nat) : Int) < ((most.toNat * 1000 + 3 : Nat) : Int); omega⟩ (fun p hp => ?_)
 clear hI0 HI2 hse hsk
 obtain ⟨f, S, q, fd, nr⟩ := p
 obtain ⟨hP, hR, hf⟩ := hp
 replace hP : PI n w c s0 goal most S q fd nr := hP
 replace hR : R = runP n w c most goal f S q fd nr := hR
 replace hf : (most - nr) * 1000 + q.length < f := hf
 obtain ⟨hql, hsl⟩ := ok_len hP hm.2
 have hnm := hP.nm
 obtain ⟨f, rfl⟩ : ∃ f', f = f' + 1 := ⟨f - 1, by omega⟩
 unfold runP at hR
 obtain ⟨cx0, hdi⟩ := hP.di
 by_cases h0 : q.length = 0
 ·
  rw [if_pos h0] at hR
  refine zaf (zaf (zab (zac rfl (zac rfl (zad rfl rfl (zaa rfl) (zap rfl zk2 rfl rfl rfl rfl rfl) (zad rfl rfl (zaa rfl) (zde rfl rfl (ziv 1 q.length _) rfl) (zad rfl rfl (zaa rfl) (zbi (by omega) (za5 rfl rfl rfl)) (zae (zah (zax rfl ?_))))))))))
  (refine zb1 ?_; repeat (first | refine zcx ?_ | refine zbs ?_ | refine zbe rfl ?_ | refine zb3 ?_ | refine zah ?_ | refine zaf ?_ | refine zao ?_ | refine zaq ?_))
  by_cases hfd : fd < 0
  ·
   rw [if_pos hfd] at hR
   refine zab (zac rfl (zad rfl rfl (zaa rfl) (zbp hfd (zaz rfl rfl rfl)) (zae (zah (za0 rfl (zaf (zab (zac rfl (zac rfl (zac rfl (zae (zah ?_))))))))))))
   (refine zav ?_; repeat (first | refine za6 ?_ | refine za7 ?_))
   subst hR
   exact zhs (.inr rfl) rfl rfl rfl rfl (if_neg (by decide)).symm
  ·
   rw [if_neg hfd] at hR
   refine zab (zac rfl (zad rfl rfl (zaa rfl) (zbi hfd (zaz rfl rfl rfl)) (zae (zah (zax rfl (zao (zaf ?_)))))))
   refine zbd (znr (F' := [(15, .ptr 2 14 0 0), (17, eI fd)]) (List.append_nil (stRu P n w c S q)).symm ⟨rfl, rfl, trivial⟩) ?_
   obtain ⟨σ', hw⟩ := z0i (P := P) (N := Tryz.f64.ntmps) (F := [(15, .ptr 2 14 0 0), (17, eI fd)]) (n := n) (w := w) (c := c) (S := S) (q1 := .row 1 [.own 1 2 q.length]) (q2 := .row 2 (q.map eEn)) [] rfl
   refine zbd hw ?_
   refine zab (zac rfl (zac rfl (zac rfl (zac rfl (zac rfl (zae (zah ?_)))))))
   (refine zav ?_; repeat (first | refine za6 ?_ | refine za7 ?_))
   subst hR
   exact zhs (.inr rfl) rfl rfl rfl rfl (if_pos rfl).symm
 rw [if_neg h0] at hR
 have hq : 0 < q.length := by omega
 have hen := hP.qi.en _ (gti_mem hq)
 have htop := fun hd => hP.top hq hd
 have hmark := fun cx x he hd => hP.mark hq (cx := cx) (x := x) he hd
 have hskp := fun hd => hP.skip hq hd
 have htk := fun hd hn => hP.take hvc hq hd hn
 obtain ⟨cx, x, hq0⟩ : ∃ (cx : Int) (x : Nat), gti q 0 = (cx, (x : Int)) := ⟨(gti q 0).1, (gti q 0).2.toNat, by rw [Int.toNat_of_nonneg hen.1]⟩
 have hPop := zxi (P := P) (a := 0) (b := 1) (σ := stRu P n w c S q) (l := q) ⟨rfl, rfl, by decide⟩ hq (by omega)
 have hqt : ((popD q).take (q.length - 1)).length = q.length - 1 := by rw [List.length_take, zf1]; omega
 rw [hq0] at hR hen htop hskp htk hPop
 obtain ⟨q', hq'⟩ : ∃ q', q' = (popD q).take (q.length - 1) := ⟨_, rfl⟩
 rw [← hq'] at hR hskp htk hmark hqt
 simp only [Int.toNat_natCast] at hR hen htop hskp htk
 have hxl : x < S.st.length := hen.2.1
 refine zaf (zaf (zab (zac rfl (zac rfl (zad rfl rfl (zaa rfl) (zap rfl zk2 rfl rfl rfl rfl rfl) (zad rfl rfl (zaa rfl) (zde rfl rfl (ziv 1 q.length _) rfl) (zad rfl rfl (zaa rfl) (zbp (by omega) (za5 rfl rfl rfl)) (zae (zah (za0 rfl (zao (zah (zaq (zaf (zab (zac rfl ?_))))))))))))))))
 refine zad rfl rfl (zaa rfl) (zgd rfl (by rw [IsP.eq (P := P)]; kernel_rfl) rfl) ?_
 refine zad rfl rfl (zaa rfl) (zde rfl rfl hPop rfl) ?_
 refine zad rfl rfl (zaa rfl) (zj5 rfl (by rw [IsP.eq (P := P)]; kernel_rfl) rfl) ?_
 refine zad rfl rfl (zaa rfl) (zbw rfl zfa rfl rfl) (zcg rfl (zaa rfl) (za8 rfl zfa rfl rfl rfl rfl rfl rfl (by decide) (by decide)) (zae (zaf (zaf ?_))))
 refine zbd (zc3 (σ' := stRu P n w c S q' ++ [Ob.row 2 [eEn (cx, (x : Int))]]) [0, 1, 2, 3, 4, 5, 6, 7, 8, 10] (by decide) ⟨⟨_, rfl, zhf (by rw [hqt]; exact .own _ _ _ _ _ rfl rfl)⟩, ⟨_, rfl, .rowE (znn q') (by rw [hq'])⟩, ⟨_, rfl, zk4 (.own _ _ _ _ _ rfl rfl) (.own _ _ _ _ _ rfl rfl) (.own _ _ _ _ _ rfl rfl) (.own _ _ _ _ _ rfl rfl) (.own _ _ _ _ _ rfl rfl) (.mp _ _ rfl)⟩, ⟨_, rfl, .rowE (zh8 _) rfl⟩, ⟨_, rfl, .rowE (zeb _) rfl⟩, ⟨_, rfl, .rowE (zeb _) rfl⟩, ⟨_, rfl, .rowE (zgm _) rfl⟩, ⟨_, rfl, .rowE (zgy _) rfl⟩, ⟨_, rfl, zrk rfl⟩, ⟨_, rfl, .rowE (znn [_]) rfl⟩, trivial⟩ (F' := [(1, eL eS w), (3, eI most), (4, .ref (eN n).cells), (6, .ref (eC c).cells), (13, eL eI goal), (15, .ptr 2 14 0 0), (16, .ptr 0 1 0 0), (17, eI fd), (18, eI nr), (19, .ptr 9 2 0 0)]) ⟨.lo _ (lo_W w), .lo _ (.s _), .lo _ hln, .lo _ hlc, .lo _ lo_I, .ptr 2 2 14 0 0 rfl, .ptr 0 0 1 0 0 rfl, .lo _ (.s _), .lo _ (.s _), .ptr 10 9 2 0 0 rfl, trivial⟩) ?_
 refine zbd (zbk (id := 9) rfl) ?_
 refine zbd (zch (d := 19) rfl rfl rfl) ?_
 have hle : Lo 0 (.ref (eEn (cx, (x : Int))).cells) := .ref _ (zaj (.s _) (zaj (.s _) zar))
 refine zbd (z0g (F' := [(1, eL eS w), (3, eI most), (4, .ref (eN n).cells), (6, .ref (eC c).cells), (13, eL eI goal), (15, .ptr 2 14 0 0), (16, .ptr 0 1 0 0), (17, eI fd), (18, eI nr), (19, .ref (eEn (cx, (x : Int))).cells)]) [Ob.fz 2 [eEn (cx, (x : Int))]] ⟨.lo _ (lo_W w), .lo _ (.s _), .lo _ hln, .lo _ hlc, .lo _ lo_I, .ptr 2 2 14 0 0 rfl, .ptr 0 0 1 0 0 rfl, .lo _ (.s _), .lo _ (.s _), .lo _ hle, trivial⟩) ?_
 have hixd : (S.dn.map eB)[x]? = some (eB (gti S.dn x)) := zbz (by rw [hdi.l2]; exact hxl)
 have hxd : x < S.dn.length := by rw [hdi.l2]; exact hxl
 cases hdx : gti S.dn x with
 | true =>
  rw [hdx] at hixd
  rw [if_pos hdx] at hR
  refine zb6 hmix ?_
  refine zba (by kernel_rfl) ?_
  refine qx_s rfl (qx_s rfl (qx_f zk1 rfl (za9 rfl rfl (zaa rfl) (zap rfl zys rfl rfl rfl rfl rfl) (qx_f zfl rfl (qx_l ta3 rfl (za9 rfl rfl (zaa rfl) (za2 rfl zvl ti4 rfl rfl rfl hxd) (za9 rfl rfl (zaa rfl) (zap rfl ta4 rfl rfl rfl hixd rfl) ?_)))))))
  refine zcp ?_
  refine zah (za0 rfl ?_)
  (refine zb1 ?_; repeat (first | refine zcx ?_ | refine zbs ?_ | refine zbe rfl ?_ | refine zb3 ?_ | refine zah ?_ | refine zaf ?_ | refine zao ?_ | refine zaq ?_))
  exact ⟨(f, S, q', fd, nr), ⟨hskp hdx, hR, by show (most - nr) * 1000 + (q'.length : Int) < (f : Int); omega⟩, Nat.lt_succ_self f, zbx _ ⟨rfl, rfl, rfl, rfl, rfl, rfl, rfl, rfl, rfl, trivial⟩⟩
 | false =>
 rw [hdx] at hixd
 rw [if_neg (by rw [hdx]; decide)] at hR
 refine zb6 hmix ?_
 refine zba (by kernel_rfl) ?_
 refine qx_s rfl (qx_s rfl (qx_f zk1 rfl (za9 rfl rfl (zaa rfl) (zap rfl zys rfl rfl rfl rfl rfl) (qx_f zfl rfl (qx_l ta3 rfl (za9 rfl rfl (zaa rfl) (za2 rfl zvl ti4 rfl rfl rfl hxd) (za9 rfl rfl (zaa rfl) (zap rfl ta4 rfl rfl rfl hixd rfl) ?_)))))))
 refine zcp ?_
 refine zah (zax rfl (zao (zaf (zaf ?_))))
 obtain ⟨t1, t2, t3, t4⟩ := htop hdx
 have hcase : (fd = -1) ∨ ∃ y : Nat, fd = y ∧ y < S.st.length := by
  rcases hP.fd with ⟨h1, _⟩ | ⟨h1, h2, _⟩
  ·
   exact .inl h1
  ·
   exact .inr ⟨fd.toNat, (Int.toNat_of_nonneg h1).symm, h2⟩
 by_cases hbr : 0 ≤ fd ∧ gti S.co fd.toNat < cx
 ·
  rw [if_pos hbr] at hR
  rcases hcase with rfl | ⟨y, rfl, hy⟩
  ·
   exact absurd hbr.1 (by decide)
  have hyl : y < S.co.length := by rw [hdi.l1]; exact hy
  have hixy : (S.co.map eI)[y]? = some (eI (gti S.co y)) := zbz hyl
  have hlt : gti S.co y < cx := hbr.2
  refine zb6 hmix ?_
  refine zba (by kernel_rfl) ?_
  refine qx_s rfl (za9 rfl rfl (zaa rfl) (zbp (by omega) (zcr rfl rfl rfl)) (qx_s rfl (qx_f zgl rfl (qx_l ta3 rfl (qx_s rfl (qx_s rfl (qx_f zg5 rfl (za9 rfl rfl (zal rfl rfl rfl) (zap rfl ta48 rfl rfl rfl rfl rfl) (qx_s rfl (za9 rfl rfl (zal rfl rfl rfl) (za2 rfl ts48 ti3 rfl rfl rfl hyl) (za9 rfl rfl (zal rfl rfl rfl) (zap rfl ta3 rfl rfl rfl hixy rfl) (za9 rfl rfl (zal rfl rfl rfl) (zbp hlt (za5 rfl rfl rfl)) (qx_s rfl ?_)))))))))))))
  refine zcp ?_
  refine zah (za0 rfl ?_)
  (refine zb1 ?_; repeat (first | refine zcx ?_ | refine zbs ?_ | refine zbe rfl ?_ | refine zb3 ?_ | refine zah ?_ | refine zaf ?_ | refine zao ?_ | refine zaq ?_))
  refine zab (zac rfl (zad rfl rfl (zaa rfl) (zbi (by omega) (zaz rfl rfl rfl)) (zae (zah (zax rfl (zao (zaf ?_)))))))
  refine zbd (znr (F' := [(15, .ptr 2 14 0 0), (17, eI y)]) (List.append_nil (stRu P n w c S q')).symm ⟨rfl, rfl, trivial⟩) ?_
  obtain ⟨σ', hw⟩ := z0i (P := P) (N := Tryz.f64.ntmps) (F := [(15, .ptr 2 14 0 0), (17, eI y)]) (n := n) (w := w) (c := c) (S := S) (q1 := .row 1 [.own 1 2 q'.length]) (q2 := .row 2 (q'.map eEn)) [] rfl
  refine zbd hw ?_
  refine zab (zac rfl (zac rfl (zac rfl (zac rfl (zac rfl (zae (zah ?_)))))))
  (refine zav ?_; repeat (first | refine za6 ?_ | refine za7 ?_))
  subst hR
  exact zhs (.inr rfl) rfl rfl rfl rfl (if_pos rfl).symm
 rw [if_neg hbr] at hR
 refine zyc [(1, eL eS w), (3, eI most), (4, .ref (eN n).cells), (6, .ref (eC c).cells), (13, eL eI goal), (15, .ptr 2 14 0 0), (16, .ptr 0 1 0 0), (17, eI fd), (18, eI nr), (19, .ref (eEn (cx, (x : Int))).cells)] (stRu P n w c S q') ?_ ?_
 ·
  rcases hcase with rfl | ⟨y, rfl, hy⟩
  ·
   refine zb6 hmix ?_
   refine zba (by kernel_rfl) ?_
   refine qx_s rfl (za9 rfl rfl (zaa rfl) (zbi (by decide) (zcr rfl rfl rfl)) (qx_s rfl (qx_z rfl (qx_z rfl (qx_z rfl (qx_z rfl (qx_z rfl (qx_z rfl (qx_z rfl (qx_z rfl (qx_z rfl (qx_z rfl (qx_s rfl ?_)))))))))))))
   refine zcp ?_
   refine zah (zax rfl (zao (zah ?_)))
   exact zbx _ ⟨rfl, rfl, rfl, rfl, rfl, rfl, rfl, rfl, rfl, rfl, trivial⟩
  ·
   have hyl : y < S.co.length := by rw [hdi.l1]; exact hy
   have hixy : (S.co.map eI)[y]? = some (eI (gti S.co y)) := zbz hyl
   have hlt : ¬ gti S.co y < cx := fun h => hbr ⟨by omega, h⟩
   refine zb6 hmix ?_
   refine zba (by kernel_rfl) ?_
   refine qx_s rfl (za9 rfl rfl (zaa rfl) (zbp (by omega) (zcr rfl rfl rfl)) (qx_s rfl (qx_f zgl rfl (qx_l ta3 rfl (qx_s rfl (qx_s rfl (qx_f zg5 rfl (za9 rfl rfl (zal rfl rfl rfl) (zap rfl ta48 rfl rfl rfl rfl rfl) (qx_s rfl (za9 rfl rfl (zal rfl rfl rfl) (za2 rfl ts48 ti3 rfl rfl rfl hyl) (za9 rfl rfl (zal rfl rfl rfl) (zap rfl ta3 rfl rfl rfl hixy rfl) (za9 rfl rfl (zal rfl rfl rfl) (zbi hlt (za5 rfl rfl rfl)) (qx_s rfl ?_)))))))))))))
   refine zcp ?_
   refine zah (zax rfl (zao (zah ?_)))
   exact zbx _ ⟨rfl, rfl, rfl, rfl, rfl, rfl, rfl, rfl, rfl, rfl, trivial⟩
 clear hcase hbr
 refine zaf ?_
 obtain ⟨S1, hS1⟩ : ∃ S1 : Sr, S1 = { S with dn := S.dn.set x true } := ⟨_, rfl⟩
 have hst1 : (stRu P n w c S q').set 7 (.row 1 ((S.dn.map eB).set x (eB true))) = stRu P n w c S1 q' := by
  subst hS1
  unfold stRu stSr
  simp [List.map_set]
 refine zb6 hmix ?_
 refine zmc rfl (by kernel_rfl) ?_
 refine zba (by kernel_rfl) ?_
 simp only [List.dropLast]
 refine qx_s rfl (qx_s rfl (qx_f zk1 rfl (za9 rfl rfl (zaa rfl) (zap rfl zys rfl rfl rfl rfl rfl) (qx_f zfl rfl (qx_l ta3 rfl (za9 rfl rfl (zaa rfl) (za2 rfl zvl ti4 rfl rfl rfl hxd) ?_))))))
 refine zcp ?_
 refine zah (zcg rfl (zaa rfl) (za8 rfl ti4 rfl rfl rfl hixd rfl rfl (by decide) (by decide)) (zae (zaf (zaf ?_))))
 refine zbd (znr (F' := [(1, eL eS w), (3, eI most), (4, .ref (eN n).cells), (6, .ref (eC c).cells), (13, eL eI goal), (15, .ptr 2 14 0 0), (16, .ptr 0 1 0 0), (17, eI fd), (18, eI nr), (19, .ref (eEn (cx, (x : Int))).cells)]) hst1 ⟨rfl, rfl, rfl, rfl, rfl, rfl, rfl, rfl, rfl, rfl, trivial⟩) ?_
 refine zab (zac rfl (zad rfl rfl (zaa rfl) (za4 rfl rfl rfl (IntWalk.i64_in _ (by omega))) (zac rfl (zae (zaf ?_)))))
 by_cases hl : most < nr + 1
 ·
  rw [if_pos hl] at hR
  refine zab (zac rfl (zac rfl (zad rfl rfl (zaa rfl) (zbp (by omega) (za5 rfl rfl rfl)) (zae (zah (za0 rfl (zaf (zab (zac rfl (zac rfl (zac rfl (zae (zah ?_)))))))))))))
  (refine zav ?_; repeat (first | refine za6 ?_ | refine za7 ?_))
  subst hR
  exact zhs (.inr rfl) rfl rfl rfl rfl (if_neg (by decide)).symm
 rw [if_neg hl] at hR
 refine zab (zac rfl (zac rfl (zad rfl rfl (zaa rfl) (zbi (by omega) (za5 rfl rfl rfl)) (zae (zah (zax rfl (zao (zaf (zaf ?_)))))))))
 obtain ⟨xs, hxs⟩ : ∃ xs, gti S.st x = xs := ⟨_, rfl⟩
 have hixs : (S1.st.map (eL eI))[x]? = some (eL eI xs) := by rw [hS1, ← hxs]; exact zbz hxl
 have hx1 : x < S1.st.length := by rw [hS1]; exact hxl
 have heq := z05 (P := P) xs goal
 have hokx : okS n w xs := by rw [← hxs]; exact hdi.ok _ (gti_mem hxl)
 obtain ⟨hmk, hcx0, hcx1⟩ := hmark cx x hq0 hdx
 have hT := htk hdx (by omega)
 rw [hxs] at hR hT hmk
 rw [← hS1] at hR hT hmk
 obtain ⟨fd', hfd'⟩ : ∃ fd', fd' = if xs = goal then (x : Int) else fd := ⟨_, rfl⟩
 rw [← hfd'] at hR hT
 refine zyc [(1, eL eS w), (3, eI most), (4, .ref (eN n).cells), (6, .ref (eC c).cells), (13, eL eI goal), (15, .ptr 2 14 0 0), (16, .ptr 0 1 0 0), (17, eI fd'), (18, eI (nr + 1)), (19, .ref (eEn (cx, (x : Int))).cells)] (stRu P n w c S1 q') ?_ ?_
 ·
  by_cases hg : xs = goal
  ·
   rw [if_pos hg] at hfd'
   subst hfd'
   rw [decide_eq_true hg] at heq
   refine zb6 hmix ?_
   refine zba (by kernel_rfl) ?_
   refine qx_s rfl (qx_s rfl (qx_f zh7 rfl (za9 rfl rfl (zaa rfl) (zap rfl zuh rfl rfl rfl rfl rfl) (qx_f zfl rfl (qx_l ta3 rfl (za9 rfl rfl (zaa rfl) (za2 rfl zq6 ti48 rfl rfl rfl hx1) (za9 rfl rfl (zaa rfl) (zap rfl ta48 rfl rfl rfl hixs rfl) (qx_s rfl (za9 rfl rfl (zaa rfl) (zai rfl rfl (heq) (zag rfl (zag rfl zam))) ?_)))))))))
   refine zcp ?_
   refine zah (za0 rfl (zab (zbh zfl rfl (zbl ta3 rfl (zac rfl (zae (zah ?_)))))))
   exact zbx _ ⟨rfl, rfl, rfl, rfl, rfl, rfl, rfl, rfl, rfl, rfl, trivial⟩
  ·
   rw [if_neg hg] at hfd'
   subst hfd'
   rw [decide_eq_false hg] at heq
   refine zb6 hmix ?_
   refine zba (by kernel_rfl) ?_
   refine qx_s rfl (qx_s rfl (qx_f zh7 rfl (za9 rfl rfl (zaa rfl) (zap rfl zuh rfl rfl rfl rfl rfl) (qx_f zfl rfl (qx_l ta3 rfl (za9 rfl rfl (zaa rfl) (za2 rfl zq6 ti48 rfl rfl rfl hx1) (za9 rfl rfl (zaa rfl) (zap rfl ta48 rfl rfl rfl hixs rfl) (qx_s rfl (za9 rfl rfl (zaa rfl) (zai rfl rfl (heq) (zag rfl (zag rfl zam))) ?_)))))))))
   refine zcp ?_
   refine zah (zax rfl (zao (zah ?_)))
   exact zbx _ ⟨rfl, rfl, rfl, rfl, rfl, rfl, rfl, rfl, rfl, rfl, trivial⟩
 clear heq hfd'
 refine zaf ?_
 have hMo := zza (P := P) n w xs
 have hMe : zj7 n w xs = (zck n w xs, 0) := by unfold zj7; rw [if_pos (show zdu n w xs = true from hokx)]
 have hml := fun m hm => zez (m := m) hokx hm
 have hmlen := zix hokx
 rw [hMe] at hMo
 have hstp := fun {S q k} (h : JI n w c s0 x cx xs (1000 * (nr + 1)) (q'.length) S1.st.length S q k) => h.step hvc
 obtain ⟨ml, hmleq⟩ : ∃ ml, zck n w xs = ml := ⟨_, rfl⟩
 replace hMo : Pure P 95 [eN n, eL eS w, eL eI xs] (.tup [eL eSt (zck n w xs), eI 0]) := hMo
 rw [hmleq] at hMo hml hmlen hR hT
 refine zb6 hmix ?_
 refine zba (by kernel_rfl) ?_
 refine qx_w ta24 ti24 rfl (qx_s rfl (qx_s rfl (qx_s rfl (qx_f zh7 rfl (za9 rfl rfl (zaa rfl) (zap rfl zuh rfl rfl rfl rfl rfl) (qx_f zfl rfl (qx_l ta3 rfl (za9 rfl rfl (zaa rfl) (za2 rfl zq6 ti48 rfl rfl rfl hx1) (za9 rfl rfl (zaa rfl) (zap rfl ta48 rfl rfl rfl hixs rfl) (za9 rfl rfl (zaa rfl) (zai rfl rfl (hMo) (zag rfl (zag rfl (zag rfl zam)))) (qx_s rfl (qx_s rfl (qx_s rfl (qx_s rfl (qx_s rfl ?_)))))))))))))))
 refine zcp ?_
 refine zaf (zaf (zab (zac rfl (zad rfl rfl (zaa rfl) (zbg rfl rfl rfl) (zae (zah (zax rfl (zao (zaf (zab (zac rfl (zad rfl rfl (zaa rfl) (zak rfl zug rfl) (zac rfl (zae (zah (zaq ?_))))))))))))))))
 obtain ⟨rr, hrr⟩ : ∃ rr, rlxP n w c x cx ml (S1, q') = rr := ⟨_, rfl⟩
 rw [hrr] at hR hT
 clear hst1 hx1 hixs hS1 hxd hixd htop hskp htk hmark hPop
 refine zcd (S := Nat × Sr × List En) (fun p => [(1, eL eS w), (3, eI most), (4, .ref (eN n).cells), (6, .ref (eC c).cells), (13, eL eI goal), (15, .ptr 2 14 0 0), (16, .ptr 0 1 0 0), (17, eI fd'), (18, eI (nr + 1)), (19, .ref (eEn (cx, (x : Int))).cells), (140, eL eSt ml), (141, eI ml.length), (142, eI p.1)]) (fun p => stRu P n w c p.2.1 p.2.2)
  (fun p => p.1 ≤ ml.length ∧ JI n w c s0 x cx xs (1000 * (nr + 1)) (q.length - 1) S.st.length p.2.1 p.2.2 p.1 ∧ rlxP n w c x cx (ml.drop p.1) (p.2.1, p.2.2) = rr) (fun p => ml.length - p.1) (0, S1, q')
  (zbx _ ⟨rfl, rfl, rfl, rfl, rfl, rfl, rfl, rfl, rfl, rfl, rfl, rfl, rfl, trivial⟩) ⟨Nat.zero_le _, hmk, hrr⟩ (fun p hp => ?_)
 clear hrr hmk
 obtain ⟨k, S2, q2⟩ := p
 obtain ⟨hk, hJ, hrr⟩ := hp
 replace hk : k ≤ ml.length := hk
 replace hJ : JI n w c s0 x cx xs (1000 * (nr + 1)) (q.length - 1) S.st.length S2 q2 k := hJ
 replace hrr : rlxP n w c x cx (ml.drop k) (S2, q2) = rr := hrr
 have hql2 := hJ.ql
 have hsl2 := hJ.sl
 by_cases hke : k = ml.length
 ·
  subst hke
  rw [List.drop_length] at hrr
  replace hrr : (S2, q2) = rr := hrr
  subst hrr
  refine zaf (zab (zad rfl rfl (zaa rfl) (zbi (by omega) (zaz rfl rfl rfl)) (zae (zaf (zax rfl ?_)))))
  (refine zb1 ?_; repeat (first | refine zcx ?_ | refine zbs ?_ | refine zbe rfl ?_ | refine zb3 ?_ | refine zah ?_ | refine zaf ?_ | refine zao ?_ | refine zaq ?_))
  exact ⟨(f, S2, q2, fd', nr + 1), ⟨hT.1, hR, by show (most - (nr + 1)) * 1000 + (q2.length : Int) < (f : Int); have := hT.2; dsimp only at this; omega⟩, Nat.lt_succ_self f, zbx _ ⟨rfl, rfl, rfl, rfl, rfl, rfl, rfl, rfl, rfl, trivial⟩⟩
 have hkl : k < ml.length := by omega
 obtain ⟨⟨pr, hdr⟩, -, -, hxs2, -, -⟩ := id hJ
 have hSO : SOk S2 := ⟨hdr.l1, hdr.l2, hdr.l3, hdr.l4, hdr.nd, by omega, fun y hy => (hdr.ok y hy).small⟩
 have hx2 : x < S2.st.length := hdr.xl
 have hix2 : (S2.st.map (eL eI))[x]? = some (eL eI xs) := by rw [← hxs2]; exact zbz hx2
 have him : (ml.map eSt)[k]? = some (eSt (gti ml k)) := zbz hkl
 obtain ⟨hap, hkd, hoy⟩ := hml _ (gti_mem hkl)
 have hstep := fun {m y} (hm : gti (zck n w xs) k = m) hy => hJ.step hvc (by rw [hmleq]; exact hkl) hcx0 hcx1 (m := m) hm (y := y) hy
 rw [hmleq] at hstep
 rw [zco hkl] at hrr
 obtain ⟨m, hm0⟩ : ∃ m, gti ml k = m := ⟨_, rfl⟩
 rw [hm0] at him hap hkd hoy hrr
 have hA := zz9 (P := P) n w xs m
 have hco := z25 (P := P) c [m]
 rw [zz0 hvc hkd] at hco
 have hpr := zkf hvc m.kind
 obtain ⟨y, hy0⟩ : ∃ y, (zbq n w xs m).1 = y := ⟨_, rfl⟩
 have hJ2 := hstep hm0 hy0
 rw [hap, hy0] at hA
 rw [hy0] at hoy
 have hrr2 : rlxP n w c x cx (ml.drop (k + 1)) (metE S2 y (cx + zbm c m.kind) x m, if chpE S2 y (cx + zbm c m.kind) then zhy q2 (cx + zbm c m.kind, (idx S2.st y : Int)) else q2) = rr := by
  rw [← hrr]
  show _ = rlxP n w c x cx (ml.drop (k + 1)) (metE S2 (zbq n w (gti S2.st x) m).1 (cx + zbm c m.kind) x m, if chpE S2 (zbq n w (gti S2.st x) m).1 (cx + zbm c m.kind) then zhy q2 (cx + zbm c m.kind, (idx S2.st (zbq n w (gti S2.st x) m).1 : Int)) else q2)
  rw [hxs2, hy0]
 clear hstep hrr hJ hdr
 obtain ⟨cy, hcy⟩ : ∃ cy, cx + zbm c m.kind = cy := ⟨_, rfl⟩
 have hadd : IntKind.i64.wrap (cx + zbm c m.kind) = cy := by rw [hcy]; exact IntWalk.i64_in _ (by omega)
 rw [hcy] at hJ2 hrr2
 unfold metE chpE at hJ2 hrr2
 refine zaf (zab (zad rfl rfl (zaa rfl) (zbp (by omega) (zaz rfl rfl rfl)) (zae (zaf (za0 rfl (zao (zaf (zaq (zaf (zab (zad rfl rfl (zaa rfl) (zan rfl zug zg4 rfl rfl rfl him rfl) (zbr zpa zg4 rfl (zad rfl rfl (zaa rfl) (zbw rfl zg4 rfl rfl) (zcg rfl (zaa rfl) (za8 rfl zg4 rfl rfl rfl rfl rfl rfl (by decide) (by decide)) (zae (zaf ?_))))))))))))))))
 refine zbd (zbk (id := 9) rfl) ?_
 refine zbd (zch (d := 23) rfl rfl rfl) ?_
 refine zb6 hmix ?_
 refine zba (by kernel_rfl) ?_
 refine qx_w ta24 ti24 rfl (qx_s rfl (qx_s rfl (qx_s rfl (qx_f zh7 rfl (za9 rfl rfl (zaa rfl) (zap rfl zuh rfl rfl rfl rfl rfl) (qx_f zfl rfl (qx_l ta3 rfl (za9 rfl rfl (zaa rfl) (za2 rfl zq6 ti48 rfl rfl rfl hx2) (za9 rfl rfl (zaa rfl) (zap rfl ta48 rfl rfl rfl hix2 rfl) (qx_w zpa zg4 rfl (za9 rfl rfl (zaa rfl) (zai rfl rfl (hA) (zag rfl (zag rfl (zag rfl (zag rfl zam))))) (qx_s rfl (qx_s rfl (qx_s rfl (qx_s rfl (qx_s rfl ?_))))))))))))))))
 refine zcp ?_
 refine zaf (zab (zbr ta27 ti27 rfl (zbr zpa zg4 rfl ?_)))
 refine zad rfl rfl (zaa rfl) (zd5 rfl zug zg4 rfl rfl (by decide) (by decide) rfl rfl rfl (by repeat' (first | exact Lo.s _ | exact zar | refine zaj ?_ ?_ | refine za1 ?_ | refine Lo.agg _ ?_ | refine Lo.sl _ ?_ | intro _))) ?_
 refine zad rfl rfl (zaa rfl) (zai rfl rfl (hco) (zag rfl (zag rfl zam))) (zac rfl (zac rfl (zac rfl (zac rfl (zac rfl (zae (zaf (zaf (zab (zac rfl (zad rfl rfl (zaa rfl) (zbg rfl rfl rfl) (zac rfl (zac rfl (zad rfl rfl (zal rfl rfl rfl) (zbg rfl rfl rfl) (zac rfl (zae (zah (zax rfl (zao (zaf ?_))))))))))))))))))))
 have hlm : Lo 0 (.ref (eSt m).cells) := .ref _ (z2l m).cells
 refine zbd (z0h (F' := [(1, eL eS w), (3, eI most), (4, .ref (eN n).cells), (6, .ref (eC c).cells), (13, eL eI goal), (15, .ptr 2 14 0 0), (16, .ptr 0 1 0 0), (17, eI fd'), (18, eI (nr + 1)), (19, .ref (eEn (cx, (x : Int))).cells), (140, eL eSt ml), (141, eI ml.length), (142, eI k), (23, .ref (eSt m).cells), (24, eL eI y), (26, eI (zbm c m.kind))]) rfl ⟨.lo _ (lo_W w), .lo _ (.s _), .lo _ hln, .lo _ hlc, .lo _ lo_I, .ptr 2 2 14 0 0 rfl, .ptr 0 0 1 0 0 rfl, .lo _ (.s _), .lo _ (.s _), .lo _ hle, .lo _ (znd _), .lo _ (.s _), .lo _ (.s _), .lo _ hlm, .lo _ lo_I, .lo _ (.s _), trivial⟩) ?_
 by_cases hf : zdw S2.st y < 0
 ·
  rw [if_pos hf, decide_eq_true hf, Bool.true_or, if_pos rfl, zrz hf] at hJ2 hrr2
  have hMe := znb (P := P) (n := n) (w := w) (c := c) (q1 := .row 1 [.own 1 2 q2.length]) (q2 := .row 2 (q2.map eEn)) (cy := cy) (f := x) (m := m) hSO hoy hf
  have hPu := zni (P := P) (a := 0) (b := 1) (σ := stSn P n w c S2 (.row 1 [.own 1 2 q2.length]) (.row 2 (q2.map eEn)) y cy x m) (l := q2) ⟨rfl, rfl, by decide⟩ (by omega) (cy, (S2.st.length : Int))
  refine zab (zac rfl (zac rfl (zbh zgl rfl (zbl ta3 rfl (zac rfl (zad rfl rfl (zaa rfl) (za4 rfl rfl rfl hadd) (zbh zfl rfl (zbl ta3 rfl (zbr zpa zg4 rfl (zad rfl rfl (zaa rfl) (zde rfl rfl hMe rfl) (zac rfl (zac rfl (zac rfl (zac rfl (zac rfl (zae (zaf (zab (zac rfl (zae (zah (za0 rfl (zab (zac rfl ?_))))))))))))))))))))))))
  refine zad rfl rfl (zaa rfl) (zgd rfl (by rw [IsP.eq (P := P)]; kernel_rfl) rfl) ?_
  refine zbh zgl rfl (zbl ta3 rfl (zac rfl (zad rfl rfl (zaa rfl) (za4 rfl rfl rfl hadd) (zac rfl (zad rfl rfl (zaa rfl) (zbf rfl zfa z1n rfl rfl) ?_)))))
  refine zad rfl rfl (zaa rfl) (zgd rfl (by rw [IsP.eq (P := P)]; kernel_rfl) rfl) ?_
  refine zad rfl rfl (zaa rfl) (zde rfl rfl hPu rfl) (zae (zb3 (zah (zab (zad rfl rfl (zaa rfl) (za4 rfl rfl rfl (IntWalk.i64_in _ (by omega))) (zac rfl (zae (zah ?_))))))))
  exact ⟨(k + 1, _, _), ⟨by show k + 1 ≤ ml.length; omega, hJ2, hrr2⟩, by show ml.length - (k + 1) < ml.length - k; omega, zc3 [0, 15, 2, 10, 11, 12, 13, 14, 8] (by decide) ⟨⟨_, rfl, zhf (.own _ _ _ _ _ rfl (zhr q2 (cy, (S2.st.length : Int))).symm)⟩, ⟨_, rfl, .rowE (znn _) rfl⟩, ⟨_, rfl, zk4 (.own _ _ _ _ _ rfl (by simp)) (.own _ _ _ _ _ rfl (by simp)) (.own _ _ _ _ _ rfl (by simp)) (.own _ _ _ _ _ rfl (by simp)) (.own _ _ _ _ _ rfl (by simp)) (.mp _ _ rfl)⟩, ⟨_, rfl, .rowE (zh8 _) (by simp)⟩, ⟨_, rfl, .rowE (zeb _) (by simp)⟩, ⟨_, rfl, .rowE (zeb _) (by simp)⟩, ⟨_, rfl, .rowE (zgm _) (by simp)⟩, ⟨_, rfl, .rowE (zgy _) (by simp)⟩, ⟨_, rfl, zrk rfl⟩, trivial⟩ ⟨.lo _ (lo_W w), .lo _ (.s _), .lo _ hln, .lo _ hlc, .lo _ lo_I, .ptr 2 2 14 0 0 rfl, .ptr 0 0 1 0 0 rfl, .lo _ (.s _), .lo _ (.s _), .lo _ hle, .lo _ (znd _), .lo _ (.s _), .lo _ (.s _), trivial⟩⟩
 rw [if_neg hf, decide_eq_false hf, Bool.false_or] at hJ2 hrr2
 by_cases hlt : cy < gti S2.co (idx S2.st y)
 ·
  rw [if_pos hlt, decide_eq_true hlt, if_pos rfl] at hJ2 hrr2
  have hMe := zuu (P := P) (n := n) (w := w) (c := c) (q1 := .row 1 [.own 1 2 q2.length]) (q2 := .row 2 (q2.map eEn)) (cy := cy) (f := x) (m := m) hSO hoy hf hlt
  have hPu := zni (P := P) (a := 0) (b := 1) (σ := stSc P n w c S2 (.row 1 [.own 1 2 q2.length]) (.row 2 (q2.map eEn)) (idx S2.st y) cy x m) (l := q2) ⟨rfl, rfl, by decide⟩ (by omega) (cy, (idx S2.st y : Int))
  refine zab (zac rfl (zac rfl (zbh zgl rfl (zbl ta3 rfl (zac rfl (zad rfl rfl (zaa rfl) (za4 rfl rfl rfl hadd) (zbh zfl rfl (zbl ta3 rfl (zbr zpa zg4 rfl (zad rfl rfl (zaa rfl) (zde rfl rfl hMe rfl) (zac rfl (zac rfl (zac rfl (zac rfl (zac rfl (zae (zaf (zab (zac rfl (zae (zah (za0 rfl (zab (zac rfl ?_))))))))))))))))))))))))
  refine zad rfl rfl (zaa rfl) (zgd rfl (by rw [IsP.eq (P := P)]; kernel_rfl) rfl) ?_
  refine zbh zgl rfl (zbl ta3 rfl (zac rfl (zad rfl rfl (zaa rfl) (za4 rfl rfl rfl hadd) (zac rfl (zad rfl rfl (zaa rfl) (zbf rfl zfa z1n rfl rfl) ?_)))))
  refine zad rfl rfl (zaa rfl) (zgd rfl (by rw [IsP.eq (P := P)]; kernel_rfl) rfl) ?_
  refine zad rfl rfl (zaa rfl) (zde rfl rfl hPu rfl) (zae (zb3 (zah (zab (zad rfl rfl (zaa rfl) (za4 rfl rfl rfl (IntWalk.i64_in _ (by omega))) (zac rfl (zae (zah ?_))))))))
  exact ⟨(k + 1, _, _), ⟨by show k + 1 ≤ ml.length; omega, hJ2, hrr2⟩, by show ml.length - (k + 1) < ml.length - k; omega, zc3 [0, 10, 2, 3, 4, 5, 6, 7, 8] (by decide) ⟨⟨_, rfl, zhf (.own _ _ _ _ _ rfl (zhr q2 (cy, (idx S2.st y : Int))).symm)⟩, ⟨_, rfl, .rowE (znn _) rfl⟩, ⟨_, rfl, zk4 (.own _ _ _ _ _ rfl (by simp)) (.own _ _ _ _ _ rfl (by simp)) (.own _ _ _ _ _ rfl (by simp)) (.own _ _ _ _ _ rfl (by simp)) (.own _ _ _ _ _ rfl (by simp)) (.mp _ _ rfl)⟩, ⟨_, rfl, .rowE (zh8 _) rfl⟩, ⟨_, rfl, .rowE (zeb _) (by simp [List.map_set])⟩, ⟨_, rfl, .rowE (zeb _) (by simp [List.map_set])⟩, ⟨_, rfl, .rowE (zgm _) (by simp [List.map_set])⟩, ⟨_, rfl, .rowE (zgy _) rfl⟩, ⟨_, rfl, zrk rfl⟩, trivial⟩ ⟨.lo _ (lo_W w), .lo _ (.s _), .lo _ hln, .lo _ hlc, .lo _ lo_I, .ptr 2 2 14 0 0 rfl, .ptr 0 0 1 0 0 rfl, .lo _ (.s _), .lo _ (.s _), .lo _ hle, .lo _ (znd _), .lo _ (.s _), .lo _ (.s _), trivial⟩⟩
 ·
  rw [if_neg hlt, decide_eq_false hlt, if_neg (by decide)] at hJ2 hrr2
  have hMe := zut (P := P) (n := n) (w := w) (c := c) (q1 := .row 1 [.own 1 2 q2.length]) (q2 := .row 2 (q2.map eEn)) (cy := cy) (f := x) (m := m) hSO hoy hf hlt
  refine zab (zac rfl (zac rfl (zbh zgl rfl (zbl ta3 rfl (zac rfl (zad rfl rfl (zaa rfl) (za4 rfl rfl rfl hadd) (zbh zfl rfl (zbl ta3 rfl (zbr zpa zg4 rfl (zad rfl rfl (zaa rfl) (zde rfl rfl hMe rfl) (zac rfl (zac rfl (zac rfl (zac rfl (zac rfl (zae (zaf (zab (zac rfl (zae (zah (zax rfl (zao (zb3 (zah (zab (zad rfl rfl (zaa rfl) (za4 rfl rfl rfl (IntWalk.i64_in _ (by omega))) (zac rfl (zae (zah ?_))))))))))))))))))))))))))))))
  exact ⟨(k + 1, _, _), ⟨by show k + 1 ≤ ml.length; omega, hJ2, hrr2⟩, by show ml.length - (k + 1) < ml.length - k; omega, z0h rfl ⟨.lo _ (lo_W w), .lo _ (.s _), .lo _ hln, .lo _ hlc, .lo _ lo_I, .ptr 2 2 14 0 0 rfl, .ptr 0 0 1 0 0 rfl, .lo _ (.s _), .lo _ (.s _), .lo _ hle, .lo _ (znd _), .lo _ (.s _), .lo _ (.s _), trivial⟩⟩
end Go.Proofs.YtohmldibkojkfaaGreatDoor.Aw
end
