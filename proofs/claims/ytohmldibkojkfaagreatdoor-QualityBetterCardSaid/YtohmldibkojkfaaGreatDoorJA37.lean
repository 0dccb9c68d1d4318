import Derived.Test.YtohmldibkojkfaaGreatDoorJA36
set_option linter.unusedSimpArgs false
set_option linter.unusedVariables false
set_option linter.unusedSectionVars false
section
namespace Go.Proofs.YtohmldibkojkfaaGreatDoor.Aw
open Go Go.RowKit Go.Proofs Go.Maps Go.WideMaps Dl
variable {P : Program} [IsP P]
set_option maxHeartbeats 8000000 in
theorem run_pf (n : Net) (w : List ByteArray) (c : Cst) (most : Int) : Pure P 64 [eN n, eL eS w, eC c, eI most] (eRun n w c (runO n w c most)) := by
 have HI : runO n w c most = if zcz n w c = false then (zSr, 0, 1) else if most < 1 ∨ 2000 < most then (zSr, 0, 2) else srP n w c most := rfl
 have hRB : zcz n w c = (decide ((zce n w).2 = 0) && vcB c) := rfl
 have hlR := lo_Run (k := 0) n w c (runO n w c most)
 generalize runO n w c most = R at HI hlR ⊢
 have hrt := zr4 (P := P) n w c
 have hS0 := zrz (P := P) n w
 have hE0 := end_pf (P := P) n w
 generalize zcz n w c = rb at hrt HI hRB
 have hln : Lo 0 (.ref (eN n).cells) := .ref _ (lo_N n).cells
 have hlc : Lo 0 (.ref (eC c).cells) := .ref _ (lo_C c).cells
 refine zcy (by rw [IsP.eq (P := P)]; exact Tryz.func64) rfl rfl rfl rfl rfl (zaj (lo_N n) (zaj (lo_W w) (zaj (lo_C c) (zaj (.s _) zbb)))) hlR (by simp only [argF]; rfl) ?_
 refine zaf (zab (zad rfl rfl (zaa rfl) (zbg rfl rfl rfl rfl) ?_))
 refine zar (zbl (id := 0) rfl) (zar (zb3 (d := 4) rfl rfl rfl) ?_)
 refine zad rfl rfl (zaa rfl) (zbg rfl rfl rfl rfl) ?_
 refine zar (zbl (id := 1) rfl) (zar (zb3 (d := 6) rfl rfl rfl) ?_)
 refine zac rfl (zac rfl (zac rfl (zae (zaf (zaw (zaf ?_))))))
 cases rb with
 | false =>
  refine zab (zbc ta24 ti24 rfl (zac rfl (zbc ta27 ti27 rfl (zad rfl rfl (zaa rfl) (zai rfl rfl (hrt) (zag rfl (zag rfl (zag rfl zam)))) (zad rfl rfl (zaa rfl) (zay rfl rfl) (zac rfl (zae (zah (zax rfl (zaf (zab (zac rfl (zac rfl (zac rfl (zae (zah ?_))))))))))))))))
  (refine zav ?_; repeat (first | refine za6 ?_ | refine za7 ?_))
  have hR : R = (zSr, 0, 1) := HI.trans (if_pos rfl)
  subst hR
  exact zhq (.inr rfl) rfl rfl rfl rfl (if_neg (by decide)).symm
 | true =>
 rw [if_neg (by decide)] at HI
 refine zab (zbc ta24 ti24 rfl (zac rfl (zbc ta27 ti27 rfl (zad rfl rfl (zaa rfl) (zai rfl rfl (hrt) (zag rfl (zag rfl (zag rfl zam)))) (zad rfl rfl (zaa rfl) (zay rfl rfl) (zac rfl (zae (zah (zat rfl (zaf (zab (zac rfl ?_))))))))))))
 refine zet rfl rfl (zaa rfl) (zaz rfl rfl rfl) (fun h38 => ?_) (fun h38 => ?_)
 all_goals refine zac rfl ?_
 all_goals (first | refine zac rfl ?_ | refine za3 rfl ?_)
 all_goals (first | refine zet rfl rfl (zan rfl rfl rfl) (za4 rfl rfl rfl) (fun h41 => ?_) (fun h41 => ?_) | refine za3 rfl ?_)
 all_goals refine zac rfl (zac rfl (zae (zah ?_)))
 all_goals (first | refine zax rfl ?_ | refine zat rfl ?_)
 all_goals (repeat (first | refine zaf ?_ | refine zaq ?_))
 all_goals first
  |
   refine zab (zac rfl (zac rfl (zac rfl (zae (zah ?_)))))
   (refine zav ?_; repeat (first | refine za6 ?_ | refine za7 ?_))
   have hR : R = (zSr, 0, 2) := HI.trans (if_pos (by omega))
   subst hR
   exact zhq (.inr rfl) rfl rfl rfl rfl (if_neg (by decide)).symm
  | skip
 rw [if_neg (by omega)] at HI
 have hm : 1 ≤ most ∧ most ≤ 2000 := by omega
 have hs2 : (zce n w).2 = 0 := by
  symm at hRB; simp only [Bool.and_eq_true, decide_eq_true_eq] at hRB; exact hRB.1
 have hvc : vcB c = true := by
  symm at hRB; simp only [Bool.and_eq_true, decide_eq_true_eq] at hRB; exact hRB.2
 obtain ⟨hvn, hww, hse, hee, hsk, hek⟩ := zgk hs2
 have hI0 : PI n w c (zce n w).1 (endE n w).1 most (iniS (zce n w).1) [(0, 0)] (-1) 0 := zw7 hsk hm.1
 have HI2 : R = runP n w c most (endE n w).1 (most.toNat * 1000 + 3) (iniS (zce n w).1) [(0, 0)] (-1) 0 := HI
 clear HI
 generalize zce n w = s0 at hS0 hsk hI0 HI2 hse hs2 hRB
 generalize endE n w = e0 at hE0 hek hI0 HI2 hee
 obtain ⟨s0, s02⟩ := s0
 obtain ⟨goal, e02⟩ := e0
 refine zab (zbc ta24 ti24 rfl (zac rfl (zad rfl rfl (zaa rfl) (zai rfl rfl (hS0) (zag rfl (zag rfl zam))) (zac rfl (zac rfl (zac rfl (zac rfl (zac rfl (zae (zaf (zab (zbc ta24 ti24 rfl (zac rfl (zad rfl rfl (zaa rfl) (zai rfl rfl (hE0) (zag rfl (zag rfl zam))) (zac rfl (zac rfl (zac rfl (zac rfl (zac rfl (zae (zaf (zab (zbc ta24 ti24 rfl (zac rfl (zbc ta27 ti27 rfl (zad rfl rfl (zaa rfl) (zm3 rfl zlw) (zad rfl rfl (zaa rfl) (zbr rfl ti110 tp110 rfl rfl) ?_)))))))))))))))))))))))))))
 refine zad rfl rfl (zaa rfl) (zbg rfl rfl rfl rfl) (zac rfl (zae (zaf ?_)))
 refine zbv (zi6 (id := 3) (sz2 := 1) (pre := [eI n.places, eL eT n.trans, eI n.source, eI n.sink, eL eS w, eI c.log, eI c.model, eI c.silent]) (post := [.s (.slice none 0 0), .s (.slice none 0 0), .s (.slice none 0 0), .s (.slice none 0 0), .mp 2]) (e' := .agg [eI n.places, eL eT n.trans, eI n.source, eI n.sink, eL eS w, eI c.log, eI c.model, eI c.silent, .own 4 1 0, .s (.slice none 0 0), .s (.slice none 0 0), .s (.slice none 0 0), .s (.slice none 0 0), .mp 2]) rfl rfl rfl) ?_
 refine zbv (zi6 (id := 3) (sz2 := 1) (pre := [eI n.places, eL eT n.trans, eI n.source, eI n.sink, eL eS w, eI c.log, eI c.model, eI c.silent, .own 4 1 0]) (post := [.s (.slice none 0 0), .s (.slice none 0 0), .s (.slice none 0 0), .mp 2]) (e' := .agg [eI n.places, eL eT n.trans, eI n.source, eI n.sink, eL eS w, eI c.log, eI c.model, eI c.silent, .own 4 1 0, .own 5 1 0, .s (.slice none 0 0), .s (.slice none 0 0), .s (.slice none 0 0), .mp 2]) rfl rfl rfl) ?_
 refine zbv (zi6 (id := 3) (sz2 := 1) (pre := [eI n.places, eL eT n.trans, eI n.source, eI n.sink, eL eS w, eI c.log, eI c.model, eI c.silent, .own 4 1 0, .own 5 1 0]) (post := [.s (.slice none 0 0), .s (.slice none 0 0), .mp 2]) (e' := .agg [eI n.places, eL eT n.trans, eI n.source, eI n.sink, eL eS w, eI c.log, eI c.model, eI c.silent, .own 4 1 0, .own 5 1 0, .own 6 1 0, .s (.slice none 0 0), .s (.slice none 0 0), .mp 2]) rfl rfl rfl) ?_
 refine zbv (zi6 (id := 3) (sz2 := 3) (pre := [eI n.places, eL eT n.trans, eI n.source, eI n.sink, eL eS w, eI c.log, eI c.model, eI c.silent, .own 4 1 0, .own 5 1 0, .own 6 1 0]) (post := [.s (.slice none 0 0), .mp 2]) (e' := .agg [eI n.places, eL eT n.trans, eI n.source, eI n.sink, eL eS w, eI c.log, eI c.model, eI c.silent, .own 4 1 0, .own 5 1 0, .own 6 1 0, .own 7 3 0, .s (.slice none 0 0), .mp 2]) rfl rfl rfl) ?_
 refine zbv (zi6 (id := 3) (sz2 := 1) (pre := [eI n.places, eL eT n.trans, eI n.source, eI n.sink, eL eS w, eI c.log, eI c.model, eI c.silent, .own 4 1 0, .own 5 1 0, .own 6 1 0, .own 7 3 0]) (post := [.mp 2]) (e' := seE n w c 4 5 6 7 8 2 0 0 0 0 0) rfl rfl rfl) ?_
 refine zbv (zed (σ' := stSr P n w c zSr .dead .dead) [0, 1, 3, 4, 5, 6, 7, 8, 2] (by decide) ⟨⟨_, rfl, .dead _⟩, ⟨_, rfl, .dead _⟩, ⟨_, rfl, zkq (.own _ _ _ _ _ rfl rfl) (.own _ _ _ _ _ rfl rfl) (.own _ _ _ _ _ rfl rfl) (.own _ _ _ _ _ rfl rfl) (.own _ _ _ _ _ rfl rfl) (.mp _ _ rfl)⟩, ⟨_, rfl, .rowE (zh5 []) rfl⟩, ⟨_, rfl, .rowE (zek []) rfl⟩, ⟨_, rfl, .rowE (zek []) rfl⟩, ⟨_, rfl, .rowE (zgj []) rfl⟩, ⟨_, rfl, .rowE (zgv []) rfl⟩, ⟨_, rfl, zlz rfl⟩, trivial⟩ (F' := [(1, eL eS w), (3, eI most), (4, .ref (eN n).cells), (6, .ref (eC c).cells), (11, eL eI s0), (13, eL eI goal), (15, .ptr 2 14 0 0)]) ⟨.lo _ (lo_W w), .lo _ (.s _), .lo _ hln, .lo _ hlc, .lo _ lo_I, .lo _ lo_I, .ptr 3 2 14 0 0 rfl, trivial⟩) ?_
 have hSk0 : SOk zSr := ⟨rfl, rfl, rfl, rfl, List.nodup_nil, by show (0 : Nat) ≤ 500000; omega, by intro y hy; cases hy⟩
 have hM0 := zmp (P := P) (n := n) (w := w) (c := c) (S := zSr) (q1 := .dead) (q2 := .dead) (y := s0) (cy := 0) (f := -1) (m := ⟨0, 0, ByteArray.empty⟩) hSk0 hsk (show (-1 : Int) < 0 by decide)
 refine zab (zac rfl (zac rfl (zad rfl rfl (zaa rfl) (zbr rfl ze1 tp143 rfl rfl) (zad rfl rfl (zaa rfl) (zdd rfl rfl hM0 rfl) (zae (zaf ?_))))))
 refine zbv (zed (σ' := stSr P n w c (iniS s0) .dead .dead) [0, 1, 2, 10, 11, 12, 13, 14, 8] (by decide) ⟨⟨_, rfl, .dead _⟩, ⟨_, rfl, .dead _⟩, ⟨_, rfl, zkq (.own _ _ _ _ _ rfl rfl) (.own _ _ _ _ _ rfl rfl) (.own _ _ _ _ _ rfl rfl) (.own _ _ _ _ _ rfl rfl) (.own _ _ _ _ _ rfl rfl) (.mp _ _ rfl)⟩, ⟨_, rfl, .rowE (zh5 [s0]) rfl⟩, ⟨_, rfl, .rowE (zek [0]) rfl⟩, ⟨_, rfl, .rowE (zek [-1]) rfl⟩, ⟨_, rfl, .rowE (zgj [_]) rfl⟩, ⟨_, rfl, .rowE (zgv [false]) rfl⟩, ⟨_, rfl, zlz rfl⟩, trivial⟩ (F' := [(1, eL eS w), (3, eI most), (4, .ref (eN n).cells), (6, .ref (eC c).cells), (13, eL eI goal), (15, .ptr 2 14 0 0)]) ⟨.lo _ (lo_W w), .lo _ (.s _), .lo _ hln, .lo _ hlc, .lo _ lo_I, .ptr 2 2 14 0 0 rfl, trivial⟩) ?_
 refine zab (zad rfl rfl (zaa rfl) (zbr rfl zfa z1c rfl rfl) (zad rfl rfl (zaa rfl) (zln rfl zih zfa rfl rfl (by decide) (by decide) rfl rfl rfl) (zad rfl rfl (zaa rfl) (zbg rfl rfl rfl rfl) (zac rfl (zae (zaf ?_))))))
 refine zbv (zed (σ' := stRu P n w c (iniS s0) [(0, 0)]) [10, 9, 2, 3, 4, 5, 6, 7, 8] (by decide) ⟨⟨_, rfl, zha (.own _ _ _ _ _ rfl rfl)⟩, ⟨_, rfl, .rowE (zm2 [(0, 0)]) rfl⟩, ⟨_, rfl, zkq (.own _ _ _ _ _ rfl rfl) (.own _ _ _ _ _ rfl rfl) (.own _ _ _ _ _ rfl rfl) (.own _ _ _ _ _ rfl rfl) (.own _ _ _ _ _ rfl rfl) (.mp _ _ rfl)⟩, ⟨_, rfl, .rowE (zh5 [s0]) rfl⟩, ⟨_, rfl, .rowE (zek [0]) rfl⟩, ⟨_, rfl, .rowE (zek [-1]) rfl⟩, ⟨_, rfl, .rowE (zgj [_]) rfl⟩, ⟨_, rfl, .rowE (zgv [false]) rfl⟩, ⟨_, rfl, zlz rfl⟩, trivial⟩ (F' := [(1, eL eS w), (3, eI most), (4, .ref (eN n).cells), (6, .ref (eC c).cells), (13, eL eI goal), (15, .ptr 2 14 0 0), (16, .ptr 0 1 0 0)]) ⟨.lo _ (lo_W w), .lo _ (.s _), .lo _ hln, .lo _ hlc, .lo _ lo_I, .ptr 2 2 14 0 0 rfl, .ptr 10 0 1 0 0 rfl, trivial⟩) ?_
 refine zab (zac rfl (zac rfl (zae (zaf (zaw ?_)))))
 replace hI0 : PI n w c s0 goal most (iniS s0) [(0, 0)] (-1) 0 := hI0
 replace HI2 : R = runP n w c most goal (most.toNat * 1000 + 3) (iniS s0) [(0, 0)] (-1) 0 := HI2
 clear hRB hS0 hE0 hek hee hSk0 hM0 hs2 hrt
 refine zcb (S := Nat × Sr × List En × Int × Int) (fun p => [(1, eL eS w), (3, eI most), (4, .ref (eN n).cells), (6, .ref (eC c).cells), (13, eL eI goal), (15, .ptr 2 14 0 0), (16, .ptr 0 1 0 0), (17, eI p.2.2.2.1), (18, eI p.2.2.2.2)]) (fun p => stRu P n w c p.2.1 p.2.2.1)
  (fun p => PI n w c s0 goal most p.2.1 p.2.2.1 p.2.2.2.1 p.2.2.2.2 ∧ R = runP n w c most goal p.1 p.2.1 p.2.2.1 p.2.2.2.1 p.2.2.2.2 ∧ (most - p.2.2.2.2) * 1000 + p.2.2.1.length < p.1) (fun p => p.1) (most.toNat * 1000 + 3, iniS s0, [(0, 0)], -1, 0)
  (zbx _ ⟨rfl, rfl, rfl, rfl, rfl, rfl, rfl, rfl, rfl, trivial⟩) ⟨hI0, HI2, by show (most - 0) * 1000 + ((1 : Nat) : Int) < ((most.toNat * 1000 + 3 : Nat) : Int); omega⟩ (fun p hp => ?_)
 clear hI0 HI2 hse hsk
 obtain ⟨f, S, q, fd, nr⟩ := p
 obtain ⟨hP, hR, hf⟩ := hp
 replace hP : PI n w c s0 goal most S q fd nr := hP
 replace hR : R = runP n w c most goal f S q fd nr := hR
 replace hf : (most - nr) * 1000 + q.length < f := hf
 obtain ⟨hql, hsl⟩ := ok_len hP hm.2
 have hnm := hP.nm
 obtain ⟨f, rfl⟩ : ∃ f', f = f' + 1 := ⟨f - 1, by omega⟩
 unfold runP at hR
 obtain ⟨cx0, hdi⟩ := hP.di
 by_cases h0 : q.length = 0
 ·
  rw [if_pos h0] at hR
  refine zaf (zaf (zab (zac rfl (zac rfl (zad rfl rfl (zaa rfl) (zao rfl zkp rfl rfl rfl rfl rfl) (zad rfl rfl (zaa rfl) (zdd rfl rfl (zil 1 q.length _) rfl) (zad rfl rfl (zaa rfl) (zbj (by omega) (za4 rfl rfl rfl)) (zae (zah (zat rfl ?_))))))))))
  (refine zcg ?_; repeat (first | refine zdn ?_ | refine zb7 ?_ | refine zbs rfl ?_ | refine zb8 ?_ | refine zah ?_ | refine zaf ?_ | refine zaq ?_ | refine zaw ?_))
  by_cases hfd : fd < 0
  ·
   rw [if_pos hfd] at hR
   refine zab (zac rfl (zad rfl rfl (zaa rfl) (zbn hfd (zaz rfl rfl rfl)) (zae (zah (zax rfl (zaf (zab (zac rfl (zac rfl (zac rfl (zae (zah ?_))))))))))))
   (refine zav ?_; repeat (first | refine za6 ?_ | refine za7 ?_))
   subst hR
   exact zhq (.inr rfl) rfl rfl rfl rfl (if_neg (by decide)).symm
  ·
   rw [if_neg hfd] at hR
   refine zab (zac rfl (zad rfl rfl (zaa rfl) (zbj hfd (zaz rfl rfl rfl)) (zae (zah (zat rfl (zaq (zaf ?_)))))))
   refine zbv (zj3 (F' := [(15, .ptr 2 14 0 0), (17, eI fd)]) (List.append_nil (stRu P n w c S q)).symm ⟨rfl, rfl, trivial⟩) ?_
   obtain ⟨σ', hw⟩ := zz6 (P := P) (N := Tryz.f64.ntmps) (F := [(15, .ptr 2 14 0 0), (17, eI fd)]) (n := n) (w := w) (c := c) (S := S) (q1 := .row 1 [.own 1 2 q.length]) (q2 := .row 2 (q.map eEn)) [] rfl
   refine zbv hw ?_
   refine zab (zac rfl (zac rfl (zac rfl (zac rfl (zac rfl (zae (zah ?_)))))))
   (refine zav ?_; repeat (first | refine za6 ?_ | refine za7 ?_))
   subst hR
   exact zhq (.inr rfl) rfl rfl rfl rfl (if_pos rfl).symm
 rw [if_neg h0] at hR
 have hq : 0 < q.length := by omega
 have hen := hP.qi.en _ (gti_mem hq)
 have htop := fun hd => hP.top hq hd
 have hmark := fun cx x he hd => hP.mark hq (cx := cx) (x := x) he hd
 have hskp := fun hd => hP.skip hq hd
 have htk := fun hd hn => hP.take hvc hq hd hn
 obtain ⟨cx, x, hq0⟩ : ∃ (cx : Int) (x : Nat), gti q 0 = (cx, (x : Int)) := ⟨(gti q 0).1, (gti q 0).2.toNat, by rw [Int.toNat_of_nonneg hen.1]⟩
 have hPop := zw8 (P := P) (a := 0) (b := 1) (σ := stRu P n w c S q) (l := q) ⟨rfl, rfl, by decide⟩ hq (by omega)
 have hqt : ((popD q).take (q.length - 1)).length = q.length - 1 := by rw [List.length_take, zfy]; omega
 rw [hq0] at hR hen htop hskp htk hPop
 obtain ⟨q', hq'⟩ : ∃ q', q' = (popD q).take (q.length - 1) := ⟨_, rfl⟩
 rw [← hq'] at hR hskp htk hmark hqt
 simp only [Int.toNat_natCast] at hR hen htop hskp htk
 have hxl : x < S.st.length := hen.2.1
 refine zaf (zaf (zab (zac rfl (zac rfl (zad rfl rfl (zaa rfl) (zao rfl zkp rfl rfl rfl rfl rfl) (zad rfl rfl (zaa rfl) (zdd rfl rfl (zil 1 q.length _) rfl) (zad rfl rfl (zaa rfl) (zbn (by omega) (za4 rfl rfl rfl)) (zae (zah (zax rfl (zaq (zah (zaw (zaf (zab (zac rfl ?_))))))))))))))))
 refine zad rfl rfl (zaa rfl) (zgb rfl (by rw [IsP.eq (P := P)]; kernel_rfl) rfl) ?_
 refine zad rfl rfl (zaa rfl) (zdd rfl rfl hPop rfl) ?_
 refine zad rfl rfl (zaa rfl) (zjs rfl (by rw [IsP.eq (P := P)]; kernel_rfl) rfl) ?_
 refine zad rfl rfl (zaa rfl) (zbw rfl zfa rfl rfl) (zbz rfl (zaa rfl) (za0 rfl zfa rfl rfl rfl rfl rfl rfl (by decide) (by decide)) (zae (zaf (zaf ?_))))
 refine zbv (zed (σ' := stRu P n w c S q' ++ [Ob.row 2 [eEn (cx, (x : Int))]]) [0, 1, 2, 3, 4, 5, 6, 7, 8, 10] (by decide) ⟨⟨_, rfl, zha (by rw [hqt]; exact .own _ _ _ _ _ rfl rfl)⟩, ⟨_, rfl, .rowE (zm2 q') (by rw [hq'])⟩, ⟨_, rfl, zkq (.own _ _ _ _ _ rfl rfl) (.own _ _ _ _ _ rfl rfl) (.own _ _ _ _ _ rfl rfl) (.own _ _ _ _ _ rfl rfl) (.own _ _ _ _ _ rfl rfl) (.mp _ _ rfl)⟩, ⟨_, rfl, .rowE (zh5 _) rfl⟩, ⟨_, rfl, .rowE (zek _) rfl⟩, ⟨_, rfl, .rowE (zek _) rfl⟩, ⟨_, rfl, .rowE (zgj _) rfl⟩, ⟨_, rfl, .rowE (zgv _) rfl⟩, ⟨_, rfl, zlz rfl⟩, ⟨_, rfl, .rowE (zm2 [_]) rfl⟩, trivial⟩ (F' := [(1, eL eS w), (3, eI most), (4, .ref (eN n).cells), (6, .ref (eC c).cells), (13, eL eI goal), (15, .ptr 2 14 0 0), (16, .ptr 0 1 0 0), (17, eI fd), (18, eI nr), (19, .ptr 9 2 0 0)]) ⟨.lo _ (lo_W w), .lo _ (.s _), .lo _ hln, .lo _ hlc, .lo _ lo_I, .ptr 2 2 14 0 0 rfl, .ptr 0 0 1 0 0 rfl, .lo _ (.s _), .lo _ (.s _), .ptr 10 9 2 0 0 rfl, trivial⟩) ?_
 refine zbv (zbl (id := 9) rfl) ?_
 refine zbv (zb3 (d := 19) rfl rfl rfl) ?_
 have hle : Lo 0 (.ref (eEn (cx, (x : Int))).cells) := .ref _ (zaj (.s _) (zaj (.s _) zbb))
 refine zbv (zz4 (F' := [(1, eL eS w), (3, eI most), (4, .ref (eN n).cells), (6, .ref (eC c).cells), (13, eL eI goal), (15, .ptr 2 14 0 0), (16, .ptr 0 1 0 0), (17, eI fd), (18, eI nr), (19, .ref (eEn (cx, (x : Int))).cells)]) [Ob.fz 2 [eEn (cx, (x : Int))]] ⟨.lo _ (lo_W w), .lo _ (.s _), .lo _ hln, .lo _ hlc, .lo _ lo_I, .ptr 2 2 14 0 0 rfl, .ptr 0 0 1 0 0 rfl, .lo _ (.s _), .lo _ (.s _), .lo _ hle, trivial⟩) ?_
 have hixd : (S.dn.map eB)[x]? = some (eB (gti S.dn x)) := zch (by rw [hdi.l2]; exact hxl)
 have hxd : x < S.dn.length := by rw [hdi.l2]; exact hxl
 cases hdx : gti S.dn x with
 | true =>
  rw [hdx] at hixd
  rw [if_pos hdx] at hR
  refine zb1 hmix ?_
  refine za5 (by kernel_rfl) ?_
  refine qx_s rfl (qx_s rfl (qx_f zko rfl (za2 rfl rfl (zaa rfl) (zao rfl zyo rfl rfl rfl rfl rfl) (qx_f zfk rfl (qx_l ta3 rfl (za2 rfl rfl (zaa rfl) (zas rfl zuv ti4 rfl rfl rfl hxd) (za2 rfl rfl (zaa rfl) (zao rfl ta4 rfl rfl rfl hixd rfl) ?_)))))))
  refine zck ?_
  refine zah (zax rfl ?_)
  (refine zcg ?_; repeat (first | refine zdn ?_ | refine zb7 ?_ | refine zbs rfl ?_ | refine zb8 ?_ | refine zah ?_ | refine zaf ?_ | refine zaq ?_ | refine zaw ?_))
  exact ⟨(f, S, q', fd, nr), ⟨hskp hdx, hR, by show (most - nr) * 1000 + (q'.length : Int) < (f : Int); omega⟩, Nat.lt_succ_self f, zbx _ ⟨rfl, rfl, rfl, rfl, rfl, rfl, rfl, rfl, rfl, trivial⟩⟩
 | false =>
 rw [hdx] at hixd
 rw [if_neg (by rw [hdx]; decide)] at hR
 refine zb1 hmix ?_
 refine za5 (by kernel_rfl) ?_
 refine qx_s rfl (qx_s rfl (qx_f zko rfl (za2 rfl rfl (zaa rfl) (zao rfl zyo rfl rfl rfl rfl rfl) (qx_f zfk rfl (qx_l ta3 rfl (za2 rfl rfl (zaa rfl) (zas rfl zuv ti4 rfl rfl rfl hxd) (za2 rfl rfl (zaa rfl) (zao rfl ta4 rfl rfl rfl hixd rfl) ?_)))))))
 refine zck ?_
 refine zah (zat rfl (zaq (zaf (zaf ?_))))
 obtain ⟨t1, t2, t3, t4⟩ := htop hdx
 have hcase : (fd = -1) ∨ ∃ y : Nat, fd = y ∧ y < S.st.length := by
  rcases hP.fd with ⟨h1, _⟩ | ⟨h1, h2, _⟩
  ·
   exact .inl h1
  ·
   exact .inr ⟨fd.toNat, (Int.toNat_of_nonneg h1).symm, h2⟩
 by_cases hbr : 0 ≤ fd ∧ gti S.co fd.toNat < cx
 ·
  rw [if_pos hbr] at hR
  rcases hcase with rfl | ⟨y, rfl, hy⟩
  ·
   exact absurd hbr.1 (by decide)
  have hyl : y < S.co.length := by rw [hdi.l1]; exact hy
  have hixy : (S.co.map eI)[y]? = some (eI (gti S.co y)) := zch hyl
  have hlt : gti S.co y < cx := hbr.2
  refine zb1 hmix ?_
  refine za5 (by kernel_rfl) ?_
  refine qx_s rfl (za2 rfl rfl (zaa rfl) (zbn (by omega) (zcx rfl rfl rfl)) (qx_s rfl (qx_f zgi rfl (qx_l ta3 rfl (qx_s rfl (qx_s rfl (qx_f zg5 rfl (za2 rfl rfl (zan rfl rfl rfl) (zao rfl ta48 rfl rfl rfl rfl rfl) (qx_s rfl (za2 rfl rfl (zan rfl rfl rfl) (zas rfl ts48 ti3 rfl rfl rfl hyl) (za2 rfl rfl (zan rfl rfl rfl) (zao rfl ta3 rfl rfl rfl hixy rfl) (za2 rfl rfl (zan rfl rfl rfl) (zbn hlt (za4 rfl rfl rfl)) (qx_s rfl ?_)))))))))))))
  refine zck ?_
  refine zah (zax rfl ?_)
  (refine zcg ?_; repeat (first | refine zdn ?_ | refine zb7 ?_ | refine zbs rfl ?_ | refine zb8 ?_ | refine zah ?_ | refine zaf ?_ | refine zaq ?_ | refine zaw ?_))
  refine zab (zac rfl (zad rfl rfl (zaa rfl) (zbj (by omega) (zaz rfl rfl rfl)) (zae (zah (zat rfl (zaq (zaf ?_)))))))
  refine zbv (zj3 (F' := [(15, .ptr 2 14 0 0), (17, eI y)]) (List.append_nil (stRu P n w c S q')).symm ⟨rfl, rfl, trivial⟩) ?_
  obtain ⟨σ', hw⟩ := zz6 (P := P) (N := Tryz.f64.ntmps) (F := [(15, .ptr 2 14 0 0), (17, eI y)]) (n := n) (w := w) (c := c) (S := S) (q1 := .row 1 [.own 1 2 q'.length]) (q2 := .row 2 (q'.map eEn)) [] rfl
  refine zbv hw ?_
  refine zab (zac rfl (zac rfl (zac rfl (zac rfl (zac rfl (zae (zah ?_)))))))
  (refine zav ?_; repeat (first | refine za6 ?_ | refine za7 ?_))
  subst hR
  exact zhq (.inr rfl) rfl rfl rfl rfl (if_pos rfl).symm
 rw [if_neg hbr] at hR
 refine zoa [(1, eL eS w), (3, eI most), (4, .ref (eN n).cells), (6, .ref (eC c).cells), (13, eL eI goal), (15, .ptr 2 14 0 0), (16, .ptr 0 1 0 0), (17, eI fd), (18, eI nr), (19, .ref (eEn (cx, (x : Int))).cells)] (stRu P n w c S q') ?_ ?_
 ·
  rcases hcase with rfl | ⟨y, rfl, hy⟩
  ·
   refine zb1 hmix ?_
   refine za5 (by kernel_rfl) ?_
   refine qx_s rfl (za2 rfl rfl (zaa rfl) (zbj (by decide) (zcx rfl rfl rfl)) (qx_s rfl (qx_z rfl (qx_z rfl (qx_z rfl (qx_z rfl (qx_z rfl (qx_z rfl (qx_z rfl (qx_z rfl (qx_z rfl (qx_z rfl (qx_s rfl ?_)))))))))))))
   refine zck ?_
   refine zah (zat rfl (zaq (zah ?_)))
   exact zbx _ ⟨rfl, rfl, rfl, rfl, rfl, rfl, rfl, rfl, rfl, rfl, trivial⟩
  ·
   have hyl : y < S.co.length := by rw [hdi.l1]; exact hy
   have hixy : (S.co.map eI)[y]? = some (eI (gti S.co y)) := zch hyl
   have hlt : ¬ gti S.co y < cx := fun h => hbr ⟨by omega, h⟩
   refine zb1 hmix ?_
   refine za5 (by kernel_rfl) ?_
   refine qx_s rfl (za2 rfl rfl (zaa rfl) (zbn (by omega) (zcx rfl rfl rfl)) (qx_s rfl (qx_f zgi rfl (qx_l ta3 rfl (qx_s rfl (qx_s rfl (qx_f zg5 rfl (za2 rfl rfl (zan rfl rfl rfl) (zao rfl ta48 rfl rfl rfl rfl rfl) (qx_s rfl (za2 rfl rfl (zan rfl rfl rfl) (zas rfl ts48 ti3 rfl rfl rfl hyl) (za2 rfl rfl (zan rfl rfl rfl) (zao rfl ta3 rfl rfl rfl hixy rfl) (za2 rfl rfl (zan rfl rfl rfl) (zbj hlt (za4 rfl rfl rfl)) (qx_s rfl ?_)))))))))))))
   refine zck ?_
   refine zah (zat rfl (zaq (zah ?_)))
   exact zbx _ ⟨rfl, rfl, rfl, rfl, rfl, rfl, rfl, rfl, rfl, rfl, trivial⟩
 clear hcase hbr
 refine zaf ?_
 obtain ⟨S1, hS1⟩ : ∃ S1 : Sr, S1 = { S with dn := S.dn.set x true } := ⟨_, rfl⟩
 have hst1 : (stRu P n w c S q').set 7 (.row 1 ((S.dn.map eB).set x (eB true))) = stRu P n w c S1 q' := by
  subst hS1
  unfold stRu stSr
  simp [List.map_set]
 refine zb1 hmix ?_
 refine zlu rfl (by kernel_rfl) ?_
 refine za5 (by kernel_rfl) ?_
 simp only [List.dropLast]
 refine qx_s rfl (qx_s rfl (qx_f zko rfl (za2 rfl rfl (zaa rfl) (zao rfl zyo rfl rfl rfl rfl rfl) (qx_f zfk rfl (qx_l ta3 rfl (za2 rfl rfl (zaa rfl) (zas rfl zuv ti4 rfl rfl rfl hxd) ?_))))))
 refine zck ?_
 refine zah (zbz rfl (zaa rfl) (za0 rfl ti4 rfl rfl rfl hixd rfl rfl (by decide) (by decide)) (zae (zaf (zaf ?_))))
 refine zbv (zj3 (F' := [(1, eL eS w), (3, eI most), (4, .ref (eN n).cells), (6, .ref (eC c).cells), (13, eL eI goal), (15, .ptr 2 14 0 0), (16, .ptr 0 1 0 0), (17, eI fd), (18, eI nr), (19, .ref (eEn (cx, (x : Int))).cells)]) hst1 ⟨rfl, rfl, rfl, rfl, rfl, rfl, rfl, rfl, rfl, rfl, trivial⟩) ?_
 refine zab (zac rfl (zad rfl rfl (zaa rfl) (za9 rfl rfl rfl (IntWalk.i64_in _ (by omega))) (zac rfl (zae (zaf ?_)))))
 by_cases hl : most < nr + 1
 ·
  rw [if_pos hl] at hR
  refine zab (zac rfl (zac rfl (zad rfl rfl (zaa rfl) (zbn (by omega) (za4 rfl rfl rfl)) (zae (zah (zax rfl (zaf (zab (zac rfl (zac rfl (zac rfl (zae (zah ?_)))))))))))))
  (refine zav ?_; repeat (first | refine za6 ?_ | refine za7 ?_))
  subst hR
  exact zhq (.inr rfl) rfl rfl rfl rfl (if_neg (by decide)).symm
 rw [if_neg hl] at hR
 refine zab (zac rfl (zac rfl (zad rfl rfl (zaa rfl) (zbj (by omega) (za4 rfl rfl rfl)) (zae (zah (zat rfl (zaq (zaf (zaf ?_)))))))))
 obtain ⟨xs, hxs⟩ : ∃ xs, gti S.st x = xs := ⟨_, rfl⟩
 have hixs : (S1.st.map (eL eI))[x]? = some (eL eI xs) := by rw [hS1, ← hxs]; exact zch hxl
 have hx1 : x < S1.st.length := by rw [hS1]; exact hxl
 have heq := eqI_pf (P := P) xs goal
 have hokx : okS n w xs := by rw [← hxs]; exact hdi.ok _ (gti_mem hxl)
 obtain ⟨hmk, hcx0, hcx1⟩ := hmark cx x hq0 hdx
 have hT := htk hdx (by omega)
 rw [hxs] at hR hT hmk
 rw [← hS1] at hR hT hmk
 obtain ⟨fd', hfd'⟩ : ∃ fd', fd' = if xs = goal then (x : Int) else fd := ⟨_, rfl⟩
 rw [← hfd'] at hR hT
 refine zoa [(1, eL eS w), (3, eI most), (4, .ref (eN n).cells), (6, .ref (eC c).cells), (13, eL eI goal), (15, .ptr 2 14 0 0), (16, .ptr 0 1 0 0), (17, eI fd'), (18, eI (nr + 1)), (19, .ref (eEn (cx, (x : Int))).cells)] (stRu P n w c S1 q') ?_ ?_
 ·
  by_cases hg : xs = goal
  ·
   rw [if_pos hg] at hfd'
   subst hfd'
   rw [decide_eq_true hg] at heq
   refine zb1 hmix ?_
   refine za5 (by kernel_rfl) ?_
   refine qx_s rfl (qx_s rfl (qx_f zh4 rfl (za2 rfl rfl (zaa rfl) (zao rfl ztl rfl rfl rfl rfl rfl) (qx_f zfk rfl (qx_l ta3 rfl (za2 rfl rfl (zaa rfl) (zas rfl zqg ti48 rfl rfl rfl hx1) (za2 rfl rfl (zaa rfl) (zao rfl ta48 rfl rfl rfl hixs rfl) (qx_s rfl (za2 rfl rfl (zaa rfl) (zai rfl rfl (heq) (zag rfl (zag rfl zam))) ?_)))))))))
   refine zck ?_
   refine zah (zax rfl (zab (zbm zfk rfl (zbu ta3 rfl (zac rfl (zae (zah ?_)))))))
   exact zbx _ ⟨rfl, rfl, rfl, rfl, rfl, rfl, rfl, rfl, rfl, rfl, trivial⟩
  ·
   rw [if_neg hg] at hfd'
   subst hfd'
   rw [decide_eq_false hg] at heq
   refine zb1 hmix ?_
   refine za5 (by kernel_rfl) ?_
   refine qx_s rfl (qx_s rfl (qx_f zh4 rfl (za2 rfl rfl (zaa rfl) (zao rfl ztl rfl rfl rfl rfl rfl) (qx_f zfk rfl (qx_l ta3 rfl (za2 rfl rfl (zaa rfl) (zas rfl zqg ti48 rfl rfl rfl hx1) (za2 rfl rfl (zaa rfl) (zao rfl ta48 rfl rfl rfl hixs rfl) (qx_s rfl (za2 rfl rfl (zaa rfl) (zai rfl rfl (heq) (zag rfl (zag rfl zam))) ?_)))))))))
   refine zck ?_
   refine zah (zat rfl (zaq (zah ?_)))
   exact zbx _ ⟨rfl, rfl, rfl, rfl, rfl, rfl, rfl, rfl, rfl, rfl, trivial⟩
 clear heq hfd'
 refine zaf ?_
 have hMo := zy0 (P := P) n w xs
 have hMe : zjv n w xs = (zcf n w xs, 0) := by unfold zjv; rw [if_pos (show zcm n w xs = true from hokx)]
 have hml := fun m hm => zk2 (m := m) hokx hm
 have hmlen := zhb hokx
 rw [hMe] at hMo
 have hstp := fun {S q k} (h : JI n w c s0 x cx xs (1000 * (nr + 1)) (q'.length) S1.st.length S q k) => h.step hvc
 obtain ⟨ml, hmleq⟩ : ∃ ml, zcf n w xs = ml := ⟨_, rfl⟩
 replace hMo : Pure P 95 [eN n, eL eS w, eL eI xs] (.tup [eL eSt (zcf n w xs), eI 0]) := hMo
 rw [hmleq] at hMo hml hmlen hR hT
 refine zb1 hmix ?_
 refine za5 (by kernel_rfl) ?_
 refine qx_w ta24 ti24 rfl (qx_s rfl (qx_s rfl (qx_s rfl (qx_f zh4 rfl (za2 rfl rfl (zaa rfl) (zao rfl ztl rfl rfl rfl rfl rfl) (qx_f zfk rfl (qx_l ta3 rfl (za2 rfl rfl (zaa rfl) (zas rfl zqg ti48 rfl rfl rfl hx1) (za2 rfl rfl (zaa rfl) (zao rfl ta48 rfl rfl rfl hixs rfl) (za2 rfl rfl (zaa rfl) (zai rfl rfl (hMo) (zag rfl (zag rfl (zag rfl zam)))) (qx_s rfl (qx_s rfl (qx_s rfl (qx_s rfl (qx_s rfl ?_)))))))))))))))
 refine zck ?_
 refine zaf (zaf (zab (zac rfl (zad rfl rfl (zaa rfl) (zbf rfl rfl rfl) (zae (zah (zat rfl (zaq (zaf (zab (zac rfl (zad rfl rfl (zaa rfl) (zak rfl zjw rfl) (zac rfl (zae (zah (zaw ?_))))))))))))))))
 obtain ⟨rr, hrr⟩ : ∃ rr, rlxP n w c x cx ml (S1, q') = rr := ⟨_, rfl⟩
 rw [hrr] at hR hT
 clear hst1 hx1 hixs hS1 hxd hixd htop hskp htk hmark hPop
 refine zcb (S := Nat × Sr × List En) (fun p => [(1, eL eS w), (3, eI most), (4, .ref (eN n).cells), (6, .ref (eC c).cells), (13, eL eI goal), (15, .ptr 2 14 0 0), (16, .ptr 0 1 0 0), (17, eI fd'), (18, eI (nr + 1)), (19, .ref (eEn (cx, (x : Int))).cells), (140, eL eSt ml), (141, eI ml.length), (142, eI p.1)]) (fun p => stRu P n w c p.2.1 p.2.2)
  (fun p => p.1 ≤ ml.length ∧ JI n w c s0 x cx xs (1000 * (nr + 1)) (q.length - 1) S.st.length p.2.1 p.2.2 p.1 ∧ rlxP n w c x cx (ml.drop p.1) (p.2.1, p.2.2) = rr) (fun p => ml.length - p.1) (0, S1, q')
  (zbx _ ⟨rfl, rfl, rfl, rfl, rfl, rfl, rfl, rfl, rfl, rfl, rfl, rfl, rfl, trivial⟩) ⟨Nat.zero_le _, hmk, hrr⟩ (fun p hp => ?_)
 clear hrr hmk
 obtain ⟨k, S2, q2⟩ := p
 obtain ⟨hk, hJ, hrr⟩ := hp
 replace hk : k ≤ ml.length := hk
 replace hJ : JI n w c s0 x cx xs (1000 * (nr + 1)) (q.length - 1) S.st.length S2 q2 k := hJ
 replace hrr : rlxP n w c x cx (ml.drop k) (S2, q2) = rr := hrr
 have hql2 := hJ.ql
 have hsl2 := hJ.sl
 by_cases hke : k = ml.length
 ·
  subst hke
  rw [List.drop_length] at hrr
  replace hrr : (S2, q2) = rr := hrr
  subst hrr
  refine zaf (zab (zad rfl rfl (zaa rfl) (zbj (by omega) (zaz rfl rfl rfl)) (zae (zaf (zat rfl ?_)))))
  (refine zcg ?_; repeat (first | refine zdn ?_ | refine zb7 ?_ | refine zbs rfl ?_ | refine zb8 ?_ | refine zah ?_ | refine zaf ?_ | refine zaq ?_ | refine zaw ?_))
  exact ⟨(f, S2, q2, fd', nr + 1), ⟨hT.1, hR, by show (most - (nr + 1)) * 1000 + (q2.length : Int) < (f : Int); have := hT.2; dsimp only at this; omega⟩, Nat.lt_succ_self f, zbx _ ⟨rfl, rfl, rfl, rfl, rfl, rfl, rfl, rfl, rfl, trivial⟩⟩
 have hkl : k < ml.length := by omega
 obtain ⟨⟨pr, hdr⟩, -, -, hxs2, -, -⟩ := id hJ
 have hSO : SOk S2 := ⟨hdr.l1, hdr.l2, hdr.l3, hdr.l4, hdr.nd, by omega, fun y hy => (hdr.ok y hy).small⟩
 have hx2 : x < S2.st.length := hdr.xl
 have hix2 : (S2.st.map (eL eI))[x]? = some (eL eI xs) := by rw [← hxs2]; exact zch hx2
 have him : (ml.map eSt)[k]? = some (eSt (gti ml k)) := zch hkl
 obtain ⟨hap, hkd, hoy⟩ := hml _ (gti_mem hkl)
 have hstep := fun {m y} (hm : gti (zcf n w xs) k = m) hy => hJ.step hvc (by rw [hmleq]; exact hkl) hcx0 hcx1 (m := m) hm (y := y) hy
 rw [hmleq] at hstep
 rw [zcr hkl] at hrr
 obtain ⟨m, hm0⟩ : ∃ m, gti ml k = m := ⟨_, rfl⟩
 rw [hm0] at him hap hkd hoy hrr
 have hA := zzy (P := P) n w xs m
 have hco := z2y (P := P) c [m]
 rw [zzs hvc hkd] at hco
 have hpr := zim hvc m.kind
 obtain ⟨y, hy0⟩ : ∃ y, (zbi n w xs m).1 = y := ⟨_, rfl⟩
 have hJ2 := hstep hm0 hy0
 rw [hap, hy0] at hA
 rw [hy0] at hoy
 have hrr2 : rlxP n w c x cx (ml.drop (k + 1)) (metE S2 y (cx + zbk c m.kind) x m, if chpE S2 y (cx + zbk c m.kind) then zhw q2 (cx + zbk c m.kind, (idx S2.st y : Int)) else q2) = rr := by
  rw [← hrr]
  show _ = rlxP n w c x cx (ml.drop (k + 1)) (metE S2 (zbi n w (gti S2.st x) m).1 (cx + zbk c m.kind) x m, if chpE S2 (zbi n w (gti S2.st x) m).1 (cx + zbk c m.kind) then zhw q2 (cx + zbk c m.kind, (idx S2.st (zbi n w (gti S2.st x) m).1 : Int)) else q2)
  rw [hxs2, hy0]
 clear hstep hrr hJ hdr
 obtain ⟨cy, hcy⟩ : ∃ cy, cx + zbk c m.kind = cy := ⟨_, rfl⟩
 have hadd : IntKind.i64.wrap (cx + zbk c m.kind) = cy := by rw [hcy]; exact IntWalk.i64_in _ (by omega)
 rw [hcy] at hJ2 hrr2
 unfold metE chpE at hJ2 hrr2
 refine zaf (zab (zad rfl rfl (zaa rfl) (zbn (by omega) (zaz rfl rfl rfl)) (zae (zaf (zax rfl (zaq (zaf (zaw (zaf (zab (zad rfl rfl (zaa rfl) (zap rfl zjw ze1 rfl rfl rfl him rfl) (zbc zjx ze1 rfl (zad rfl rfl (zaa rfl) (zbw rfl ze1 rfl rfl) (zbz rfl (zaa rfl) (za0 rfl ze1 rfl rfl rfl rfl rfl rfl (by decide) (by decide)) (zae (zaf ?_))))))))))))))))
 refine zbv (zbl (id := 9) rfl) ?_
 refine zbv (zb3 (d := 23) rfl rfl rfl) ?_
 refine zb1 hmix ?_
 refine za5 (by kernel_rfl) ?_
 refine qx_w ta24 ti24 rfl (qx_s rfl (qx_s rfl (qx_s rfl (qx_f zh4 rfl (za2 rfl rfl (zaa rfl) (zao rfl ztl rfl rfl rfl rfl rfl) (qx_f zfk rfl (qx_l ta3 rfl (za2 rfl rfl (zaa rfl) (zas rfl zqg ti48 rfl rfl rfl hx2) (za2 rfl rfl (zaa rfl) (zao rfl ta48 rfl rfl rfl hix2 rfl) (qx_w zjx ze1 rfl (za2 rfl rfl (zaa rfl) (zai rfl rfl (hA) (zag rfl (zag rfl (zag rfl (zag rfl zam))))) (qx_s rfl (qx_s rfl (qx_s rfl (qx_s rfl (qx_s rfl ?_))))))))))))))))
 refine zck ?_
 refine zaf (zab (zbc ta27 ti27 rfl (zbc zjx ze1 rfl ?_)))
 refine zad rfl rfl (zaa rfl) (zgc rfl zjw ze1 rfl rfl (by decide) (by decide) rfl rfl rfl (by repeat' (first | exact Lo.s _ | exact zbb | refine zaj ?_ ?_ | refine zb9 ?_ | refine Lo.agg _ ?_ | refine Lo.sl _ ?_ | intro _))) ?_
 refine zad rfl rfl (zaa rfl) (zai rfl rfl (hco) (zag rfl (zag rfl zam))) (zac rfl (zac rfl (zac rfl (zac rfl (zac rfl (zae (zaf (zaf (zab (zac rfl (zad rfl rfl (zaa rfl) (zbf rfl rfl rfl) (zac rfl (zac rfl (zad rfl rfl (zan rfl rfl rfl) (zbf rfl rfl rfl) (zac rfl (zae (zah (zat rfl (zaq (zaf ?_))))))))))))))))))))
 have hlm : Lo 0 (.ref (eSt m).cells) := .ref _ (z2e m).cells
 refine zbv (zz5 (F' := [(1, eL eS w), (3, eI most), (4, .ref (eN n).cells), (6, .ref (eC c).cells), (13, eL eI goal), (15, .ptr 2 14 0 0), (16, .ptr 0 1 0 0), (17, eI fd'), (18, eI (nr + 1)), (19, .ref (eEn (cx, (x : Int))).cells), (140, eL eSt ml), (141, eI ml.length), (142, eI k), (23, .ref (eSt m).cells), (24, eL eI y), (26, eI (zbk c m.kind))]) rfl ⟨.lo _ (lo_W w), .lo _ (.s _), .lo _ hln, .lo _ hlc, .lo _ lo_I, .ptr 2 2 14 0 0 rfl, .ptr 0 0 1 0 0 rfl, .lo _ (.s _), .lo _ (.s _), .lo _ hle, .lo _ (zip _), .lo _ (.s _), .lo _ (.s _), .lo _ hlm, .lo _ lo_I, .lo _ (.s _), trivial⟩) ?_
 by_cases hf : zdy S2.st y < 0
 ·
  rw [if_pos hf, decide_eq_true hf, Bool.true_or, if_pos rfl, zq6 hf] at hJ2 hrr2
  have hMe := zmp (P := P) (n := n) (w := w) (c := c) (q1 := .row 1 [.own 1 2 q2.length]) (q2 := .row 2 (q2.map eEn)) (cy := cy) (f := x) (m := m) hSO hoy hf
  have hPu := zmw (P := P) (a := 0) (b := 1) (σ := stSn P n w c S2 (.row 1 [.own 1 2 q2.length]) (.row 2 (q2.map eEn)) y cy x m) (l := q2) ⟨rfl, rfl, by decide⟩ (by omega) (cy, (S2.st.length : Int))
  refine zab (zac rfl (zac rfl (zbm zgi rfl (zbu ta3 rfl (zac rfl (zad rfl rfl (zaa rfl) (za9 rfl rfl rfl hadd) (zbm zfk rfl (zbu ta3 rfl (zbc zjx ze1 rfl (zad rfl rfl (zaa rfl) (zdd rfl rfl hMe rfl) (zac rfl (zac rfl (zac rfl (zac rfl (zac rfl (zae (zaf (zab (zac rfl (zae (zah (zax rfl (zab (zac rfl ?_))))))))))))))))))))))))
  refine zad rfl rfl (zaa rfl) (zgb rfl (by rw [IsP.eq (P := P)]; kernel_rfl) rfl) ?_
  refine zbm zgi rfl (zbu ta3 rfl (zac rfl (zad rfl rfl (zaa rfl) (za9 rfl rfl rfl hadd) (zac rfl (zad rfl rfl (zaa rfl) (zbr rfl zfa z1c rfl rfl) ?_)))))
  refine zad rfl rfl (zaa rfl) (zgb rfl (by rw [IsP.eq (P := P)]; kernel_rfl) rfl) ?_
  refine zad rfl rfl (zaa rfl) (zdd rfl rfl hPu rfl) (zae (zb8 (zah (zab (zad rfl rfl (zaa rfl) (za9 rfl rfl rfl (IntWalk.i64_in _ (by omega))) (zac rfl (zae (zah ?_))))))))
  exact ⟨(k + 1, _, _), ⟨by show k + 1 ≤ ml.length; omega, hJ2, hrr2⟩, by show ml.length - (k + 1) < ml.length - k; omega, zed [0, 15, 2, 10, 11, 12, 13, 14, 8] (by decide) ⟨⟨_, rfl, zha (.own _ _ _ _ _ rfl (zhp q2 (cy, (S2.st.length : Int))).symm)⟩, ⟨_, rfl, .rowE (zm2 _) rfl⟩, ⟨_, rfl, zkq (.own _ _ _ _ _ rfl (by simp)) (.own _ _ _ _ _ rfl (by simp)) (.own _ _ _ _ _ rfl (by simp)) (.own _ _ _ _ _ rfl (by simp)) (.own _ _ _ _ _ rfl (by simp)) (.mp _ _ rfl)⟩, ⟨_, rfl, .rowE (zh5 _) (by simp)⟩, ⟨_, rfl, .rowE (zek _) (by simp)⟩, ⟨_, rfl, .rowE (zek _) (by simp)⟩, ⟨_, rfl, .rowE (zgj _) (by simp)⟩, ⟨_, rfl, .rowE (zgv _) (by simp)⟩, ⟨_, rfl, zlz rfl⟩, trivial⟩ ⟨.lo _ (lo_W w), .lo _ (.s _), .lo _ hln, .lo _ hlc, .lo _ lo_I, .ptr 2 2 14 0 0 rfl, .ptr 0 0 1 0 0 rfl, .lo _ (.s _), .lo _ (.s _), .lo _ hle, .lo _ (zip _), .lo _ (.s _), .lo _ (.s _), trivial⟩⟩
 rw [if_neg hf, decide_eq_false hf, Bool.false_or] at hJ2 hrr2
 by_cases hlt : cy < gti S2.co (idx S2.st y)
 ·
  rw [if_pos hlt, decide_eq_true hlt, if_pos rfl] at hJ2 hrr2
  have hMe := zt4 (P := P) (n := n) (w := w) (c := c) (q1 := .row 1 [.own 1 2 q2.length]) (q2 := .row 2 (q2.map eEn)) (cy := cy) (f := x) (m := m) hSO hoy hf hlt
  have hPu := zmw (P := P) (a := 0) (b := 1) (σ := stSc P n w c S2 (.row 1 [.own 1 2 q2.length]) (.row 2 (q2.map eEn)) (idx S2.st y) cy x m) (l := q2) ⟨rfl, rfl, by decide⟩ (by omega) (cy, (idx S2.st y : Int))
  refine zab (zac rfl (zac rfl (zbm zgi rfl (zbu ta3 rfl (zac rfl (zad rfl rfl (zaa rfl) (za9 rfl rfl rfl hadd) (zbm zfk rfl (zbu ta3 rfl (zbc zjx ze1 rfl (zad rfl rfl (zaa rfl) (zdd rfl rfl hMe rfl) (zac rfl (zac rfl (zac rfl (zac rfl (zac rfl (zae (zaf (zab (zac rfl (zae (zah (zax rfl (zab (zac rfl ?_))))))))))))))))))))))))
  refine zad rfl rfl (zaa rfl) (zgb rfl (by rw [IsP.eq (P := P)]; kernel_rfl) rfl) ?_
  refine zbm zgi rfl (zbu ta3 rfl (zac rfl (zad rfl rfl (zaa rfl) (za9 rfl rfl rfl hadd) (zac rfl (zad rfl rfl (zaa rfl) (zbr rfl zfa z1c rfl rfl) ?_)))))
  refine zad rfl rfl (zaa rfl) (zgb rfl (by rw [IsP.eq (P := P)]; kernel_rfl) rfl) ?_
  refine zad rfl rfl (zaa rfl) (zdd rfl rfl hPu rfl) (zae (zb8 (zah (zab (zad rfl rfl (zaa rfl) (za9 rfl rfl rfl (IntWalk.i64_in _ (by omega))) (zac rfl (zae (zah ?_))))))))
  exact ⟨(k + 1, _, _), ⟨by show k + 1 ≤ ml.length; omega, hJ2, hrr2⟩, by show ml.length - (k + 1) < ml.length - k; omega, zed [0, 10, 2, 3, 4, 5, 6, 7, 8] (by decide) ⟨⟨_, rfl, zha (.own _ _ _ _ _ rfl (zhp q2 (cy, (idx S2.st y : Int))).symm)⟩, ⟨_, rfl, .rowE (zm2 _) rfl⟩, ⟨_, rfl, zkq (.own _ _ _ _ _ rfl (by simp)) (.own _ _ _ _ _ rfl (by simp)) (.own _ _ _ _ _ rfl (by simp)) (.own _ _ _ _ _ rfl (by simp)) (.own _ _ _ _ _ rfl (by simp)) (.mp _ _ rfl)⟩, ⟨_, rfl, .rowE (zh5 _) rfl⟩, ⟨_, rfl, .rowE (zek _) (by simp [List.map_set])⟩, ⟨_, rfl, .rowE (zek _) (by simp [List.map_set])⟩, ⟨_, rfl, .rowE (zgj _) (by simp [List.map_set])⟩, ⟨_, rfl, .rowE (zgv _) rfl⟩, ⟨_, rfl, zlz rfl⟩, trivial⟩ ⟨.lo _ (lo_W w), .lo _ (.s _), .lo _ hln, .lo _ hlc, .lo _ lo_I, .ptr 2 2 14 0 0 rfl, .ptr 0 0 1 0 0 rfl, .lo _ (.s _), .lo _ (.s _), .lo _ hle, .lo _ (zip _), .lo _ (.s _), .lo _ (.s _), trivial⟩⟩
 ·
  rw [if_neg hlt, decide_eq_false hlt, if_neg (by decide)] at hJ2 hrr2
  have hMe := zt3 (P := P) (n := n) (w := w) (c := c) (q1 := .row 1 [.own 1 2 q2.length]) (q2 := .row 2 (q2.map eEn)) (cy := cy) (f := x) (m := m) hSO hoy hf hlt
  refine zab (zac rfl (zac rfl (zbm zgi rfl (zbu ta3 rfl (zac rfl (zad rfl rfl (zaa rfl) (za9 rfl rfl rfl hadd) (zbm zfk rfl (zbu ta3 rfl (zbc zjx ze1 rfl (zad rfl rfl (zaa rfl) (zdd rfl rfl hMe rfl) (zac rfl (zac rfl (zac rfl (zac rfl (zac rfl (zae (zaf (zab (zac rfl (zae (zah (zat rfl (zaq (zb8 (zah (zab (zad rfl rfl (zaa rfl) (za9 rfl rfl rfl (IntWalk.i64_in _ (by omega))) (zac rfl (zae (zah ?_))))))))))))))))))))))))))))))
  exact ⟨(k + 1, _, _), ⟨by show k + 1 ≤ ml.length; omega, hJ2, hrr2⟩, by show ml.length - (k + 1) < ml.length - k; omega, zz5 rfl ⟨.lo _ (lo_W w), .lo _ (.s _), .lo _ hln, .lo _ hlc, .lo _ lo_I, .ptr 2 2 14 0 0 rfl, .ptr 0 0 1 0 0 rfl, .lo _ (.s _), .lo _ (.s _), .lo _ hle, .lo _ (zip _), .lo _ (.s _), .lo _ (.s _), trivial⟩⟩
end Go.Proofs.YtohmldibkojkfaaGreatDoor.Aw
end
