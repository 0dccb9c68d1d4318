import Derived.Test.YtohmldibkojkfaaGreatDoorJB40
import Derived.Test.YtohmldibkojkfaaGreatDoorJB46
import Derived.Test.YtohmldibkojkfaaGreatDoorJB20
import Derived.Test.YtohmldibkojkfaaGreatDoorJB17
set_option linter.unusedSimpArgs false
set_option linter.unusedVariables false
set_option linter.unusedSectionVars false
section
namespace Go.Proofs.YtohmldibkojkfaaGreatDoor.Aw
open Go Go.RowKit Go.Proofs Dl
variable {P : Program} [IsP P]
set_option maxHeartbeats 4000000 in
theorem qualityForms_pf (n : Net) (vs : List Vr) (most : Int) : Pure P 6 [eN n, eL eVr vs, eI most] (eB true) := by
 have haw := zsh (P := P)
 have hgr := zoc (P := P) n
 have hmy := zn3 (P := P) vs most
 have hS := z0q (P := P) n
 have hS2 := z13 (P := P) n
 have hF := zld (P := P) n vs most
 have hR := zrh (P := P) n vs most
 generalize znj n = b1 at hgr
 generalize zrp vs most = b2 at hmy
 generalize simE n = s at hS hS2
 generalize perfE n vs most = r at hF hR
 obtain ⟨rb, rk, re⟩ := r
 obtain ⟨sn, sd, se⟩ := s
 have hln : Lo 0 (.ref (eN n).cells) := .ref _ (lo_N n).cells
 refine zcu (by rw [IsP.eq (P := P)]; exact Tryz.func6) rfl rfl rfl rfl rfl (zaj (lo_N n) (zaj (zdv vs) (zaj (.s _) zar))) (.s _) (by simp only [argF]; rfl) ?_
 refine zaf (zab (zad rfl rfl (zaa rfl) (zbv rfl rfl rfl rfl) ?_))
 refine zau (zbk (id := 0) rfl) (zau (zch (d := 3) rfl rfl rfl) ?_)
 refine zac rfl (zae (zaf (zaf (zab (zad rfl rfl (zaa rfl) (zai rfl rfl (haw) zam) (zad rfl rfl (zaa rfl) (zay rfl rfl) (zae (zah (zax rfl (zao (zaf (zaf ?_))))))))))))
 cases b1 with
 | true =>
  refine zab (zbr ta24 ti24 rfl (zad rfl rfl (zaa rfl) (zai rfl rfl (hgr) (zag rfl zam)) (zac rfl (zat rfl (zat rfl (zat rfl (zac rfl (zae (zah (za0 rfl (zaf (zab (zac rfl (zae (zah ?_)))))))))))))))
  (refine zav ?_; repeat (first | refine za6 ?_ | refine za7 ?_))
  exact zbj (.inr rfl) rfl rfl
 | false =>
 cases b2 with
 | true =>
  refine zab (zbr ta24 ti24 rfl (zad rfl rfl (zaa rfl) (zai rfl rfl (hgr) (zag rfl zam)) (zac rfl (zac rfl (zac rfl (zad rfl rfl (zal rfl rfl rfl) (zai rfl rfl (hmy) (zag rfl (zag rfl zam))) (zac rfl (zae (zah (za0 rfl (zaf (zab (zac rfl (zae (zah ?_)))))))))))))))
  (refine zav ?_; repeat (first | refine za6 ?_ | refine za7 ?_))
  exact zbj (.inr rfl) rfl rfl
 | false =>
 refine zab (zbr ta24 ti24 rfl (zad rfl rfl (zaa rfl) (zai rfl rfl (hgr) (zag rfl zam)) (zac rfl (zac rfl (zac rfl (zad rfl rfl (zal rfl rfl rfl) (zai rfl rfl (hmy) (zag rfl (zag rfl zam))) (zac rfl (zae (zah (zax rfl (zao (zaf (zab (zbr ta24 ti24 rfl (zad rfl rfl (zaa rfl) (zai rfl rfl (hS) (zag rfl zam)) (zac rfl (zac rfl (zac rfl (zad rfl rfl (zaa rfl) (zbw rfl ti32 rfl rfl) (zcg rfl (zaa rfl) (za8 rfl ti32 rfl rfl rfl rfl rfl rfl (by decide) (by decide)) ?_))))))))))))))))))))
 refine zac rfl (zae (zaf (zab (zbr ta24 ti24 rfl (zad rfl rfl (zaa rfl) (zai rfl rfl (hS2) (zag rfl zam)) (zac rfl (zac rfl (zac rfl (zad rfl rfl (zaa rfl) (zbw rfl ti32 rfl rfl) (zcg rfl (zaa rfl) (za8 rfl ti32 rfl rfl rfl rfl rfl rfl (by decide) (by decide)) (zac rfl (zae (zaf (zab (zbr ta24 ti24 rfl (zac rfl (zac rfl (zad rfl rfl (zaa rfl) (zai rfl rfl (hF) (zag rfl (zag rfl (zag rfl zam)))) (zac rfl (zac rfl (zac rfl (zac rfl (zac rfl ?_)))))))))))))))))))))))
 refine zac rfl (zac rfl (zae (zaf (zab (zbr ta24 ti24 rfl (zac rfl (zac rfl (zad rfl rfl (zaa rfl) (zai rfl rfl (hR) (zag rfl (zag rfl (zag rfl zam)))) (zac rfl (zac rfl (zac rfl (zac rfl (zac rfl (zac rfl (zac rfl (zae (zaf ?_)))))))))))))))))
 cases rb with
 | true =>
  refine zab (zad rfl rfl (zaa rfl) (zb2 rfl ta32 ti32 rfl rfl rfl rfl rfl) (zad rfl rfl (zaa rfl) (zb2 rfl ta32 ti32 rfl rfl rfl rfl rfl) ?_))
  refine zad rfl rfl (zaa rfl) (zqq (by rfl) (zhv rfl rfl rfl te32 rfl rfl rfl)) ?_
  refine zac rfl (zac rfl (zac rfl (zad rfl rfl (zal rfl rfl rfl) (zbp rfl (zcc rfl rfl rfl)) (zac rfl (zac rfl (zac rfl (zac rfl ?_)))))))
  refine zad rfl rfl (zal rfl rfl rfl) (zqp (by rw [IsP.eq (P := P)]; kernel_rfl) rfl rfl rfl) ?_
  refine zac rfl (zac rfl (zac rfl (zac rfl (zad rfl rfl (zal rfl rfl rfl) (zbp rfl (zcc rfl rfl rfl)) (zac rfl (zac rfl (zac rfl (zac rfl (zad rfl rfl (zal rfl rfl rfl) (zbp rfl (zcc rfl rfl rfl)) (zac rfl (zac rfl (zae (zah ?_)))))))))))))
  (refine zav ?_; repeat (first | refine za6 ?_ | refine za7 ?_))
  exact zbj (.inr rfl) rfl rfl
 | false =>
  refine zab (zad rfl rfl (zaa rfl) (zb2 rfl ta32 ti32 rfl rfl rfl rfl rfl) (zad rfl rfl (zaa rfl) (zb2 rfl ta32 ti32 rfl rfl rfl rfl rfl) ?_))
  refine zad rfl rfl (zaa rfl) (zqq (by rfl) (zhv rfl rfl rfl te32 rfl rfl rfl)) ?_
  refine zac rfl (zac rfl (zac rfl (zad rfl rfl (zal rfl rfl rfl) (zbp rfl (zcc rfl rfl rfl)) (zac rfl (zac rfl (zac rfl (zac rfl ?_)))))))
  refine zad rfl rfl (zal rfl rfl rfl) (zqp (by rw [IsP.eq (P := P)]; kernel_rfl) rfl rfl rfl) ?_
  refine zac rfl (zac rfl (zac rfl (zac rfl (zad rfl rfl (zal rfl rfl rfl) (zbp rfl (zcc rfl rfl rfl)) (zac rfl (zac rfl (zac rfl (zac rfl (zad rfl rfl (zal rfl rfl rfl) (zbp rfl (zcc rfl rfl rfl)) (zac rfl (zac rfl (zae (zah ?_)))))))))))))
  (refine zav ?_; repeat (first | refine za6 ?_ | refine za7 ?_))
  exact zbj (.inr rfl) rfl rfl
theorem ne11 {a b : Int} (h : ¬ (a = 1 ∧ b = 1)) : ¬ ([eI a, eI b].map unS = [eI 1, eI 1].map unS) := fun e => h (by
 replace e : [Value.int .i64 a, Value.int .i64 b] = [Value.int .i64 1, Value.int .i64 1] := e
 injection e with e1 e2
 injection e2 with e2 _
 injection e1 with _ e1
 injection e2 with _ e2
 exact ⟨e1, e2⟩)
set_option maxHeartbeats 4000000 in
theorem zjf (n : Net) (vs : List Vr) (x y : Int) (hx : 0 ≤ x ∧ x ≤ 255) (hy : 0 ≤ y ∧ y ≤ 255) : Pure P 7 [eN n, eL eVr vs, eU x, eU y] (eB true) := by
 have haw := zsh (P := P)
 have hgr := zoc (P := P) n
 have hmy := zn3 (P := P) vs 60
 have hF := ztt (P := P) n vs ⟨1 + x, 1 + y, 0⟩ 60
 have hQ := zld (P := P) n vs 60
 have hL := fun h b k => @zy3 n vs ⟨1 + x, 1 + y, 0⟩ 60 (by show 0 < 1 + x; omega) (by show 0 < 1 + y; omega) rfl h b k
 have hcw : IntKind.i64.wrap x = x := IntWalk.i64_in _ (by omega)
 have hcw2 : IntKind.i64.wrap y = y := IntWalk.i64_in _ (by omega)
 obtain ⟨mx, hmx⟩ : ∃ mx, (if (1 : Int) < (vs.length : Int) then (vs.length : Int) else 1) = mx := ⟨_, rfl⟩
 have hmx2 : (vs.length : Int) ≤ mx ∧ 1 ≤ mx := by split at hmx <;> omega
 generalize znj n = b1 at hgr
 generalize zrp vs 60 = b2 at hmy
 generalize qFitE n vs ⟨1 + x, 1 + y, 0⟩ 60 = r at hF hL
 generalize perfE n vs 60 = p at hQ hL
 obtain ⟨rn, rd, re⟩ := r
 obtain ⟨pb, pk, pe⟩ := p
 have hln : Lo 0 (.ref (eN n).cells) := .ref _ (lo_N n).cells
 refine zcu (by rw [IsP.eq (P := P)]; exact Tryz.func7) rfl rfl rfl rfl rfl (zaj (lo_N n) (zaj (zdv vs) (zaj (.s _) (zaj (.s _) zar)))) (.s _) (by simp only [argF]; rfl) ?_
 refine zaf (zab (zad rfl rfl (zaa rfl) (zbv rfl rfl rfl rfl) ?_))
 refine zau (zbk (id := 0) rfl) (zau (zch (d := 4) rfl rfl rfl) ?_)
 refine zac rfl (zae (zaf (zaf (zab (zad rfl rfl (zaa rfl) (zai rfl rfl (haw) zam) (zad rfl rfl (zaa rfl) (zay rfl rfl) (zae (zah (zax rfl (zao (zaf (zaf ?_))))))))))))
 cases b1 with
 | true =>
  refine zab (zbr ta24 ti24 rfl (zad rfl rfl (zaa rfl) (zai rfl rfl (hgr) (zag rfl zam)) (zac rfl (zat rfl (zat rfl (zac rfl (zae (zah (za0 rfl (zaf (zab (zac rfl (zae (zah ?_))))))))))))))
  (refine zav ?_; repeat (first | refine za6 ?_ | refine za7 ?_))
  exact zbj (.inr rfl) rfl rfl
 | false =>
 cases b2 with
 | true =>
  refine zab (zbr ta24 ti24 rfl (zad rfl rfl (zaa rfl) (zai rfl rfl (hgr) (zag rfl zam)) (zac rfl (zac rfl (zad rfl rfl (zal rfl rfl rfl) (zai rfl rfl (hmy) (zag rfl (zag rfl zam))) (zac rfl (zae (zah (za0 rfl (zaf (zab (zac rfl (zae (zah ?_))))))))))))))
  (refine zav ?_; repeat (first | refine za6 ?_ | refine za7 ?_))
  exact zbj (.inr rfl) rfl rfl
 | false =>
 refine zab (zbr ta24 ti24 rfl (zad rfl rfl (zaa rfl) (zai rfl rfl (hgr) (zag rfl zam)) (zac rfl (zac rfl (zad rfl rfl (zal rfl rfl rfl) (zai rfl rfl (hmy) (zag rfl (zag rfl zam))) (zac rfl (zae (zah (zax rfl (zao (zaf (zab (zbr ta24 ti24 rfl (zac rfl (zac rfl (zad rfl rfl (zaa rfl) (zl8 rfl tu5 tk3 rfl hcw) (zad rfl rfl (zaa rfl) (za4 rfl rfl rfl (IntWalk.i64_in _ (by omega))) (zac rfl (zad rfl rfl (zaa rfl) (zl8 rfl tu5 tk3 rfl hcw2) (zad rfl rfl (zaa rfl) (za4 rfl rfl rfl (IntWalk.i64_in _ (by omega))) ?_))))))))))))))))))))
 refine zad rfl rfl (zaa rfl) (zbf rfl ti27 tp27 rfl rfl) (zad rfl rfl (zaa rfl) (zai rfl rfl (hF) (zag rfl (zag rfl (zag rfl (zag rfl zam))))) (zac rfl (zac rfl (zac rfl (zad rfl rfl (zaa rfl) (zbw rfl ti32 rfl rfl) (zcg rfl (zaa rfl) (za8 rfl ti32 rfl rfl rfl rfl rfl rfl (by decide) (by decide)) (zac rfl (zae (zaf (zab (zbr ta24 ti24 rfl (zac rfl (zad rfl rfl (zaa rfl) (zai rfl rfl (hQ) (zag rfl (zag rfl (zag rfl zam)))) (zac rfl (zac rfl ?_)))))))))))))))
 refine zac rfl (zac rfl (zac rfl (zac rfl (zac rfl (zae (zaf (zaf ?_)))))))
 by_cases h1 : re ≠ 0
 ·
  refine zab (zac rfl (zad rfl rfl (zaa rfl) (zbp h1 (zbg rfl rfl rfl)) (zac rfl (zat rfl (zat rfl (zac rfl (zae (zah (za0 rfl (zaf (zab (zac rfl (zae (zah ?_))))))))))))))
  (refine zav ?_; repeat (first | refine za6 ?_ | refine za7 ?_))
  exact zbj (.inr rfl) rfl rfl
 by_cases h2 : pe ≠ 0
 ·
  refine zab (zac rfl (zad rfl rfl (zaa rfl) (zbi h1 (zbg rfl rfl rfl)) (zac rfl (zac rfl (zad rfl rfl (zal rfl rfl rfl) (zbp h2 (zbg rfl rfl rfl)) (zac rfl (zae (zah (za0 rfl (zaf (zab (zac rfl (zae (zah ?_))))))))))))))
  (refine zav ?_; repeat (first | refine za6 ?_ | refine za7 ?_))
  exact zbj (.inr rfl) rfl rfl
 have e1 : re = 0 := Decidable.not_not.1 h1
 have e2 : pe = 0 := Decidable.not_not.1 h2
 subst e1 e2
 refine zab (zac rfl (zad rfl rfl (zaa rfl) (zbi h1 (zbg rfl rfl rfl)) (zac rfl (zac rfl (zad rfl rfl (zal rfl rfl rfl) (zbi h2 (zbg rfl rfl rfl)) (zac rfl (zae (zah (zax rfl (zao (zaf (zaf ?_))))))))))))
 rcases hL rfl pb pk rfl with ⟨rfl, hk, hn, hd⟩ | ⟨rfl, hn, j, hj, hk, hft, hfe⟩
 ·
  replace hn : rn = 1 := hn
  replace hd : rd = 1 := hd
  subst hk hn hd
  refine zab (zac rfl (zad rfl rfl (zaa rfl) (zb2 rfl ta32 ti32 rfl rfl rfl rfl rfl) (zad rfl rfl (zaa rfl) (zbf rfl ti32 tp32 rfl rfl) ?_)))
  refine zad rfl rfl (zaa rfl) (zqq (by rfl) (zhv rfl rfl rfl te32 rfl rfl rfl)) ?_
  refine zad rfl rfl (zaa rfl) (zql (by rw [IsP.eq (P := P)]; kernel_rfl) rfl rfl rfl) ?_
  refine zac rfl (zac rfl (zac rfl (zac rfl ?_)))
  refine zad rfl rfl (zal rfl rfl rfl) (zbi (fun h => h rfl) (zbg rfl rfl rfl)) ?_
  refine zac rfl (zac rfl (zac rfl (zac rfl (zad rfl rfl (zal rfl rfl rfl) (zbi (by decide) (zaz rfl rfl rfl)) (zac rfl (zac rfl (zac rfl (zac rfl (zad rfl rfl (zal rfl rfl rfl) (zak rfl ts25 rfl) (zad rfl rfl (zal rfl rfl rfl) (zt0 rfl rfl rfl hmx) ?_))))))))))
  refine zad rfl rfl (zal rfl rfl rfl) (zbi (by show ¬ ((0 : Int) ≥ mx); omega) (zcr rfl rfl rfl)) ?_
  refine zac rfl (zae (zah (zax rfl (zao (zaf (zaf (zab (zac rfl (zae (zah (za0 rfl (zaf (zab (zac rfl (zae (zah ?_))))))))))))))))
  (refine zav ?_; repeat (first | refine za6 ?_ | refine za7 ?_))
  exact zbj (.inr rfl) rfl rfl
 ·
  replace hn : ¬ (rn = 1 ∧ rd = 1) := hn
  subst hk
  have hix : (vs.map eVr)[j]? = some (eVr (gti vs j)) := zbz hj
  have hFt := zsn (P := P) n (gti vs j).acts 60
  generalize gti vs j = v at hix hFt hft hfe
  obtain ⟨acts, cnt⟩ := v
  dsimp only at hFt hft hfe
  replace hix : (vs.map eVr)[j]? = some (aVr acts cnt) := hix
  generalize FitsE n acts 60 = q at hFt hft hfe
  obtain ⟨qb, run, qe⟩ := q
  replace hft : qb = false := hft
  replace hfe : qe = 0 := hfe
  subst hft hfe
  refine zab (zac rfl (zad rfl rfl (zaa rfl) (zb2 rfl ta32 ti32 rfl rfl rfl rfl rfl) (zad rfl rfl (zaa rfl) (zbf rfl ti32 tp32 rfl rfl) (zad rfl rfl (zaa rfl) (dec_fi (ne11 hn) (zhv rfl rfl rfl te32 rfl rfl rfl)) ?_))))
  refine zad rfl rfl (zaa rfl) (zql (by rw [IsP.eq (P := P)]; kernel_rfl) rfl rfl rfl) ?_
  refine zac rfl (zac rfl (zac rfl (zat rfl (zat rfl (zac rfl (zac rfl (zac rfl (zac rfl ?_))))))))
  refine zad rfl rfl (zal rfl rfl rfl) (zbi (by show ¬ ((j : Int) < 0); omega) (zaz rfl rfl rfl)) ?_
  refine zac rfl (zac rfl (zac rfl (zac rfl (zad rfl rfl (zal rfl rfl rfl) (zak rfl ts25 rfl) (zad rfl rfl (zal rfl rfl rfl) (zt0 rfl rfl rfl hmx) ?_)))))
  refine zad rfl rfl (zal rfl rfl rfl) (zbi (by show ¬ ((j : Int) ≥ mx); omega) (zcr rfl rfl rfl)) ?_
  refine zac rfl (zae (zah (zax rfl (zao (zaf (zaf (zab (zac rfl (zae (zah (zax rfl (zao (zaf ?_)))))))))))))
  refine zb6 hmix ?_
  refine zba (by kernel_rfl) ?_
  refine qx_w ta24 ti24 rfl (qx_s rfl (qx_s rfl (za9 rfl rfl (zaa rfl) (zan rfl ts25 ti46 rfl rfl rfl hix rfl) (qx_f zcm rfl (qx_l ta44 rfl (za9 rfl rfl (zaa rfl) (zai rfl rfl (hFt) (zag rfl (zag rfl (zag rfl zam)))) (qx_s rfl (qx_s rfl (qx_s rfl (qx_s rfl (qx_s rfl (qx_s rfl (qx_s rfl ?_)))))))))))))
  refine zcp ?_
  refine zaf (zab (zac rfl (zad rfl rfl (zaa rfl) (zbp rfl (zcc rfl rfl rfl)) (zac rfl (zac rfl (zad rfl rfl (zal rfl rfl rfl) (zay rfl rfl) (zac rfl (zac rfl (zae (zah ?_))))))))))
  (refine zav ?_; repeat (first | refine za6 ?_ | refine za7 ?_))
  exact zbj (.inr rfl) rfl rfl
theorem qualityPerfectQ_pf (n : Net) (vs : List Vr) (x y : { n : Int // 0 ≤ n ∧ n ≤ 255 }) : Pure P 7 [eN n, eL eVr vs, .s (.int .u8 x.1), .s (.int .u8 y.1)] (eB true) := zjf n vs x.1 y.1 x.2 y.2
end Go.Proofs.YtohmldibkojkfaaGreatDoor.Aw
end
