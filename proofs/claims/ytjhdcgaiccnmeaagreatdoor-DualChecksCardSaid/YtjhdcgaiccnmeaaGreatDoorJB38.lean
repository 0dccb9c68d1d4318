import Derived.Test.YtjhdcgaiccnmeaaGreatDoorJB37
import Derived.Test.YtjhdcgaiccnmeaaGreatDoorJB16
set_option linter.unusedSimpArgs false
set_option linter.unusedVariables false
set_option linter.unusedSectionVars false
section
namespace Go.Proofs.YtjhdcgaiccnmeaaGreatDoor.Aw
open Go Go.RowKit Go.Proofs Go.Maps Go.WideMaps Dl
variable {P : Program} [IsP P]
set_option maxHeartbeats 1000000 in
theorem dualChecks_pf (n : Net) (w : List ByteArray) (c : Cst) (cost : Int) (p : Prf) : Pure P 3 [eN n, eL eS w, eC c, eI cost, ePf p] (eB true) := by
 have haw := zxi (P := P)
 have hsm := zr2 (P := P) n w
 have hfw := few_pf (P := P) p
 have hrv := zk7 (P := P) n w p
 have hrc := zo4 (P := P) n w c cost p
 have hdc := zl2 (P := P) n w c cost p
 have hdw := zru (P := P) n w c p
 have hvc := zge (P := P) c
 have hrw : vdB n w p = true → vcB c = true → Pure P 17 [eN n, eL eS w, eC c, ePf p] (eWr (zf6 n w c p c6)) := fun h1 h2 => zo0 n w c p (zhi.1 h1) h2
 have hwe : zj1 n w c p = if vcB c = true ∧ vdB n w p = true then zf6 n w c p c6 else ([], zStp, 1) := rfl
 generalize zmn n w = b1 at hsm
 generalize fewB p = b2 at hfw
 generalize vdB n w p = v at hrv hrw hwe
 generalize vcB c = z at hvc hrw hwe
 generalize checkE n w c cost p = ce at hrc hdc
 generalize zf6 n w c p c6 = Y at hrw hwe
 generalize zj1 n w c p = X at hdw hwe
 have hln : Lo 0 (.ref (eN n).cells) := .ref _ (lo_N n).cells
 have hlp : Lo 0 (.ref (ePf p).cells) := ze2 p
 have hlc : Lo 0 (.ref (eC c).cells) := .ref _ (lo_C c).cells
 refine zcl (by rw [IsP.eq (P := P)]; exact Tryz.func3) rfl rfl rfl rfl rfl (zah (lo_N n) (zah (lo_W w) (zah (lo_C c) (zah (.s _) (zah (zij p) zak))))) (.s _) (by simp only [argF]; rfl) ?_
 refine zag (zab (zaf rfl rfl (zaa rfl) (zb3 rfl rfl rfl rfl) ?_))
 refine za6 (zbm (id := 0) rfl) (za6 (zcb (d := 5) rfl rfl rfl) ?_)
 refine zaf rfl rfl (zaa rfl) (zb3 rfl rfl rfl rfl) ?_
 refine za6 (zbm (id := 1) rfl) (za6 (zcb (d := 7) rfl rfl rfl) ?_)
 refine zaf rfl rfl (zaa rfl) (zb3 rfl rfl rfl rfl) ?_
 refine za6 (zbm (id := 2) rfl) (za6 (zcb (d := 9) rfl rfl rfl) ?_)
 refine zac rfl (zad (zag (zag ?_)))
 cases b1 with
 | false =>
  refine zab (zaf rfl rfl (zaa rfl) (zam rfl rfl (haw) zap) (zaf rfl rfl (zaa rfl) (zbj rfl rfl) (zac rfl (zcx ta24 ti24 rfl (zac rfl (zaf rfl rfl (zat rfl rfl rfl) (zam rfl rfl (hsm) (zae rfl (zae rfl zap))) (zaf rfl rfl (zat rfl rfl rfl) (zbj rfl rfl) (zac rfl (zac rfl (za4 rfl (za4 rfl (za4 rfl (zac rfl (zad (zai (za5 rfl (zag (zab (zaf rfl rfl (zaa rfl) (zam rfl rfl (haw) zap) (zac rfl (zad (zai ?_))))))))))))))))))))))
  (refine za7 ?_; repeat (first | refine zbc ?_ | refine zbe ?_))
  exact zb6 (.inr rfl) rfl rfl
 | true =>
 cases b2 with
 | false =>
  refine zab (zaf rfl rfl (zaa rfl) (zam rfl rfl (haw) zap) (zaf rfl rfl (zaa rfl) (zbj rfl rfl) (zac rfl (zcx ta24 ti24 rfl (zac rfl (zaf rfl rfl (zat rfl rfl rfl) (zam rfl rfl (hsm) (zae rfl (zae rfl zap))) (zaf rfl rfl (zat rfl rfl rfl) (zbj rfl rfl) (zac rfl (zac rfl (zcx ta32 ti32 rfl (zaf rfl rfl (zat rfl rfl rfl) (zam rfl rfl (hfw) (zae rfl zap)) (zaf rfl rfl (zat rfl rfl rfl) (zbj rfl rfl) (zac rfl (zad (zai (za5 rfl (zag (zab (zaf rfl rfl (zaa rfl) (zam rfl rfl (haw) zap) ?_)))))))))))))))))))
  refine zac rfl (zad (zai ?_))
  (refine za7 ?_; repeat (first | refine zbc ?_ | refine zbe ?_))
  exact zb6 (.inr rfl) rfl rfl
 | true =>
 refine zab (zaf rfl rfl (zaa rfl) (zam rfl rfl (haw) zap) (zaf rfl rfl (zaa rfl) (zbj rfl rfl) (zac rfl (zcx ta24 ti24 rfl (zac rfl (zaf rfl rfl (zat rfl rfl rfl) (zam rfl rfl (hsm) (zae rfl (zae rfl zap))) (zaf rfl rfl (zat rfl rfl rfl) (zbj rfl rfl) (zac rfl (zac rfl (zcx ta32 ti32 rfl (zaf rfl rfl (zat rfl rfl rfl) (zam rfl rfl (hfw) (zae rfl zap)) (zaf rfl rfl (zat rfl rfl rfl) (zbj rfl rfl) (zac rfl (zad (zai (zau rfl (zar (zag (zab ?_)))))))))))))))))))
 refine zcx ta24 ti24 rfl (zac rfl (zcx ta27 ti27 rfl (zcx ta32 ti32 rfl (zaf rfl rfl (zaa rfl) (zam rfl rfl (hdw) (zae rfl (zae rfl (zae rfl (zae rfl zap))))) (zac rfl (zac rfl (zac rfl (zac rfl (zaf rfl rfl (zaa rfl) (za1 rfl ti37 rfl rfl) (zac rfl (zba rfl (zaa rfl) (zaj rfl ti37 rfl rfl rfl rfl rfl rfl (by decide) (by decide)) (zac rfl (zad (zag (zag ?_)))))))))))))))
 refine zb2 hmix ?_
 refine zc1 ?_
 refine ex_w ta24 ti24 rfl (ex_s rfl (ex_w ta27 ti27 rfl (ex_s rfl (ex_w ta32 ti32 rfl (zay rfl rfl (zaa rfl) (fun _ => (zam rfl rfl (hdc) (zae rfl (zae rfl (zae rfl (zae rfl (zae rfl zap))))))) (ex_w ta24 ti24 rfl (ex_s rfl (ex_w ta27 ti27 rfl (ex_s rfl (ex_w ta32 ti32 rfl (zay rfl rfl (zaa rfl) (fun _ => (zam rfl rfl (hrc) (zae rfl (zae rfl (zae rfl (zae rfl (zae rfl zap))))))) ?_)))))))))))
 all_goals refine zay rfl rfl (zaa rfl) (fun _ => (z17 (congrArg eB (show (!(ce == ce)) = false by cases ce <;> rfl)) (zwx (by rw [IsP.eq (P := P)]; kernel_rfl) rfl rfl rfl))) ?_
 refine zcf (by kernel_rfl) ?_
 refine zai (zau rfl (zar (zag (zag ?_))))
 cases v with
 | false =>
  have hx : X = ([], zStp, 1) := hwe.trans (if_neg (fun h => absurd h.2 (by decide)))
  subst hx
  refine zab (zcx ta24 ti24 rfl (zac rfl (zcx ta32 ti32 rfl (zaf rfl rfl (zaa rfl) (zam rfl rfl (hrv) (zae rfl (zae rfl (zae rfl zap)))) (zaf rfl rfl (zaa rfl) (zbj rfl rfl) (zac rfl (za4 rfl (za4 rfl (za4 rfl (zac rfl (zad (zai (za5 rfl (zag (zab (zac rfl (zaf rfl rfl (zaa rfl) (zao rfl ts29 rfl) (zaf rfl rfl (zaa rfl) (zdc rfl (zbn rfl rfl rfl)) (zac rfl (zaf rfl rfl (zat rfl rfl rfl) (za8 rfl ta37 ti37 rfl rfl rfl rfl rfl) (zaf rfl rfl (zat rfl rfl rfl) (za9 rfl ti37 tp37 rfl rfl) ?_)))))))))))))))))))))
  refine zaf rfl rfl (zat rfl rfl rfl) (zw5 rfl (zn7 rfl rfl rfl te37 rfl rfl rfl)) (zac rfl (zac rfl (zac rfl (zaf rfl rfl (zat rfl rfl rfl) (zdc rfl (zbn rfl rfl rfl)) (zac rfl (zac rfl (zad (zai ?_))))))))
  (refine za7 ?_; repeat (first | refine zbc ?_ | refine zbe ?_))
  exact zb6 (.inr rfl) rfl rfl
 | true =>
 cases z with
 | false =>
  have hx : X = ([], zStp, 1) := hwe.trans (if_neg (fun h => absurd h.1 (by decide)))
  subst hx
  refine zab (zcx ta24 ti24 rfl (zac rfl (zcx ta32 ti32 rfl (zaf rfl rfl (zaa rfl) (zam rfl rfl (hrv) (zae rfl (zae rfl (zae rfl zap)))) (zaf rfl rfl (zaa rfl) (zbj rfl rfl) (zac rfl (zcx ta27 ti27 rfl (zaf rfl rfl (zat rfl rfl rfl) (zam rfl rfl (hvc) (zae rfl zap)) (zaf rfl rfl (zat rfl rfl rfl) (zbj rfl rfl) (zac rfl (zad (zai (za5 rfl (zag (zab (zac rfl (zaf rfl rfl (zaa rfl) (zao rfl ts29 rfl) (zaf rfl rfl (zaa rfl) (zdc rfl (zbn rfl rfl rfl)) ?_))))))))))))))))))
  refine zac rfl (zaf rfl rfl (zat rfl rfl rfl) (za8 rfl ta37 ti37 rfl rfl rfl rfl rfl) (zaf rfl rfl (zat rfl rfl rfl) (za9 rfl ti37 tp37 rfl rfl) (zaf rfl rfl (zat rfl rfl rfl) (zw5 rfl (zn7 rfl rfl rfl te37 rfl rfl rfl)) (zac rfl (zac rfl (zac rfl (zaf rfl rfl (zat rfl rfl rfl) (zdc rfl (zbn rfl rfl rfl)) (zac rfl (zac rfl (zad (zai ?_)))))))))))
  (refine za7 ?_; repeat (first | refine zbc ?_ | refine zbe ?_))
  exact zb6 (.inr rfl) rfl rfl
 | true =>
  have hx : X = Y := hwe.trans (if_pos ⟨rfl, rfl⟩)
  subst hx
  have hrw2 := hrw rfl rfl
  have heq := z0i (P := P) X.1 X.1
  rw [decide_eq_true rfl] at heq
  refine zab (zcx ta24 ti24 rfl (zac rfl (zcx ta32 ti32 rfl (zaf rfl rfl (zaa rfl) (zam rfl rfl (hrv) (zae rfl (zae rfl (zae rfl zap)))) (zaf rfl rfl (zaa rfl) (zbj rfl rfl) (zac rfl (zcx ta27 ti27 rfl (zaf rfl rfl (zat rfl rfl rfl) (zam rfl rfl (hvc) (zae rfl zap)) (zaf rfl rfl (zat rfl rfl rfl) (zbj rfl rfl) (zac rfl (zad (zai (zau rfl (zar (zag (zab (zcx ta24 ti24 rfl (zac rfl (zcx ta27 ti27 rfl (zcx ta32 ti32 rfl (zaf rfl rfl (zaa rfl) (zam rfl rfl (hrw2) (zae rfl (zae rfl (zae rfl (zae rfl zap))))) ?_)))))))))))))))))))))
  refine zac rfl (zac rfl (zac rfl (zac rfl (zaf rfl rfl (zaa rfl) (za1 rfl ti37 rfl rfl) (zac rfl (zba rfl (zaa rfl) (zaj rfl ti37 rfl rfl rfl rfl rfl rfl (by decide) (by decide)) (zac rfl (zad (zag (zab (zac rfl (zac rfl (zaf rfl rfl (zaa rfl) (zam rfl rfl (heq) (zae rfl (zae rfl zap))) (zac rfl (zaf rfl rfl (zat rfl rfl rfl) (za8 rfl ta37 ti37 rfl rfl rfl rfl rfl) (zaf rfl rfl (zat rfl rfl rfl) (za8 rfl ta37 ti37 rfl rfl rfl rfl rfl) (zaf rfl rfl (zat rfl rfl rfl) (zw5 rfl (zn7 rfl rfl rfl te37 rfl rfl rfl)) ?_)))))))))))))))))
  refine zac rfl (zac rfl (zac rfl (zac rfl (zaf rfl rfl (zat rfl rfl rfl) (zdc rfl (zbn rfl rfl rfl)) (zac rfl (zac rfl (zad (zai ?_))))))))
  (refine za7 ?_; repeat (first | refine zbc ?_ | refine zbe ?_))
  exact zb6 (.inr rfl) rfl rfl
end Go.Proofs.YtjhdcgaiccnmeaaGreatDoor.Aw
end
