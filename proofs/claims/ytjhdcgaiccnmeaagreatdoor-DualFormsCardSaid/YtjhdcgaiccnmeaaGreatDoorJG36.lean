import Derived.Test.YtjhdcgaiccnmeaaGreatDoorJG35
import Derived.Test.YtjhdcgaiccnmeaaGreatDoorJG15
set_option linter.unusedSimpArgs false
set_option linter.unusedVariables false
set_option linter.unusedSectionVars false
section
namespace Go.Proofs.YtjhdcgaiccnmeaaGreatDoor.Aw
open Go Go.RowKit Go.Proofs Go.Maps Go.WideMaps Dl
variable {P : Program} [IsP P]
set_option maxHeartbeats 1000000 in
theorem dualForms_pf (n : Net) (w : List ByteArray) (p : Prf) (s : List Int) : Pure P 6 [eN n, eL eS w, ePf p, eL eI s] (eB true) := by
 have haw := awake44 (P := P)
 have hsm := small_pf (P := P) n w
 have hfw := few_pf (P := P) p
 have hrv := rValid44_pf (P := P) n w p
 have hdv := dValid_pf (P := P) n w p
 have hdp := potential_pf (P := P) n w p s
 have hst := rIsState_pf (P := P) n w s
 have hrp : vdB n w p = true → zct n w s = true → Pure P 32 [eN n, eL eS w, ePf p, eL eI s] (eFE (potX n w p s)) := fun h1 h2 => rPotential_pf n w p s (vdB_iff.1 h1) h2
 have hpe : potE n w p s = if vdB n w p = true ∧ zct n w s = true then potX n w p s else ⟨0, 0, 1⟩ := rfl
 generalize smallB n w = b1 at hsm
 generalize fewB p = b2 at hfw
 generalize vdB n w p = v at hrv hdv hrp hpe
 generalize zct n w s = z at hst hrp hpe
 generalize potX n w p s = Y at hrp hpe
 generalize potE n w p s = X at hdp hpe
 have hln : Lo 0 (.ref (eN n).cells) := .ref _ (lo_N n).cells
 have hlp : Lo 0 (.ref (ePf p).cells) := lo_zero p
 refine zbb (by rw [IsP.eq (P := P)]; exact Tryz.func6) rfl rfl rfl rfl rfl (zah (lo_N n) (zah (lo_W w) (zah (lo_Pf p) (zah lo_I zap)))) (.s _) (by simp only [argF]; rfl) ?_
 refine zaf (zae (zab rfl rfl (zaa rfl) (zb1 rfl rfl rfl rfl) ?_))
 refine za5 (zbv (id := 0) rfl) (za5 (zcf (d := 4) rfl rfl rfl) ?_)
 refine zab rfl rfl (zaa rfl) (zb1 rfl rfl rfl rfl) ?_
 refine za5 (zbv (id := 1) rfl) (za5 (zcf (d := 6) rfl rfl rfl) ?_)
 refine zbe rfl (zaj (zaf (zaf ?_)))
 cases b1 with
 | false =>
  refine zae (zab rfl rfl (zaa rfl) (zav rfl rfl (haw) za0) (zab rfl rfl (zaa rfl) (zbh rfl rfl) (zbe rfl (zb2 ta24 ti24 rfl (zbe rfl (zab rfl rfl (zau rfl rfl rfl) (zav rfl rfl (hsm) (zar rfl (zar rfl za0))) (zab rfl rfl (zau rfl rfl rfl) (zbh rfl rfl) (zbe rfl (zbe rfl (zbf rfl (zbf rfl (zbf rfl (zbe rfl (zbe rfl (zbf rfl (zbf rfl (zbf rfl (zbe rfl (zaj (zak (zbl rfl (zaf (zae (zab rfl rfl (zaa rfl) (zav rfl rfl (haw) za0) (zbe rfl ?_)))))))))))))))))))))))))
  refine zaj (zak ?_)
  (refine zbd ?_; repeat (first | refine zbn ?_ | refine zbo ?_))
  exact zcb (.inr rfl) rfl rfl
 | true =>
 cases b2 with
 | false =>
  refine zae (zab rfl rfl (zaa rfl) (zav rfl rfl (haw) za0) (zab rfl rfl (zaa rfl) (zbh rfl rfl) (zbe rfl (zb2 ta24 ti24 rfl (zbe rfl (zab rfl rfl (zau rfl rfl rfl) (zav rfl rfl (hsm) (zar rfl (zar rfl za0))) (zab rfl rfl (zau rfl rfl rfl) (zbh rfl rfl) (zbe rfl (zbe rfl (zb2 ta32 ti32 rfl (zab rfl rfl (zau rfl rfl rfl) (zav rfl rfl (hfw) (zar rfl za0)) (zab rfl rfl (zau rfl rfl rfl) (zbh rfl rfl) (zbe rfl (zbe rfl (zbf rfl (zbf rfl (zbf rfl (zbe rfl (zaj ?_)))))))))))))))))))
  refine zak (zbl rfl (zaf (zae (zab rfl rfl (zaa rfl) (zav rfl rfl (haw) za0) (zbe rfl (zaj (zak ?_)))))))
  (refine zbd ?_; repeat (first | refine zbn ?_ | refine zbo ?_))
  exact zcb (.inr rfl) rfl rfl
 | true =>
 by_cases hsl : (s.length : Int) > 12
 ·
  refine zae (zab rfl rfl (zaa rfl) (zav rfl rfl (haw) za0) (zab rfl rfl (zaa rfl) (zbh rfl rfl) (zbe rfl (zb2 ta24 ti24 rfl (zbe rfl (zab rfl rfl (zau rfl rfl rfl) (zav rfl rfl (hsm) (zar rfl (zar rfl za0))) (zab rfl rfl (zau rfl rfl rfl) (zbh rfl rfl) (zbe rfl (zbe rfl (zb2 ta32 ti32 rfl (zab rfl rfl (zau rfl rfl rfl) (zav rfl rfl (hfw) (zar rfl za0)) (zab rfl rfl (zau rfl rfl rfl) (zbh rfl rfl) (zbe rfl (zbe rfl (zbe rfl (zab rfl rfl (zau rfl rfl rfl) (za2 rfl ts29 rfl) ?_))))))))))))))))
  refine zab rfl rfl (zau rfl rfl rfl) (zck hsl (zb6 rfl rfl rfl)) (zbe rfl (zaj (zak (zbl rfl (zaf (zae (zab rfl rfl (zaa rfl) (zav rfl rfl (haw) za0) (zbe rfl (zaj (zak ?_))))))))))
  (refine zbd ?_; repeat (first | refine zbn ?_ | refine zbo ?_))
  exact zcb (.inr rfl) rfl rfl
 refine zae (zab rfl rfl (zaa rfl) (zav rfl rfl (haw) za0) (zab rfl rfl (zaa rfl) (zbh rfl rfl) (zbe rfl (zb2 ta24 ti24 rfl (zbe rfl (zab rfl rfl (zau rfl rfl rfl) (zav rfl rfl (hsm) (zar rfl (zar rfl za0))) (zab rfl rfl (zau rfl rfl rfl) (zbh rfl rfl) (zbe rfl (zbe rfl (zb2 ta32 ti32 rfl (zab rfl rfl (zau rfl rfl rfl) (zav rfl rfl (hfw) (zar rfl za0)) (zab rfl rfl (zau rfl rfl rfl) (zbh rfl rfl) (zbe rfl (zbe rfl (zbe rfl (zab rfl rfl (zau rfl rfl rfl) (za2 rfl ts29 rfl) ?_))))))))))))))))
 refine zab rfl rfl (zau rfl rfl rfl) (zc7 hsl (zb6 rfl rfl rfl)) (zbe rfl (zaj (zak (za6 rfl (zad (zaf (zae (zb2 ta24 ti24 rfl (zbe rfl (zb2 ta32 ti32 rfl (zab rfl rfl (zaa rfl) (zav rfl rfl (hrv) (zar rfl (zar rfl (zar rfl za0)))) (zbe rfl (zaj (zaf (zae (zb2 ta24 ti24 rfl (zbe rfl (zb2 ta32 ti32 rfl (zbe rfl (zab rfl rfl (zaa rfl) (zav rfl rfl (hdp) (zar rfl (zar rfl (zar rfl (zar rfl za0))))) (zbe rfl (zbe rfl (zbe rfl (zab rfl rfl (zaa rfl) (zbi rfl ti56 rfl rfl) ?_))))))))))))))))))))))))
 refine zbx rfl (zaa rfl) (za7 rfl ti56 rfl rfl rfl rfl rfl rfl (by decide) (by decide)) (zbe rfl (zaj (zaf (zaf (zae (zb2 ta24 ti24 rfl (zbe rfl (zb2 ta32 ti32 rfl (zab rfl rfl (zaa rfl) (zav rfl rfl (hdv) (zar rfl (zar rfl (zar rfl za0)))) (zbe rfl ?_))))))))))
 refine zab rfl rfl (zaa rfl) (does_eq (congrArg eB (show (!(v == v)) = false by cases v <;> rfl)) (does_neqb (by rw [IsP.eq (P := P)]; kernel_rfl) rfl rfl rfl)) ?_
 refine zaj (zak (za6 rfl (zad (zaf (zaf ?_)))))
 cases v with
 | false =>
  have hx : X = ⟨0, 0, 1⟩ := hpe.trans (if_neg (fun h => absurd h.1 (by decide)))
  subst hx
  refine zae (zbe rfl (zab rfl rfl (zaa rfl) (zbh rfl rfl) (zbe rfl (zbf rfl (zbf rfl (zbf rfl (zbf rfl (zbf rfl (zbe rfl (zaj (zak (zbl rfl (zaf (zae (zab rfl rfl (zaa rfl) (za4 rfl ta56 ti56 rfl rfl rfl rfl rfl) (zab rfl rfl (zaa rfl) (zbp rfl ti56 tp56 rfl rfl) (zab rfl rfl (zaa rfl) (dec_ti rfl (does_eqa rfl rfl rfl te56 rfl rfl rfl)) (zbe rfl (zbe rfl (zab rfl rfl (zau rfl rfl rfl) (zck rfl (does_eql rfl rfl rfl)) (zbe rfl (zbe rfl (zaj (zak ?_))))))))))))))))))))))))
  (refine zbd ?_; repeat (first | refine zbn ?_ | refine zbo ?_))
  exact zcb (.inr rfl) rfl rfl
 | true =>
 cases z with
 | false =>
  have hx : X = ⟨0, 0, 1⟩ := hpe.trans (if_neg (fun h => absurd h.2 (by decide)))
  subst hx
  refine zae (zbe rfl (zab rfl rfl (zaa rfl) (zbh rfl rfl) (zbe rfl (zb2 ta24 ti24 rfl (zbe rfl (zbe rfl (zab rfl rfl (zau rfl rfl rfl) (zav rfl rfl (hst) (zar rfl (zar rfl (zar rfl za0)))) (zab rfl rfl (zau rfl rfl rfl) (zbh rfl rfl) (zbe rfl (zaj (zak (zbl rfl (zaf (zae (zab rfl rfl (zaa rfl) (za4 rfl ta56 ti56 rfl rfl rfl rfl rfl) (zab rfl rfl (zaa rfl) (zbp rfl ti56 tp56 rfl rfl) (zab rfl rfl (zaa rfl) (dec_ti rfl (does_eqa rfl rfl rfl te56 rfl rfl rfl)) ?_)))))))))))))))))
  refine zbe rfl (zbe rfl (zab rfl rfl (zau rfl rfl rfl) (zck rfl (does_eql rfl rfl rfl)) (zbe rfl (zbe rfl (zaj (zak ?_))))))
  (refine zbd ?_; repeat (first | refine zbn ?_ | refine zbo ?_))
  exact zcb (.inr rfl) rfl rfl
 | true =>
  have hx : X = Y := hpe.trans (if_pos ⟨rfl, rfl⟩)
  subst hx
  have hrp2 := hrp rfl rfl
  refine zae (zbe rfl (zab rfl rfl (zaa rfl) (zbh rfl rfl) (zbe rfl (zb2 ta24 ti24 rfl (zbe rfl (zbe rfl (zab rfl rfl (zau rfl rfl rfl) (zav rfl rfl (hst) (zar rfl (zar rfl (zar rfl za0)))) (zab rfl rfl (zau rfl rfl rfl) (zbh rfl rfl) (zbe rfl (zaj (zak (za6 rfl (zad (zaf (zae (zb2 ta24 ti24 rfl (zbe rfl (zb2 ta32 ti32 rfl (zbe rfl (zab rfl rfl (zaa rfl) (zav rfl rfl (hrp2) (zar rfl (zar rfl (zar rfl (zar rfl za0))))) (zbe rfl (zbe rfl ?_))))))))))))))))))))))
  refine zbe rfl (zab rfl rfl (zaa rfl) (zbi rfl ti56 rfl rfl) (zbx rfl (zaa rfl) (za7 rfl ti56 rfl rfl rfl rfl rfl rfl (by decide) (by decide)) (zbe rfl (zaj (zaf (zae (zab rfl rfl (zaa rfl) (za4 rfl ta56 ti56 rfl rfl rfl rfl rfl) (zab rfl rfl (zaa rfl) (za4 rfl ta56 ti56 rfl rfl rfl rfl rfl) (zab rfl rfl (zaa rfl) (dec_ti rfl (does_eqa rfl rfl rfl te56 rfl rfl rfl)) (zbe rfl (zbe rfl (zbe rfl (zab rfl rfl (zau rfl rfl rfl) (zck rfl (does_eql rfl rfl rfl)) (zbe rfl (zbe rfl ?_)))))))))))))))
  refine zaj (zak ?_)
  (refine zbd ?_; repeat (first | refine zbn ?_ | refine zbo ?_))
  exact zcb (.inr rfl) rfl rfl
end Go.Proofs.YtjhdcgaiccnmeaaGreatDoor.Aw
end
