import Derived.Test.YtohmldibkojkfaaGreatDoorJA16
import Derived.Test.YtohmldibkojkfaaGreatDoorJA20
import Derived.Test.YtohmldibkojkfaaGreatDoorJA9
set_option linter.unusedSimpArgs false
set_option linter.unusedVariables false
set_option linter.unusedSectionVars false
section
namespace Go.Proofs.YtohmldibkojkfaaGreatDoor.Aw
open Go.RowKit Go.Proofs
variable {P : Program} [IsP P]
theorem zuc (f : FuncId) (caps : List AV) (p : ByteArray → Bool) (l : List ByteArray) (hlo : ∀ a : ByteArray, Lo 0 (eS a)) (hlc : Lo 0 (.fn f caps)) (hf : ∀ a ∈ l, Pure P f ([eS a] ++ caps) (eB (p a))) :
  Pure P 62 [eL eS l, .fn f caps] (eI (zdx p l)) := by
 refine zcy (by rw [IsP.eq (P := P)]; exact Tryz.func62) rfl rfl rfl rfl rfl (zaj (zb9 hlo) (zaj hlc zbb)) (.s _) (by simp only [argF]; rfl) ?_
 refine zju (d := 0) rfl (fun hmx => ?_)
 unfold maxLen at hmx
 refine zaf (zab (zac rfl (zae (zaf (zaf (zab (zac rfl (zad rfl rfl (zaa rfl) (zak rfl ts44 rfl) (zac rfl (zae (zah (zaw ?_))))))))))))
 refine zcb (S := Nat) (fun k => [(0, eL eS l), (1, .fn f caps), (7, eI l.length), (8, eI k)]) (fun _ => []) (fun k => k ≤ l.length ∧ ∀ j a, j < k → l[j]? = some a → p a = false) (fun k => l.length - k) 0 (zbx _ ⟨rfl, rfl, rfl, rfl, trivial⟩) ⟨by omega, fun j a hj => by omega⟩ (fun k hk => ?_)
 refine zaf (zab (zad rfl rfl (zaa rfl) (zaz rfl rfl rfl) (zae (zaf ?_))))
 refine zhy rfl (fun h => ?_) (fun h => ?_)
 ·
  have hlt : k < l.length := by omega
  refine zaq (zaf (zaw (zaf (zab (zac rfl (zac rfl (zae (zaf ?_))))))))
  have hp := hf (gti l k) (gti_mem hlt)
  refine zab (zac rfl (zac rfl (zac rfl (zad rfl rfl (zaa rfl) (zap rfl ts44 ti9 rfl rfl rfl (zch (by omega)) rfl) (zbu ta9 rfl (zad rfl rfl (zaa rfl) (zai rfl rfl (hp) (zag rfl zam)) (zae (zah ?_))))))))
  refine zf2 rfl (fun h => ?_) (fun h => ?_)
  ·
   refine zaf (zab (zac rfl (zac rfl (zae (zah ?_)))))
   (refine zav ?_; repeat (first | refine za6 ?_ | refine za7 ?_))
   exact zbq (.inr rfl) rfl (congrArg eI (zdf (zbp hlt) h hk.2).symm)
  ·
   refine zaq (zb8 (zah (zab (zad rfl rfl (zaa rfl) (za9 rfl rfl rfl (IntWalk.i64_in _ (by omega))) (zac rfl (zae (zah ?_)))))))
   refine ⟨k + 1, ⟨by omega, fun j a hj ha => ?_⟩, by omega, zbx _ ⟨rfl, rfl, rfl, rfl, trivial⟩⟩
   by_cases e : j = k
   ·
    subst e
    rw [zbp hlt] at ha
    cases ha
    exact h
   ·
    exact hk.2 j a (by omega) ha
 ·
  (refine zcg ?_; repeat (first | refine zdn ?_ | refine zb7 ?_ | refine zbs rfl ?_ | refine zb8 ?_ | refine zah ?_ | refine zaf ?_ | refine zaq ?_ | refine zaw ?_))
  refine zab (zac rfl (zae (zah ?_)))
  (refine zav ?_; repeat (first | refine za6 ?_ | refine za7 ?_))
  exact zbq (.inr rfl) rfl (congrArg eI (zdv (fun j a hj ha => hk.2 j a (by omega) ha)).symm)
theorem zi2 (f : FuncId) (caps : List AV) (p : ByteArray → Bool) (l : List ByteArray) (hlo : ∀ a : ByteArray, Lo 0 (eS a)) (hlc : Lo 0 (.fn f caps)) (hf : ∀ a ∈ l, Pure P f ([eS a] ++ caps) (eB (p a))) :
  Pure P 31 [eL eS l, .fn f caps] (eB (l.any p)) := by
 refine zcy (by rw [IsP.eq (P := P)]; exact Tryz.func31) rfl rfl rfl rfl rfl (zaj (zb9 hlo) (zaj hlc zbb)) (.s _) (by simp only [argF]; rfl) ?_
 have hi := zuc f caps p l hlo hlc hf
 refine zaf (zab (zac rfl (zae (zaf (zab (zac rfl (zac rfl (zad rfl rfl (zaa rfl) (zai rfl rfl (hi) (zag rfl (zag rfl zam))) (zad rfl rfl (zaa rfl) (zcx rfl rfl rfl) (zac rfl (zae (zah ?_))))))))))))
 (refine zav ?_; repeat (first | refine za6 ?_ | refine za7 ?_))
 exact zbq (.inr rfl) rfl (congrArg eB (zdw p l))
end Go.Proofs.YtohmldibkojkfaaGreatDoor.Aw
end
