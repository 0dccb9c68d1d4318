import Derived.Test.YtjhdcgaiccnmeaaGreatDoorJB16
import Derived.Test.YtjhdcgaiccnmeaaGreatDoorJB20
import Derived.Test.YtjhdcgaiccnmeaaGreatDoorJB9
set_option linter.unusedSimpArgs false
set_option linter.unusedVariables false
set_option linter.unusedSectionVars false
section
namespace Go.Proofs.YtjhdcgaiccnmeaaGreatDoor.Aw
open Go.RowKit Go.Proofs
variable {P : Program} [IsP P]
theorem zt0 (f : FuncId) (caps : List AV) (p : ByteArray → Bool) (l : List ByteArray) (hlo : ∀ a : ByteArray, Lo 0 (eS a)) (hlc : Lo 0 (.fn f caps)) (hf : ∀ a ∈ l, Pure P f ([eS a] ++ caps) (eB (p a))) :
  Pure P 95 [eL eS l, .fn f caps] (eI (zc2 p l)) := by
 refine zcl (by rw [IsP.eq (P := P)]; exact Tryz.func95) rfl rfl rfl rfl rfl (zah (zan hlo) (zah hlc zak)) (.s _) (by simp only [argF]; rfl) ?_
 refine zda (d := 0) rfl (fun hmx => ?_)
 unfold maxLen at hmx
 refine zag (zab (zac rfl (zad (zag (zag (zab (zac rfl (zaf rfl rfl (zaa rfl) (zao rfl ts25 rfl) (zac rfl (zad (zai (zas ?_))))))))))))
 refine zb1 (S := Nat) (fun k => [(0, eL eS l), (1, .fn f caps), (7, eI l.length), (8, eI k)]) (fun _ => []) (fun k => k ≤ l.length ∧ ∀ j a, j < k → l[j]? = some a → p a = false) (fun k => l.length - k) 0 (zel _ ⟨rfl, rfl, rfl, rfl, trivial⟩) ⟨by omega, fun j a hj => by omega⟩ (fun k hk => ?_)
 refine zag (zab (zaf rfl rfl (zaa rfl) (za2 rfl rfl rfl) (zad (zag ?_))))
 refine zrl rfl (fun h => ?_) (fun h => ?_)
 ·
  have hlt : k < l.length := by omega
  refine zar (zag (zas (zag (zab (zac rfl (zac rfl (zad (zag ?_))))))))
  have hp := hf (gti l k) (gti_mem hlt)
  refine zab (zac rfl (zac rfl (zac rfl (zaf rfl rfl (zaa rfl) (zal rfl ts25 ti9 rfl rfl rfl (zbb (by omega)) rfl) (zbu ta9 rfl (zaf rfl rfl (zaa rfl) (zam rfl rfl (hp) (zae rfl zap)) (zad (zai ?_))))))))
  refine ziq rfl (fun h => ?_) (fun h => ?_)
  ·
   refine zag (zab (zac rfl (zac rfl (zad (zai ?_)))))
   (refine za7 ?_; repeat (first | refine zbc ?_ | refine zbe ?_))
   exact zb6 (.inr rfl) rfl (congrArg eI (zei (zdh hlt) h hk.2).symm)
  ·
   refine zar (zbl (zai (zab (zaf rfl rfl (zaa rfl) (zax rfl rfl rfl (IntWalk.i64_in _ (by omega))) (zac rfl (zad (zai ?_)))))))
   refine ⟨k + 1, ⟨by omega, fun j a hj ha => ?_⟩, by omega, zel _ ⟨rfl, rfl, rfl, rfl, trivial⟩⟩
   by_cases e : j = k
   ·
    subst e
    rw [zdh hlt] at ha
    cases ha
    exact h
   ·
    exact hk.2 j a (by omega) ha
 ·
  (refine zb9 ?_; repeat (first | refine zcr ?_ | refine zbt ?_ | refine zbk rfl ?_ | refine zbl ?_ | refine zai ?_ | refine zag ?_ | refine zar ?_ | refine zas ?_))
  refine zab (zac rfl (zad (zai ?_)))
  (refine za7 ?_; repeat (first | refine zbc ?_ | refine zbe ?_))
  exact zb6 (.inr rfl) rfl (congrArg eI (zeo (fun j a hj ha => hk.2 j a (by omega) ha)).symm)
theorem zoc (f : FuncId) (caps : List AV) (p : ByteArray → Bool) (l : List ByteArray) (hlo : ∀ a : ByteArray, Lo 0 (eS a)) (hlc : Lo 0 (.fn f caps)) (hf : ∀ a ∈ l, Pure P f ([eS a] ++ caps) (eB (p a))) :
  Pure P 43 [eL eS l, .fn f caps] (eB (l.any p)) := by
 refine zcl (by rw [IsP.eq (P := P)]; exact Tryz.func43) rfl rfl rfl rfl rfl (zah (zan hlo) (zah hlc zak)) (.s _) (by simp only [argF]; rfl) ?_
 have hi := zt0 f caps p l hlo hlc hf
 refine zag (zab (zac rfl (zad (zag (zab (zac rfl (zac rfl (zaf rfl rfl (zaa rfl) (zam rfl rfl (hi) (zae rfl (zae rfl zap))) (zaf rfl rfl (zaa rfl) (zcp rfl rfl rfl) (zac rfl (zad (zai ?_))))))))))))
 (refine za7 ?_; repeat (first | refine zbc ?_ | refine zbe ?_))
 exact zb6 (.inr rfl) rfl (congrArg eB (zeq p l))
end Go.Proofs.YtjhdcgaiccnmeaaGreatDoor.Aw
end
