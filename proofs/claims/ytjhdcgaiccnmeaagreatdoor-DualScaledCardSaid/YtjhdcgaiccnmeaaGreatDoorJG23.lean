import Derived.Test.YtjhdcgaiccnmeaaGreatDoorJG15
import Derived.Test.YtjhdcgaiccnmeaaGreatDoorJG19
import Derived.Test.YtjhdcgaiccnmeaaGreatDoorJG9
set_option linter.unusedSimpArgs false
set_option linter.unusedVariables false
set_option linter.unusedSectionVars false
section
namespace Go.Proofs.YtjhdcgaiccnmeaaGreatDoor.Aw
open Go.RowKit Go.Proofs
variable {P : Program} [IsP P]
theorem indexFS_pf (f : FuncId) (caps : List AV) (p : ByteArray → Bool) (l : List ByteArray) (hlo : ∀ a : ByteArray, Lo 0 (eS a)) (hlc : Lo 0 (.fn f caps)) (hf : ∀ a ∈ l, Pure P f ([eS a] ++ caps) (eB (p a))) :
  Pure P 95 [eL eS l, .fn f caps] (eI (zc1 p l)) := by
 refine zbb (by rw [IsP.eq (P := P)]; exact Tryz.func95) rfl rfl rfl rfl rfl (zah (zaq hlo) (zah hlc zap)) (.s _) (by simp only [argF]; rfl) ?_
 refine aw_bdm (d := 0) rfl (fun hmx => ?_)
 unfold maxLen at hmx
 refine zaf (zae (zbe rfl (zaj (zaf (zaf (zae (zbe rfl (zab rfl rfl (zaa rfl) (za2 rfl ts25 rfl) (zbe rfl (zaj (zak (zac ?_))))))))))))
 refine zdc (S := Nat) (fun k => [(0, eL eS l), (1, .fn f caps), (7, eI l.length), (8, eI k)]) (fun _ => []) (fun k => k ≤ l.length ∧ ∀ j a, j < k → l[j]? = some a → p a = false) (fun k => l.length - k) 0 (zdk _ ⟨rfl, rfl, rfl, rfl, trivial⟩) ⟨by omega, fun j a hj => by omega⟩ (fun k hk => ?_)
 refine zaf (zae (zab rfl rfl (zaa rfl) (zb3 rfl rfl rfl) (zaj (zaf ?_))))
 refine aw_if rfl (fun h => ?_) (fun h => ?_)
 ·
  have hlt : k < l.length := by omega
  refine zad (zaf (zac (zaf (zae (zbe rfl (zbe rfl (zaj (zaf ?_))))))))
  have hp := hf (gti l k) (gti_mem hlt)
  refine zae (zbe rfl (zbe rfl (zbe rfl (zab rfl rfl (zaa rfl) (za1 rfl ts25 ti9 rfl rfl rfl (zcw (by omega)) rfl) (zbk ta9 rfl (zab rfl rfl (zaa rfl) (zav rfl rfl (hp) (zar rfl za0)) (zaj (zak ?_))))))))
  refine aw_cond rfl (fun h => ?_) (fun h => ?_)
  ·
   refine zaf (zae (zbe rfl (zbe rfl (zaj (zak ?_)))))
   (refine zbd ?_; repeat (first | refine zbn ?_ | refine zbo ?_))
   exact zcb (.inr rfl) rfl (congrArg eI (zcs (zbu hlt) h hk.2).symm)
  ·
   refine zad (zal (zak (zae (zab rfl rfl (zaa rfl) (zbj rfl rfl rfl (IntWalk.i64_in _ (by omega))) (zbe rfl (zaj (zak ?_)))))))
   refine ⟨k + 1, ⟨by omega, fun j a hj ha => ?_⟩, by omega, zdk _ ⟨rfl, rfl, rfl, rfl, trivial⟩⟩
   by_cases e : j = k
   ·
    subst e
    rw [zbu hlt] at ha
    cases ha
    exact h
   ·
    exact hk.2 j a (by omega) ha
 ·
  (refine zdd ?_; repeat (first | refine ath_x ?_ | refine zco ?_ | refine zce rfl ?_ | refine zal ?_ | refine zak ?_ | refine zaf ?_ | refine zad ?_ | refine zac ?_))
  refine zae (zbe rfl (zaj (zak ?_)))
  (refine zbd ?_; repeat (first | refine zbn ?_ | refine zbo ?_))
  exact zcb (.inr rfl) rfl (congrArg eI (zcz (fun j a hj ha => hk.2 j a (by omega) ha)).symm)
theorem containsFS_pf (f : FuncId) (caps : List AV) (p : ByteArray → Bool) (l : List ByteArray) (hlo : ∀ a : ByteArray, Lo 0 (eS a)) (hlc : Lo 0 (.fn f caps)) (hf : ∀ a ∈ l, Pure P f ([eS a] ++ caps) (eB (p a))) :
  Pure P 43 [eL eS l, .fn f caps] (eB (l.any p)) := by
 refine zbb (by rw [IsP.eq (P := P)]; exact Tryz.func43) rfl rfl rfl rfl rfl (zah (zaq hlo) (zah hlc zap)) (.s _) (by simp only [argF]; rfl) ?_
 have hi := indexFS_pf f caps p l hlo hlc hf
 refine zaf (zae (zbe rfl (zaj (zaf (zae (zbe rfl (zbe rfl (zab rfl rfl (zaa rfl) (zav rfl rfl (hi) (zar rfl (zar rfl za0))) (zab rfl rfl (zaa rfl) (does_geq rfl rfl rfl) (zbe rfl (zaj (zak ?_))))))))))))
 (refine zbd ?_; repeat (first | refine zbn ?_ | refine zbo ?_))
 exact zcb (.inr rfl) rfl (congrArg eB (zc0 p l))
end Go.Proofs.YtjhdcgaiccnmeaaGreatDoor.Aw
end
