import Derived.Test.YtohmldibkojkfaaGreatDoorJB17
import Derived.Test.YtohmldibkojkfaaGreatDoorJB21
import Derived.Test.YtohmldibkojkfaaGreatDoorJB9
set_option linter.unusedSimpArgs false
set_option linter.unusedVariables false
set_option linter.unusedSectionVars false
section
namespace Go.Proofs.YtohmldibkojkfaaGreatDoor.Aw
open Go.RowKit Go.Proofs
variable {P : Program} [IsP P]
theorem zu1 (f : FuncId) (caps : List AV) (p : ByteArray → Bool) (l : List ByteArray) (hlo : ∀ a : ByteArray, Lo 0 (eS a)) (hlc : Lo 0 (.fn f caps)) (hf : ∀ a ∈ l, Pure P f ([eS a] ++ caps) (eB (p a))) :
  Pure P 62 [eL eS l, .fn f caps] (eI (zds p l)) := by
 refine zcu (by rw [IsP.eq (P := P)]; exact Tryz.func62) rfl rfl rfl rfl rfl (zaj (za1 hlo) (zaj hlc zar)) (.s _) (by simp only [argF]; rfl) ?_
 refine zhn (d := 0) rfl (fun hmx => ?_)
 unfold maxLen at hmx
 refine zaf (zab (zac rfl (zae (zaf (zaf (zab (zac rfl (zad rfl rfl (zaa rfl) (zak rfl ts44 rfl) (zac rfl (zae (zah (zaq ?_))))))))))))
 refine zcd (S := Nat) (fun k => [(0, eL eS l), (1, .fn f caps), (7, eI l.length), (8, eI k)]) (fun _ => []) (fun k => k ≤ l.length ∧ ∀ j a, j < k → l[j]? = some a → p a = false) (fun k => l.length - k) 0 (zbx _ ⟨rfl, rfl, rfl, rfl, trivial⟩) ⟨by omega, fun j a hj => by omega⟩ (fun k hk => ?_)
 refine zaf (zab (zad rfl rfl (zaa rfl) (zaz rfl rfl rfl) (zae (zaf ?_))))
 refine zeg rfl (fun h => ?_) (fun h => ?_)
 ·
  have hlt : k < l.length := by omega
  refine zao (zaf (zaq (zaf (zab (zac rfl (zac rfl (zae (zaf ?_))))))))
  have hp := hf (gti l k) (gti_mem hlt)
  refine zab (zac rfl (zac rfl (zac rfl (zad rfl rfl (zaa rfl) (zan rfl ts44 ti9 rfl rfl rfl (zbz (by omega)) rfl) (zbl ta9 rfl (zad rfl rfl (zaa rfl) (zai rfl rfl (hp) (zag rfl zam)) (zae (zah ?_))))))))
  refine zep rfl (fun h => ?_) (fun h => ?_)
  ·
   refine zaf (zab (zac rfl (zac rfl (zae (zah ?_)))))
   (refine zav ?_; repeat (first | refine za6 ?_ | refine za7 ?_))
   exact zbj (.inr rfl) rfl (congrArg eI (zdq (zbn hlt) h hk.2).symm)
  ·
   refine zao (zb3 (zah (zab (zad rfl rfl (zaa rfl) (za4 rfl rfl rfl (IntWalk.i64_in _ (by omega))) (zac rfl (zae (zah ?_)))))))
   refine ⟨k + 1, ⟨by omega, fun j a hj ha => ?_⟩, by omega, zbx _ ⟨rfl, rfl, rfl, rfl, trivial⟩⟩
   by_cases e : j = k
   ·
    subst e
    rw [zbn hlt] at ha
    cases ha
    exact h
   ·
    exact hk.2 j a (by omega) ha
 ·
  (refine zb1 ?_; repeat (first | refine zcx ?_ | refine zbs ?_ | refine zbe rfl ?_ | refine zb3 ?_ | refine zah ?_ | refine zaf ?_ | refine zao ?_ | refine zaq ?_))
  refine zab (zac rfl (zae (zah ?_)))
  (refine zav ?_; repeat (first | refine za6 ?_ | refine za7 ?_))
  exact zbj (.inr rfl) rfl (congrArg eI (zd4 (fun j a hj ha => hk.2 j a (by omega) ha)).symm)
theorem zgx (f : FuncId) (caps : List AV) (p : ByteArray → Bool) (l : List ByteArray) (hlo : ∀ a : ByteArray, Lo 0 (eS a)) (hlc : Lo 0 (.fn f caps)) (hf : ∀ a ∈ l, Pure P f ([eS a] ++ caps) (eB (p a))) :
  Pure P 31 [eL eS l, .fn f caps] (eB (l.any p)) := by
 refine zcu (by rw [IsP.eq (P := P)]; exact Tryz.func31) rfl rfl rfl rfl rfl (zaj (za1 hlo) (zaj hlc zar)) (.s _) (by simp only [argF]; rfl) ?_
 have hi := zu1 f caps p l hlo hlc hf
 refine zaf (zab (zac rfl (zae (zaf (zab (zac rfl (zac rfl (zad rfl rfl (zaa rfl) (zai rfl rfl (hi) (zag rfl (zag rfl zam))) (zad rfl rfl (zaa rfl) (zcr rfl rfl rfl) (zac rfl (zae (zah ?_))))))))))))
 (refine zav ?_; repeat (first | refine za6 ?_ | refine za7 ?_))
 exact zbj (.inr rfl) rfl (congrArg eB (zd0 p l))
end Go.Proofs.YtohmldibkojkfaaGreatDoor.Aw
end
section
namespace Go.Proofs.YtohmldibkojkfaaGreatDoor.Aw
open Go.RowKit Go.Proofs
variable {P : Program} [IsP P]
theorem zyp {α : Type} [Inhabited α] {a b : List α} (hl : a.length = b.length) (h : ∀ j, j < a.length → gti a j = gti b j) : a = b := by
 apply List.ext_getElem? 
 intro j
 by_cases hj : j < a.length
 ·
  rw [zbn hj, zbn (by omega), h j hj]
 ·
  rw [List.getElem?_eq_none (by omega), List.getElem?_eq_none (by omega)]
theorem zmx (a b : List Int) : Pure P 87 [eL eI a, eL eI b] (eB (decide (a = b))) := by
 refine zcu (by rw [IsP.eq (P := P)]; exact Tryz.func87) rfl rfl rfl rfl rfl (by repeat' (first | exact Lo.s _ | exact zar | refine zaj ?_ ?_ | refine za1 ?_ | refine Lo.agg _ ?_ | refine Lo.sl _ ?_ | intro _)) (.s _) (by simp only [argF]; rfl) ?_
 refine zaf (zab (zac rfl (zae (zaf (zaf ?_)))))
 refine zhn (d := 0) rfl (fun ha => ?_)
 unfold maxLen at ha
 refine zab (zac rfl (zad rfl rfl (zaa rfl) (zak rfl ts48 rfl) (zac rfl (zad rfl rfl (zaa rfl) (zak rfl ts48 rfl) (zad rfl rfl (zaa rfl) (zbg rfl rfl rfl) (zae (zah ?_)))))))
 refine zeg rfl (fun h => ?_) (fun h => ?_)
 ·
  refine zaf (zab (zac rfl (zae (zah ?_))))
  (refine zav ?_; repeat (first | refine za6 ?_ | refine za7 ?_))
  refine zbj (.inr rfl) rfl (congrArg eB ?_)
  have : a ≠ b := fun e => by subst e; exact h rfl
  simp [this]
 ·
  refine zao (zaf (zaf (zab (zac rfl (zae (zah (zaq ?_)))))))
  have hl : a.length = b.length := by omega
  refine zcd (S := Nat) (fun k => [(0, eL eI a), (1, eL eI b), (5, eI k)]) (fun _ => []) (fun k => k ≤ a.length ∧ ∀ j, j < k → gti a j = gti b j) (fun k => a.length - k) 0 (zbx _ ⟨rfl, rfl, rfl, trivial⟩) ⟨by omega, fun j hj => by omega⟩ (fun k hk => ?_)
  refine zaf (zaf (zab (zac rfl (zac rfl (zad rfl rfl (zaa rfl) (zak rfl ts48 rfl) (zad rfl rfl (zaa rfl) (zaz rfl rfl rfl) (zae (zah ?_))))))))
  refine zeg rfl (fun h => ?_) (fun h => ?_)
  ·
   have hlt : k < a.length := by omega
   refine zao (zaf (zaq (zaf ?_)))
   refine zb6 hmix ?_
   refine zba (by kernel_rfl) ?_
   refine qx_s rfl (qx_s rfl (za9 rfl rfl (zaa rfl) (zan rfl ts48 ti3 rfl rfl rfl (zbz (by omega)) rfl) (qx_l ta3 rfl (qx_s rfl (qx_s rfl (za9 rfl rfl (zaa rfl) (zan rfl ts48 ti3 rfl rfl rfl (zbz (by omega)) rfl) (qx_l ta3 rfl (za9 rfl rfl (zaa rfl) (zbg rfl rfl rfl) ?_))))))))
   refine zcp ?_
   refine zah ?_
   refine zeg rfl (fun h => ?_) (fun h => ?_)
   ·
    refine zaf (zab (zac rfl (zae (zah ?_))))
    (refine zav ?_; repeat (first | refine za6 ?_ | refine za7 ?_))
    refine zbj (.inr rfl) rfl (congrArg eB ?_)
    have : a ≠ b := fun e => by subst e; exact h rfl
    simp [this]
   ·
    refine zao (zb3 (zah (zab (zac rfl (zad rfl rfl (zaa rfl) (za4 rfl rfl rfl (IntWalk.i64_in _ (by omega))) (zac rfl (zae (zah ?_))))))))
    refine ⟨k + 1, ⟨by omega, fun j hj => ?_⟩, by omega, zbx _ ⟨rfl, rfl, rfl, trivial⟩⟩
    by_cases e : j = k
    ·
     subst e; simpa using h
    ·
     exact hk.2 j (by omega)
  ·
   (refine zb1 ?_; repeat (first | refine zcx ?_ | refine zbs ?_ | refine zbe rfl ?_ | refine zb3 ?_ | refine zah ?_ | refine zaf ?_ | refine zao ?_ | refine zaq ?_))
   refine zab (zac rfl (zae (zah ?_)))
   (refine zav ?_; repeat (first | refine za6 ?_ | refine za7 ?_))
   refine zbj (.inr rfl) rfl (congrArg eB ?_)
   have : a = b := zyp hl (fun j hj => hk.2 j (by omega))
   simp [this]
end Go.Proofs.YtohmldibkojkfaaGreatDoor.Aw
end
