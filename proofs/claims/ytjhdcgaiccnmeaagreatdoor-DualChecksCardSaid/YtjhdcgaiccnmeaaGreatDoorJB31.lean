import Derived.Test.YtjhdcgaiccnmeaaGreatDoorJB10
import Derived.Test.YtjhdcgaiccnmeaaGreatDoorJB23
import Derived.Test.YtjhdcgaiccnmeaaGreatDoorJB25
set_option linter.unusedSimpArgs false
set_option linter.unusedVariables false
set_option linter.unusedSectionVars false
section
namespace Go.Proofs.YtjhdcgaiccnmeaaGreatDoor.Aw
open Go Go.RowKit Go.Proofs Go.Maps Go.WideMaps
variable {P : Program} [IsP P]
theorem zxb (l : List Int) (h : l.length ≤ 50) (hn : 1 ≤ l.length) : Pure P 92 [eL eI l] (eL eI l) := by
 have hnn : NonNil (eL eI l) := by
  cases l with
  | nil => simp at hn
  | cons a t => exact .sl _ _
 refine zcl (by rw [IsP.eq (P := P)]; exact Tryz.func92) rfl rfl rfl rfl rfl (zah (zan fun _ => .s _) zak) (zan fun _ => .s _) (by simp only [argF]; rfl) ?_
 refine zag (zab (zac rfl (zad (zag (zag (zab (zac rfl (zaf rfl rfl (zaa rfl) (zua rfl ts29 rfl hnn rfl (.inl ⟨rfl, rfl⟩)) (zad (zai (zau rfl (zar (zag (zab (zaf rfl rfl (zaa rfl) (zw2 rfl rfl ts29 ti3) (zac rfl ?_))))))))))))))))
 refine zaf rfl rfl (zaa rfl) (zp7 rfl ts29 ti3 rfl (by decide) rfl (.inl rfl) rfl (by first | exact .own _ _ _ rfl rfl _ (by first | rfl | simp) | exact .emp | exact .nil | exact .sl _ (by first | simp; done | intro e he; simp at he; obtain ⟨_, _, rfl⟩ := he; rfl)) (by first | omega | (simp; omega) | (unfold maxLen; simp; omega)) (by first | omega | (simp; omega) | (unfold maxLen; simp; omega))) ?_
 refine zac rfl (zad (zai ?_))
 (refine za7 ?_; repeat (first | refine zbc ?_ | refine zbe ?_))
 exact post1f (.inr rfl) rfl (.own _ _ _ _ _ rfl rfl (by simp))
end Go.Proofs.YtjhdcgaiccnmeaaGreatDoor.Aw
end
