import Derived.Test.YtohmldibkojkfaaGreatDoorJB40
import Derived.Test.YtohmldibkojkfaaGreatDoorJB1
import Derived.Test.YtohmldibkojkfaaGreatDoorJB41
import Derived.Test.YtohmldibkojkfaaGreatDoorJB15
import Derived.Test.YtohmldibkojkfaaGreatDoorJB27
import Derived.Test.YtohmldibkojkfaaGreatDoorJB19
set_option linter.unusedSimpArgs false
set_option linter.unusedVariables false
set_option linter.unusedSectionVars false
section
namespace Go.Proofs.YtohmldibkojkfaaGreatDoor.Aw
open Go Go.RowKit Go.Proofs Dl
variable {P : Program} [IsP P]
end Go.Proofs.YtohmldibkojkfaaGreatDoor.Aw
end
section
namespace Go.Proofs.YtohmldibkojkfaaGreatDoor.Aw
open Go Go.RowKit Go.Proofs Dl
variable {P : Program} [IsP P]
def frE (r : FE) : Fr := ⟨r.n, r.d⟩
end Go.Proofs.YtohmldibkojkfaaGreatDoor.Aw
end
section
namespace Go.Proofs.YtohmldibkojkfaaGreatDoor
theorem QF.init {n : Net} (w : List ByteArray) (hv : zca n = true) : QF n w [⟨0, oneL n.places.toNat n.source, []⟩] := by
 refine ⟨fun i hi => ?_⟩
 have : i = 0 := by simp at hi; omega
 subst this
 have h1 := one_mk hv n.source
 refine ⟨h1, ?_, ?_, ?_⟩ <;> simp [gti]
end Go.Proofs.YtohmldibkojkfaaGreatDoor
namespace Go.Proofs.YtohmldibkojkfaaGreatDoor.Aw
open Go Go.RowKit Go.Proofs
variable {P : Program} [IsP P]
theorem zv6 (n : Net) (np kp : Nat) (hnp : n.places = (np : Int)) (h40 : np ≤ 40) (hlt : kp < np) :
  Pure P 86 [eN n, eI kp] (eL eI (oneL np kp)) := by
 have hE : ((List.replicate np (eI 0)).set kp (eI 1)) = (oneL np kp).map eI := by unfold oneL; rw [List.map_set, List.map_replicate]; rfl
 have hel : (List.replicate np (AV.s (.int .i64 0)))[kp]? = some (AV.s (.int .i64 0)) := by rw [List.getElem?_replicate, if_pos hlt]
 refine zcu (by rw [IsP.eq (P := P)]; exact Tryz.func86) rfl rfl rfl rfl rfl (by repeat' (first | exact Lo.s _ | exact zar | refine zaj ?_ ?_ | refine za1 ?_ | refine Lo.agg _ ?_ | refine Lo.sl _ ?_ | intro _)) (za1 fun _ => .s _) (by simp only [argF]; rfl) ?_
 refine zaf (zab (zad rfl rfl (zaa rfl) (zbv rfl rfl rfl rfl) (zac rfl (zae (zaf (zab (zbh zkz rfl (zad rfl rfl (zaa rfl) (zap rfl ta3 rfl rfl rfl rfl rfl) (zad rfl rfl (zaa rfl) (zx2 rfl ts48 ti3 rfl rfl (by decide) rfl rfl hnp hnp (Nat.le_refl _) (by omega) (by omega)) (zac rfl (zae (zaf (zab (zac rfl (zac rfl (zad rfl rfl (zaa rfl) (za2 rfl ts48 ti3 rfl rfl rfl hlt) (zcg rfl (zaa rfl) (za8 rfl ti3 rfl rfl rfl hel rfl rfl (by decide) (by decide)) (zae ?_))))))))))))))))))
 refine zaf (zab (zac rfl (zac rfl ?_)))
 refine zau (zbk (id := 1) rfl) (zau (zkw (d := 4) rfl rfl (by first | rfl | (simp; done) | (simp; omega))) ?_)
 refine zae (zah ?_)
 (refine zav ?_; repeat (first | refine za6 ?_ | refine za7 ?_))
 exact zbj (.inr rfl) rfl (congrArg AV.sl hE)
theorem zwv (s : ByteArray) : Pure P 77 [eS s] (eB (!zem s)) := by
 have h := zp5 (P := P) s
 refine zcu (by rw [IsP.eq (P := P)]; exact Tryz.func77) rfl rfl rfl rfl rfl (zaj (.s _) zar) (.s _) (by simp only [argF]; rfl) ?_
 refine zaf (zab (zac rfl (zae (zaf (zab (zac rfl (zad rfl rfl (zaa rfl) (zai rfl rfl (h) (zag rfl zam)) (zad rfl rfl (zaa rfl) (zay rfl rfl) (zac rfl (zae (zah ?_)))))))))))
 (refine zav ?_; repeat (first | refine za6 ?_ | refine za7 ?_))
 exact zbj (.inr rfl) rfl rfl
theorem zy9 (l : List ByteArray) : Pure P 49 [eL eS l] (eB (allN l)) := by
 have hc := zgx (P := P) 77 [] (fun a => !zem a) l (fun _ => .s _) (.fn _ _ (by simp)) (fun a _ => zwv a)
 have e : (!(l.any fun a => !zem a)) = allN l := by rw [zov]; simp [List.all_eq_not_any_not]
 refine zcu (by rw [IsP.eq (P := P)]; exact Tryz.func49) rfl rfl rfl rfl rfl (zaj (za1 fun _ => .s _) zar) (.s _) (by simp only [argF]; rfl) ?_
 refine zaf (zab (zac rfl (zae (zaf (zab (zac rfl (zad rfl rfl (zaa rfl) (zai rfl rfl (hc) (zag rfl (zag rfl zam))) (zad rfl rfl (zaa rfl) (zay rfl rfl) (zac rfl (zae (zah ?_)))))))))))
 (refine zav ?_; repeat (first | refine za6 ?_ | refine za7 ?_))
 exact zbj (.inr rfl) rfl (congrArg eB e)
theorem key_pf (m : List Int) (hm : ∀ x ∈ m, 0 ≤ x ∧ x ≤ 255) (hl : m.length ≤ 1000) (hne : m ≠ []) : Pure P 54 [eL eI m] (eS ⟨(keyL m).toArray⟩) :=
 zey (zhb (zdb Tryz.func54 rfl rfl) (.s _) fun G vargs hst hsz hrep => by
  obtain ⟨x, rfl, h1⟩ := z3h hst hsz hrep
  refine (z2p m _ _ x G.w h1 hm hl hne).mono ?_
  rintro e w' ⟨rfl, hb⟩
  exact ⟨_, rfl, hb, .s _⟩)
end Go.Proofs.YtohmldibkojkfaaGreatDoor.Aw
end
