import Derived.Test.YtohmldibkojkfaaGreatDoorJA40
import Derived.Test.YtohmldibkojkfaaGreatDoorJA16
set_option linter.unusedSimpArgs false
set_option linter.unusedVariables false
set_option linter.unusedSectionVars false
section
namespace Go.Proofs.YtohmldibkojkfaaGreatDoor.Dl
open Go.RowKit
def exQ : Net := ⟨3, [⟨⟨#[97]⟩, [0], [1]⟩, ⟨⟨#[98]⟩, [1], [2]⟩], 0, 2⟩
def exQv : List Vr := [⟨[⟨#[97]⟩], 1⟩, ⟨[⟨#[97]⟩, ⟨#[98]⟩], 3⟩]
def exQc : Cst := ⟨1, 1, 0⟩
theorem z0u : Wf exQ := by
 have h0 : Rch exQ false 0 0 := .start
 have h1 : Rch exQ false 0 1 := .step (i := 0) (p := 0) (q := 1) (by decide) (by decide) h0 (by decide)
 have h2 : Rch exQ false 0 2 := .step (i := 1) (p := 1) (q := 2) (by decide) (by decide) h1 (by decide)
 have k2 : Rch exQ true 2 2 := .start
 have k1 : Rch exQ true 2 1 := .step (i := 1) (p := 2) (q := 1) (by decide) (by decide) k2 (by decide)
 have k0 : Rch exQ true 2 0 := .step (i := 0) (p := 1) (q := 0) (by decide) (by decide) k1 (by decide)
 refine ⟨by decide +kernel, by decide, ?_, ?_, ?_⟩
 ·
  intro i hi
  match i, hi with
  | 0, _ => exact ⟨by decide, by decide⟩
  | 1, _ => exact ⟨by decide, by decide⟩
  | i + 2, hi => exact absurd hi (by simp [exQ])
 ·
  intro back p hp
  match p, hp with
  | 0, _ => cases back; exact h0; exact k0
  | 1, _ => cases back; exact h1; exact k1
  | 2, _ => cases back; exact h2; exact k2
  | p + 3, hp => exact absurd hp (by simp [exQ])
 ·
  intro back i hi
  match i, hi with
  | 0, _ => cases back; exact ⟨0, by decide, h0⟩; exact ⟨1, by decide, k1⟩
  | 1, _ => cases back; exact ⟨1, by decide, h1⟩; exact ⟨2, by decide, k2⟩
  | i + 2, hi => exact absurd hi (by simp [exQ])
theorem exQ_go : zdk exQ exQc 50 exQv 0 0 = (1, 15, 0) := by kernel_rfl
theorem exQ_vv : vvB exQv = true := by kernel_rfl
end Go.Proofs.YtohmldibkojkfaaGreatDoor.Dl
namespace Go.Proofs.YtohmldibkojkfaaGreatDoor.Aw
open Go Go.RowKit Go.Proofs Dl
variable {P : Program} [IsP P]
theorem ex_mk : zej 14 15 = ⟨14, 15, 0⟩ := by kernel_rfl
theorem ex_mk2 : zej 5 9 = ⟨5, 9, 0⟩ := by kernel_rfl
theorem z2q : qFitE exQ exQv exQc 50 = ⟨14, 15, 0⟩ := by
 have h : qcoE exQ exQv exQc 50 = 0 := by
  unfold qcoE qgvE
  rw [zj2 z0u, exQ_vv, if_neg (by decide +kernel), if_neg (by decide), if_neg (by decide)]
 unfold qFitE
 rw [h, exQ_go, if_neg (by decide), if_neg (by decide), if_neg (by decide)]
 exact ex_mk
theorem z2p : simE exQ = ⟨5, 9, 0⟩ := by
 unfold simE
 rw [zj2 z0u, if_neg (by decide)]
 exact ex_mk2
theorem zx3 : Pure P 8 [] (eB true) := by
 have hF := zst (P := P) exQ exQv exQc 50
 rw [z2q] at hF
 have hS := zu4 (P := P) exQ
 rw [z2p] at hS
 refine zcy (by rw [IsP.eq (P := P)]; exact Tryz.func8) rfl rfl rfl rfl rfl (zbb) (.s _) (by simp only [argF]; rfl) ?_
 refine zaf (zab (zac rfl (zae (zaf (zab (zad rfl rfl (zaa rfl) (zhd rfl ts48 ti3 rfl rfl rfl rfl) (zad rfl rfl (zaa rfl) (zhd rfl ts48 ti3 rfl rfl rfl rfl) (zad rfl rfl (zaa rfl) (zbr rfl ti65 tp65 rfl rfl) (zad rfl rfl (zaa rfl) (zhd rfl ts48 ti3 rfl rfl rfl rfl) (zad rfl rfl (zaa rfl) (zhd rfl ts48 ti3 rfl rfl rfl rfl) (zad rfl rfl (zaa rfl) (zbr rfl ti65 tp65 rfl rfl) (zad rfl rfl (zaa rfl) (zix rfl ts22 ti65 rfl rfl (by decide) (by decide) (by decide) rfl rfl) (zad rfl rfl (zaa rfl) (zbr rfl ti24 tp24 rfl rfl) ?_)))))))))))))
 refine zad rfl rfl (zaa rfl) (zbw rfl ti24 rfl rfl) (zbz rfl (zaa rfl) (za0 rfl ti24 rfl rfl rfl rfl rfl rfl (by decide) (by decide)) (zae (zaf ?_)))
 refine zbv (zbl (id := 0) rfl) ?_
 refine zbv (zb3 (d := 1) rfl rfl rfl) ?_
 refine zbv (F' := [(1, .ref (eN exQ).cells)]) (σ' := []) (zed [] (by decide) trivial ⟨.lo _ (.ref _ (lo_N exQ).cells), trivial⟩) ?_
 refine zab (zad rfl rfl (zaa rfl) (zhd rfl ts44 ti9 rfl rfl rfl rfl) (zad rfl rfl (zaa rfl) (zbr rfl ti46 tp46 rfl rfl) (zad rfl rfl (zaa rfl) (zix rfl ts44 ti9 rfl rfl (by decide) (by decide) (by decide) rfl rfl) (zad rfl rfl (zaa rfl) (zbr rfl ti46 tp46 rfl rfl) (zad rfl rfl (zaa rfl) (zix rfl ts25 ti46 rfl rfl (by decide) (by decide) (by decide) rfl rfl) (zac rfl (zae (zaf ?_))))))))
 refine zbv (F' := [(1, .ref (eN exQ).cells), (2, eL eVr exQv)]) (σ' := []) (zed [] (by decide) trivial ⟨.lo _ (.ref _ (lo_N exQ).cells), .lo _ (show Lo 0 (eL eVr exQv) from zfz exQv), trivial⟩) ?_
 refine zab (zbc ta24 ti24 rfl (zac rfl (zad rfl rfl (zaa rfl) (zbr rfl ti27 tp27 rfl rfl) (zad rfl rfl (zaa rfl) (zai rfl rfl (hF) (zag rfl (zag rfl (zag rfl (zag rfl zam))))) (zac rfl (zac rfl (zac rfl (zad rfl rfl (zaa rfl) (zbw rfl ti32 rfl rfl) (zbz rfl (zaa rfl) (za0 rfl ti32 rfl rfl rfl rfl rfl rfl (by decide) (by decide)) (zac rfl (zae (zaf ?_))))))))))))
 refine zbv (zbl (id := 0) rfl) ?_
 refine zbv (zb3 (d := 3) rfl rfl rfl) ?_
 refine zbv (F' := [(1, .ref (eN exQ).cells), (3, .ref (eF ⟨14, 15⟩).cells), (4, eI 0)]) (σ' := []) (zed [] (by decide) trivial ⟨.lo _ (.ref _ (lo_N exQ).cells), .lo _ (show Lo 0 (.ref (eF ⟨14, 15⟩).cells) from .ref _ (zaj (.s _) (zaj (.s _) zbb))), .lo _ (.s _), trivial⟩) ?_
 refine zab (zbc ta24 ti24 rfl (zad rfl rfl (zaa rfl) (zai rfl rfl (hS) (zag rfl zam)) (zac rfl (zac rfl (zac rfl (zad rfl rfl (zaa rfl) (zbw rfl ti32 rfl rfl) (zbz rfl (zaa rfl) (za0 rfl ti32 rfl rfl rfl rfl rfl rfl (by decide) (by decide)) (zac rfl (zae (zaf ?_))))))))))
 refine zbv (zbl (id := 0) rfl) ?_
 refine zbv (zb3 (d := 5) rfl rfl rfl) ?_
 refine zbv (F' := [(3, .ref (eF ⟨14, 15⟩).cells), (4, eI 0), (5, .ref (eF ⟨5, 9⟩).cells), (6, eI 0)]) (σ' := []) (zed [] (by decide) trivial ⟨.lo _ (show Lo 0 (.ref (eF ⟨14, 15⟩).cells) from .ref _ (zaj (.s _) (zaj (.s _) zbb))), .lo _ (.s _), .lo _ (show Lo 0 (.ref (eF ⟨5, 9⟩).cells) from .ref _ (zaj (.s _) (zaj (.s _) zbb))), .lo _ (.s _), trivial⟩) ?_
 refine zab (zac rfl (zad rfl rfl (zaa rfl) (zb5 rfl rfl rfl) (zac rfl (zbc ta32 ti32 rfl (zad rfl rfl (zan rfl rfl rfl) (zbr rfl ti32 tp32 rfl rfl) ?_)))))
 refine zad rfl rfl (zan rfl rfl rfl) (zxu (by rfl) (zn3 rfl rfl rfl te32 rfl rfl rfl)) ?_
 refine zac rfl (zac rfl (zac rfl (zad rfl rfl (zan rfl rfl rfl) (zb5 rfl rfl rfl) (zac rfl (zac rfl (zbc ta32 ti32 rfl (zad rfl rfl (zan rfl rfl rfl) (zbr rfl ti32 tp32 rfl rfl) ?_)))))))
 refine zad rfl rfl (zan rfl rfl rfl) (zxu (by rfl) (zn3 rfl rfl rfl te32 rfl rfl rfl)) ?_
 refine zac rfl (zac rfl (zae (zah ?_)))
 (refine zav ?_; repeat (first | refine za6 ?_ | refine za7 ?_))
 exact zbq (.inr rfl) rfl rfl
def bigS (s : ByteArray) : Bool := decide (100 < s.size)
theorem zwv (s : ByteArray) : Pure P 28 [eS s] (eB (bigS s)) := by
 refine zcy (by rw [IsP.eq (P := P)]; exact Tryz.func28) rfl rfl rfl rfl rfl (zaj (.s _) zbb) (.s _) (by simp only [argF]; rfl) ?_
 refine zaf (zab (zac rfl (zae (zaf (zab (zac rfl (zad rfl rfl (zaa rfl) (zpv rfl tg9 rfl) (zad rfl rfl (zaa rfl) (za4 rfl rfl rfl) (zac rfl (zae (zah ?_)))))))))))
 (refine zav ?_; repeat (first | refine za6 ?_ | refine za7 ?_))
 exact zbq (.inr rfl) rfl (congrArg eB (decide_eq_decide.2 (by omega)))
theorem zub (f : FuncId) (caps : List AV) (p : Tr → Bool) (l : List Tr) (hlo : ∀ a : Tr, Lo 0 (eT a)) (hlc : Lo 0 (.fn f caps)) (hf : ∀ a ∈ l, Pure P f ([eT a] ++ caps) (eB (p a))) :
  Pure P 60 [eL eT l, .fn f caps] (eI (zdx p l)) := by
 refine zcy (by rw [IsP.eq (P := P)]; exact Tryz.func60) rfl rfl rfl rfl rfl (zaj (zb9 hlo) (zaj hlc zbb)) (.s _) (by simp only [argF]; rfl) ?_
 refine zju (d := 0) rfl (fun hmx => ?_)
 unfold maxLen at hmx
 refine zaf (zab (zac rfl (zae (zaf (zaf (zab (zac rfl (zad rfl rfl (zaa rfl) (zak rfl ts22 rfl) (zac rfl (zae (zah (zaw ?_))))))))))))
 refine zcb (S := Nat) (fun k => [(0, eL eT l), (1, .fn f caps), (7, eI l.length), (8, eI k)]) (fun _ => []) (fun k => k ≤ l.length ∧ ∀ j a, j < k → l[j]? = some a → p a = false) (fun k => l.length - k) 0 (zbx _ ⟨rfl, rfl, rfl, rfl, trivial⟩) ⟨by omega, fun j a hj => by omega⟩ (fun k hk => ?_)
 refine zaf (zab (zad rfl rfl (zaa rfl) (zaz rfl rfl rfl) (zae (zaf ?_))))
 refine zhy rfl (fun h => ?_) (fun h => ?_)
 ·
  have hlt : k < l.length := by omega
  refine zaq (zaf (zaw (zaf (zab (zac rfl (zac rfl (zae (zaf ?_))))))))
  have hp := hf (gti l k) (gti_mem hlt)
  refine zab (zac rfl (zac rfl (zac rfl (zad rfl rfl (zaa rfl) (zap rfl ts22 ti65 rfl rfl rfl (zch (by omega)) rfl) (zbc ta65 ti65 rfl (zad rfl rfl (zaa rfl) (zai rfl rfl (hp) (zag rfl zam)) (zae (zah ?_))))))))
  refine zf2 rfl (fun h => ?_) (fun h => ?_)
  ·
   refine zaf (zab (zac rfl (zac rfl (zae (zah ?_)))))
   (refine zav ?_; repeat (first | refine za6 ?_ | refine za7 ?_))
   exact zbq (.inr rfl) rfl (congrArg eI (zdf (zbp hlt) h hk.2).symm)
  ·
   refine zaq (zb8 (zah (zab (zad rfl rfl (zaa rfl) (za9 rfl rfl rfl (IntWalk.i64_in _ (by omega))) (zac rfl (zae (zah ?_)))))))
   refine ⟨k + 1, ⟨by omega, fun j a hj ha => ?_⟩, by omega, zbx _ ⟨rfl, rfl, rfl, rfl, trivial⟩⟩
   by_cases e : j = k
   ·
    subst e
    rw [zbp hlt] at ha
    cases ha
    exact h
   ·
    exact hk.2 j a (by omega) ha
 ·
  (refine zcg ?_; repeat (first | refine zdn ?_ | refine zb7 ?_ | refine zbs rfl ?_ | refine zb8 ?_ | refine zah ?_ | refine zaf ?_ | refine zaq ?_ | refine zaw ?_))
  refine zab (zac rfl (zae (zah ?_)))
  (refine zav ?_; repeat (first | refine za6 ?_ | refine za7 ?_))
  exact zbq (.inr rfl) rfl (congrArg eI (zdv (fun j a hj ha => hk.2 j a (by omega) ha)).symm)
theorem zn7 (f : FuncId) (caps : List AV) (p : Tr → Bool) (l : List Tr) (hlo : ∀ a : Tr, Lo 0 (eT a)) (hlc : Lo 0 (.fn f caps)) (hf : ∀ a ∈ l, Pure P f ([eT a] ++ caps) (eB (p a))) :
  Pure P 26 [eL eT l, .fn f caps] (eB (l.any p)) := by
 refine zcy (by rw [IsP.eq (P := P)]; exact Tryz.func26) rfl rfl rfl rfl rfl (zaj (zb9 hlo) (zaj hlc zbb)) (.s _) (by simp only [argF]; rfl) ?_
 have hi := zub f caps p l hlo hlc hf
 refine zaf (zab (zac rfl (zae (zaf (zab (zac rfl (zac rfl (zad rfl rfl (zaa rfl) (zai rfl rfl (hi) (zag rfl (zag rfl zam))) (zad rfl rfl (zaa rfl) (zcx rfl rfl rfl) (zac rfl (zae (zah ?_))))))))))))
 (refine zav ?_; repeat (first | refine za6 ?_ | refine za7 ?_))
 exact zbq (.inr rfl) rfl (congrArg eB (zdw p l))
theorem zq2 (f : FuncId) (caps : List AV) (p : Vr → Bool) (l : List Vr) (hlo : ∀ a : Vr, Lo 0 (eVr a)) (hlc : Lo 0 (.fn f caps)) (hf : ∀ a ∈ l, Pure P f ([eVr a] ++ caps) (eB (p a))) :
  Pure P 61 [eL eVr l, .fn f caps] (eI (zdx p l)) := by
 refine zcy (by rw [IsP.eq (P := P)]; exact Tryz.func61) rfl rfl rfl rfl rfl (zaj (zb9 hlo) (zaj hlc zbb)) (.s _) (by simp only [argF]; rfl) ?_
 refine zju (d := 0) rfl (fun hmx => ?_)
 unfold maxLen at hmx
 refine zaf (zab (zac rfl (zae (zaf (zaf (zab (zac rfl (zad rfl rfl (zaa rfl) (zak rfl ts25 rfl) (zac rfl (zae (zah (zaw ?_))))))))))))
 refine zcb (S := Nat) (fun k => [(0, eL eVr l), (1, .fn f caps), (7, eI l.length), (8, eI k)]) (fun _ => []) (fun k => k ≤ l.length ∧ ∀ j a, j < k → l[j]? = some a → p a = false) (fun k => l.length - k) 0 (zbx _ ⟨rfl, rfl, rfl, rfl, trivial⟩) ⟨by omega, fun j a hj => by omega⟩ (fun k hk => ?_)
 refine zaf (zab (zad rfl rfl (zaa rfl) (zaz rfl rfl rfl) (zae (zaf ?_))))
 refine zhy rfl (fun h => ?_) (fun h => ?_)
 ·
  have hlt : k < l.length := by omega
  refine zaq (zaf (zaw (zaf (zab (zac rfl (zac rfl (zae (zaf ?_))))))))
  have hp := hf (gti l k) (gti_mem hlt)
  refine zab (zac rfl (zac rfl (zac rfl (zad rfl rfl (zaa rfl) (zap rfl ts25 ti46 rfl rfl rfl (zch (by omega)) rfl) (zbc ta46 ti46 rfl (zad rfl rfl (zaa rfl) (zai rfl rfl (hp) (zag rfl zam)) (zae (zah ?_))))))))
  refine zf2 rfl (fun h => ?_) (fun h => ?_)
  ·
   refine zaf (zab (zac rfl (zac rfl (zae (zah ?_)))))
   (refine zav ?_; repeat (first | refine za6 ?_ | refine za7 ?_))
   exact zbq (.inr rfl) rfl (congrArg eI (zdf (zbp hlt) h hk.2).symm)
  ·
   refine zaq (zb8 (zah (zab (zad rfl rfl (zaa rfl) (za9 rfl rfl rfl (IntWalk.i64_in _ (by omega))) (zac rfl (zae (zah ?_)))))))
   refine ⟨k + 1, ⟨by omega, fun j a hj ha => ?_⟩, by omega, zbx _ ⟨rfl, rfl, rfl, rfl, trivial⟩⟩
   by_cases e : j = k
   ·
    subst e
    rw [zbp hlt] at ha
    cases ha
    exact h
   ·
    exact hk.2 j a (by omega) ha
 ·
  (refine zcg ?_; repeat (first | refine zdn ?_ | refine zb7 ?_ | refine zbs rfl ?_ | refine zb8 ?_ | refine zah ?_ | refine zaf ?_ | refine zaq ?_ | refine zaw ?_))
  refine zab (zac rfl (zae (zah ?_)))
  (refine zav ?_; repeat (first | refine za6 ?_ | refine za7 ?_))
  exact zbq (.inr rfl) rfl (congrArg eI (zdv (fun j a hj ha => hk.2 j a (by omega) ha)).symm)
theorem zl5 (f : FuncId) (caps : List AV) (p : Vr → Bool) (l : List Vr) (hlo : ∀ a : Vr, Lo 0 (eVr a)) (hlc : Lo 0 (.fn f caps)) (hf : ∀ a ∈ l, Pure P f ([eVr a] ++ caps) (eB (p a))) :
  Pure P 29 [eL eVr l, .fn f caps] (eB (l.any p)) := by
 refine zcy (by rw [IsP.eq (P := P)]; exact Tryz.func29) rfl rfl rfl rfl rfl (zaj (zb9 hlo) (zaj hlc zbb)) (.s _) (by simp only [argF]; rfl) ?_
 have hi := zq2 f caps p l hlo hlc hf
 refine zaf (zab (zac rfl (zae (zaf (zab (zac rfl (zac rfl (zad rfl rfl (zaa rfl) (zai rfl rfl (hi) (zag rfl (zag rfl zam))) (zad rfl rfl (zaa rfl) (zcx rfl rfl rfl) (zac rfl (zae (zah ?_))))))))))))
 (refine zav ?_; repeat (first | refine za6 ?_ | refine za7 ?_))
 exact zbq (.inr rfl) rfl (congrArg eB (zdw p l))
def bigQ (t : Tr) : Bool := if 50 < t.inn.length ∨ 50 < t.out.length then true else bigS t.label
theorem z27 (t : Tr) : Pure P 27 [eT t] (eB (bigQ t)) := by
 have hl := zwv (P := P) t.label
 have hR : bigQ t = if 50 < t.inn.length ∨ 50 < t.out.length then true else bigS t.label := rfl
 generalize bigQ t = R at hR ⊢
 generalize bigS t.label = b at hl hR
 refine zcy (by rw [IsP.eq (P := P)]; exact Tryz.func27) rfl rfl rfl rfl rfl (zaj (lo_T t) zbb) (.s _) (by simp only [argF]; rfl) ?_
 refine zaf (zab (zad rfl rfl (zaa rfl) (zbg rfl rfl rfl rfl) ?_))
 refine zar (zbl (id := 0) rfl) (zar (zb3 (d := 1) rfl rfl rfl) ?_)
 refine zac rfl (zae (zaf ?_))
 by_cases h1 : (t.inn.length : Int) > 50
 ·
  refine zab (zbm zfr rfl (zbu ta48 rfl (zad rfl rfl (zaa rfl) (zak rfl ts48 rfl) (zad rfl rfl (zaa rfl) (zbn h1 (za4 rfl rfl rfl)) (zac rfl (za3 rfl (za3 rfl (za3 rfl (za3 rfl (zac rfl (zac rfl (za3 rfl (za3 rfl (za3 rfl (zac rfl (zac rfl (zae (zah ?_))))))))))))))))))
  (refine zav ?_; repeat (first | refine za6 ?_ | refine za7 ?_))
  exact zbq (.inr rfl) rfl (congrArg eB (hR.trans (if_pos (by omega))).symm)
 by_cases h2 : (t.out.length : Int) > 50
 ·
  refine zab (zbm zfr rfl (zbu ta48 rfl (zad rfl rfl (zaa rfl) (zak rfl ts48 rfl) (zad rfl rfl (zaa rfl) (zbj h1 (za4 rfl rfl rfl)) (zac rfl (zbm zfj rfl (zbu ta48 rfl (zad rfl rfl (zan rfl rfl rfl) (zak rfl ts48 rfl) (zad rfl rfl (zan rfl rfl rfl) (zbn h2 (za4 rfl rfl rfl)) (zac rfl (zac rfl (za3 rfl (za3 rfl (za3 rfl (zac rfl (zac rfl (zae (zah ?_))))))))))))))))))
  (refine zav ?_; repeat (first | refine za6 ?_ | refine za7 ?_))
  exact zbq (.inr rfl) rfl (congrArg eB (hR.trans (if_pos (by omega))).symm)
 ·
  refine zab (zbm zfr rfl (zbu ta48 rfl (zad rfl rfl (zaa rfl) (zak rfl ts48 rfl) (zad rfl rfl (zaa rfl) (zbj h1 (za4 rfl rfl rfl)) (zac rfl (zbm zfj rfl (zbu ta48 rfl (zad rfl rfl (zan rfl rfl rfl) (zak rfl ts48 rfl) (zad rfl rfl (zan rfl rfl rfl) (zbj h2 (za4 rfl rfl rfl)) (zac rfl (zac rfl (zbm zz9 rfl (zbu ta9 rfl (zad rfl rfl (zan rfl rfl rfl) (zai rfl rfl (hl) (zag rfl zam)) (zac rfl (zac rfl (zae (zah ?_))))))))))))))))))
  (refine zav ?_; repeat (first | refine za6 ?_ | refine za7 ?_))
  exact zbq (.inr rfl) rfl (congrArg eB (hR.trans (if_neg (by omega))).symm)
def zmx (n : Net) : Bool := if (9 < n.trans.length ∧ n.trans.length ≤ 60) ∨ 100 < n.trans.length ∨ (9 < n.places ∧ n.places ≤ 40) then true else n.trans.any bigQ
theorem znu (n : Net) : Pure P 9 [eN n] (eB (zmx n)) := by
 have hT := zn7 (P := P) 27 [] bigQ n.trans (fun a => lo_T a) (.fn _ _ zbb) (fun a _ => z27 a)
 have hR : zmx n = if (9 < n.trans.length ∧ n.trans.length ≤ 60) ∨ 100 < n.trans.length ∨ (9 < n.places ∧ n.places ≤ 40) then true else n.trans.any bigQ := rfl
 generalize zmx n = R at hR ⊢
 generalize n.trans.any bigQ = b at hT hR
 have hln : Lo 0 (.ref (eN n).cells) := .ref _ (lo_N n).cells
 refine zcy (by rw [IsP.eq (P := P)]; exact Tryz.func9) rfl rfl rfl rfl rfl (zaj (lo_N n) zbb) (.s _) (by simp only [argF]; rfl) ?_
 refine zaf (zab (zad rfl rfl (zaa rfl) (zbg rfl rfl rfl rfl) ?_))
 refine zar (zbl (id := 0) rfl) (zar (zb3 (d := 1) rfl rfl rfl) ?_)
 refine zac rfl (zae (zaf (zaf (zab (zbm zd0 rfl (zbu ta22 rfl (zad rfl rfl (zaa rfl) (zak rfl ts22 rfl) ?_)))))))
 refine zet rfl rfl (zaa rfl) (za4 rfl rfl rfl) (fun h6 => ?_) (fun h6 => ?_)
 all_goals refine zac rfl ?_
 all_goals (first | refine zbm zd0 rfl ?_ | refine za3 rfl ?_)
 all_goals (first | refine zbu ta22 rfl ?_ | refine za3 rfl ?_)
 all_goals (first | refine zad rfl rfl (zan rfl rfl rfl) (zak rfl ts22 rfl) ?_ | refine za3 rfl ?_)
 all_goals (first | refine zet rfl rfl (zan rfl rfl rfl) (ziy rfl rfl rfl) (fun h11 => ?_) (fun h11 => ?_) | refine za3 rfl ?_)
 all_goals refine zac rfl (zac rfl ?_)
 all_goals (first | refine zbm zd0 rfl ?_ | refine za3 rfl ?_)
 all_goals (first | refine zbu ta22 rfl ?_ | refine za3 rfl ?_)
 all_goals (first | refine zad rfl rfl (zan rfl rfl rfl) (zak rfl ts22 rfl) ?_ | refine za3 rfl ?_)
 all_goals (first | refine zet rfl rfl (zan rfl rfl rfl) (za4 rfl rfl rfl) (fun h17 => ?_) (fun h17 => ?_) | refine za3 rfl ?_)
 all_goals refine zac rfl (zac rfl ?_)
 all_goals (first | refine zbm zmb rfl ?_ | refine za3 rfl ?_)
 all_goals (first | refine zbu ta3 rfl ?_ | refine za3 rfl ?_)
 all_goals (first | refine zet rfl rfl (zan rfl rfl rfl) (za4 rfl rfl rfl) (fun h22 => ?_) (fun h22 => ?_) | refine za3 rfl ?_)
 all_goals (first | refine zac rfl ?_ | refine za3 rfl ?_)
 all_goals (first | refine zbm zmb rfl ?_ | refine za3 rfl ?_ | refine zj8 rfl rfl (zbd rfl rfl rfl) ?_)
 all_goals (first | refine zbu ta3 rfl ?_ | refine za3 rfl ?_ | refine zj8 rfl rfl (zbd rfl rfl rfl) ?_)
 all_goals (first | refine zet rfl rfl (zan rfl rfl rfl) (ziy rfl rfl rfl) (fun h26 => ?_) (fun h26 => ?_) | refine za3 rfl ?_ | refine zj8 rfl rfl (zbd rfl rfl rfl) ?_)
 all_goals (first | refine zac rfl ?_ | refine za3 rfl ?_)
 all_goals refine zac rfl (zae (zah ?_))
 all_goals (first | refine zax rfl ?_ | refine zat rfl ?_)
 all_goals (repeat (first | refine zaf ?_ | refine zaq ?_))
 all_goals first
  |
   refine zab (zac rfl (zae (zah ?_)))
   (refine zav ?_; repeat (first | refine za6 ?_ | refine za7 ?_))
   exact zbq (.inr rfl) rfl (congrArg eB (hR.trans (if_pos (by omega))).symm)
  | skip
 all_goals (have hR2 := hR.trans (if_neg (by omega)); subst hR2)
 all_goals refine zab (zbm zd0 rfl (zbu ta22 rfl (zad rfl rfl (zaa rfl) (zai rfl rfl (hT) (zag rfl (zag rfl zam))) (zac rfl (zae (zah (zav ?_)))))))
 all_goals exact zbq (.inr rfl) rfl rfl
def bigV (v : Vr) : Bool := if 8 < v.acts.length then true else v.acts.any bigS
theorem z26 (v : Vr) : Pure P 30 [eVr v] (eB (bigV v)) := by
 have hl := zi2 (P := P) 28 [] bigS v.acts (fun a => .s _) (.fn _ _ zbb) (fun a _ => zwv a)
 have hR : bigV v = if 8 < v.acts.length then true else v.acts.any bigS := rfl
 generalize bigV v = R at hR ⊢
 generalize v.acts.any bigS = b at hl hR
 refine zcy (by rw [IsP.eq (P := P)]; exact Tryz.func30) rfl rfl rfl rfl rfl (zaj (zww v) zbb) (.s _) (by simp only [argF]; rfl) ?_
 refine zaf (zab (zad rfl rfl (zaa rfl) (zbg rfl rfl rfl rfl) ?_))
 refine zar (zbl (id := 0) rfl) (zar (zb3 (d := 1) rfl rfl rfl) ?_)
 refine zac rfl (zae (zaf ?_))
 by_cases h1 : (v.acts.length : Int) > 8
 ·
  refine zab (zbm zcn rfl (zbu ta44 rfl (zad rfl rfl (zaa rfl) (zak rfl ts44 rfl) (zad rfl rfl (zaa rfl) (zbn h1 (za4 rfl rfl rfl)) (zac rfl (za3 rfl (za3 rfl (za3 rfl (zac rfl (zac rfl (zae (zah ?_))))))))))))
  (refine zav ?_; repeat (first | refine za6 ?_ | refine za7 ?_))
  exact zbq (.inr rfl) rfl (congrArg eB (hR.trans (if_pos (by omega))).symm)
 ·
  refine zab (zbm zcn rfl (zbu ta44 rfl (zad rfl rfl (zaa rfl) (zak rfl ts44 rfl) (zad rfl rfl (zaa rfl) (zbj h1 (za4 rfl rfl rfl)) (zac rfl (zbm zcn rfl (zbu ta44 rfl (zad rfl rfl (zan rfl rfl rfl) (zai rfl rfl (hl) (zag rfl (zag rfl zam))) (zac rfl (zac rfl (zae (zah ?_))))))))))))
  (refine zav ?_; repeat (first | refine za6 ?_ | refine za7 ?_))
  exact zbq (.inr rfl) rfl (congrArg eB (hR.trans (if_neg (by omega))).symm)
def zws (vs : List Vr) (most : Int) : Bool := if (60 < most ∧ most ≤ 2000) ∨ 6 < vs.length then true else vs.any bigV
theorem zwr (vs : List Vr) (most : Int) : Pure P 10 [eL eVr vs, eI most] (eB (zws vs most)) := by
 have hT := zl5 (P := P) 30 [] bigV vs (fun a => zww a) (.fn _ _ zbb) (fun a _ => z26 a)
 have hR : zws vs most = if (60 < most ∧ most ≤ 2000) ∨ 6 < vs.length then true else vs.any bigV := rfl
 generalize zws vs most = R at hR ⊢
 generalize vs.any bigV = b at hT hR
 refine zcy (by rw [IsP.eq (P := P)]; exact Tryz.func10) rfl rfl rfl rfl rfl (zaj (zfz vs) (zaj (.s _) zbb)) (.s _) (by simp only [argF]; rfl) ?_
 refine zaf (zab (zac rfl (zae (zaf ?_))))
 by_cases h1 : 60 < most ∧ most ≤ 2000
 ·
  rw [if_pos (.inl h1)] at hR
  refine zab (zac rfl (zad rfl rfl (zaa rfl) (zbn (by omega) (za4 rfl rfl rfl)) (zac rfl (zac rfl (zad rfl rfl (zan rfl rfl rfl) (zbn (by omega) (ziy rfl rfl rfl)) (zac rfl (zac rfl (za3 rfl (za3 rfl (za3 rfl (zac rfl (zac rfl (za3 rfl (za3 rfl (zac rfl (zac rfl (zae (zah ?_))))))))))))))))))
  (refine zav ?_; repeat (first | refine za6 ?_ | refine za7 ?_))
  exact zbq (.inr rfl) rfl (congrArg eB hR.symm)
 by_cases h2 : 6 < vs.length
 ·
  rw [if_pos (.inr h2)] at hR
  by_cases h3 : most > 60
  ·
   refine zab (zac rfl (zad rfl rfl (zaa rfl) (zbn h3 (za4 rfl rfl rfl)) (zac rfl (zac rfl (zad rfl rfl (zan rfl rfl rfl) (zbj (by omega) (ziy rfl rfl rfl)) (zac rfl (zac rfl (zac rfl (zad rfl rfl (zan rfl rfl rfl) (zak rfl ts25 rfl) (zad rfl rfl (zan rfl rfl rfl) (zbn (by omega) (za4 rfl rfl rfl)) (zac rfl (zac rfl (za3 rfl (za3 rfl (zac rfl (zac rfl (zae (zah ?_))))))))))))))))))
   (refine zav ?_; repeat (first | refine za6 ?_ | refine za7 ?_))
   exact zbq (.inr rfl) rfl (congrArg eB hR.symm)
  ·
   refine zab (zac rfl (zad rfl rfl (zaa rfl) (zbj h3 (za4 rfl rfl rfl)) (zac rfl (za3 rfl (za3 rfl (zac rfl (zac rfl (zac rfl (zad rfl rfl (zan rfl rfl rfl) (zak rfl ts25 rfl) (zad rfl rfl (zan rfl rfl rfl) (zbn (by omega) (za4 rfl rfl rfl)) (zac rfl (zac rfl (za3 rfl (za3 rfl (zac rfl (zac rfl (zae (zah ?_))))))))))))))))))
   (refine zav ?_; repeat (first | refine za6 ?_ | refine za7 ?_))
   exact zbq (.inr rfl) rfl (congrArg eB hR.symm)
 ·
  rw [if_neg (by omega)] at hR
  by_cases h3 : most > 60
  ·
   refine zab (zac rfl (zad rfl rfl (zaa rfl) (zbn h3 (za4 rfl rfl rfl)) (zac rfl (zac rfl (zad rfl rfl (zan rfl rfl rfl) (zbj (by omega) (ziy rfl rfl rfl)) (zac rfl (zac rfl (zac rfl (zad rfl rfl (zan rfl rfl rfl) (zak rfl ts25 rfl) (zad rfl rfl (zan rfl rfl rfl) (zbj (by omega) (za4 rfl rfl rfl)) (zac rfl (zac rfl (zac rfl (zad rfl rfl (zan rfl rfl rfl) (zai rfl rfl (hT) (zag rfl (zag rfl zam))) (zac rfl (zac rfl (zae (zah ?_))))))))))))))))))
   (refine zav ?_; repeat (first | refine za6 ?_ | refine za7 ?_))
   exact zbq (.inr rfl) rfl (congrArg eB hR.symm)
  ·
   refine zab (zac rfl (zad rfl rfl (zaa rfl) (zbj h3 (za4 rfl rfl rfl)) (zac rfl (za3 rfl (za3 rfl (zac rfl (zac rfl (zac rfl (zad rfl rfl (zan rfl rfl rfl) (zak rfl ts25 rfl) (zad rfl rfl (zan rfl rfl rfl) (zbj (by omega) (za4 rfl rfl rfl)) (zac rfl (zac rfl (zac rfl (zad rfl rfl (zan rfl rfl rfl) (zai rfl rfl (hT) (zag rfl (zag rfl zam))) (zac rfl (zac rfl (zae (zah ?_))))))))))))))))))
   (refine zav ?_; repeat (first | refine za6 ?_ | refine za7 ?_))
   exact zbq (.inr rfl) rfl (congrArg eB hR.symm)
end Go.Proofs.YtohmldibkojkfaaGreatDoor.Aw
end
