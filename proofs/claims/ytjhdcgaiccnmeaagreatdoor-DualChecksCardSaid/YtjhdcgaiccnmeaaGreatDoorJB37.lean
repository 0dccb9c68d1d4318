import Derived.Test.YtjhdcgaiccnmeaaGreatDoorJB36
set_option linter.unusedSimpArgs false
set_option linter.unusedVariables false
set_option linter.unusedSectionVars false
namespace Go.Proofs.YtjhdcgaiccnmeaaGreatDoor
namespace Dl
open Go.RowKit
def exD : Net := ⟨2, [⟨⟨#[97]⟩, [0], [1]⟩], 0, 1⟩
def exW : List ByteArray := [⟨#[98]⟩]
def exC : Cst := ⟨1, 1, 0⟩
def exP : Prf := ⟨[], [], [⟨1, 1⟩, ⟨0, 1⟩, ⟨1, 1⟩]⟩
def exG : Gr := ⟨[[0, 1, 0], [1, 1, 0], [0, 0, 1], [1, 0, 1]], [⟨0, 1, 1⟩, ⟨0, 2, 1⟩, ⟨1, 3, 1⟩, ⟨2, 3, 1⟩]⟩
theorem z05 {M : List Edg} {far far' : List Int} (hc : bkR M far = (far', true)) (hs : far'.sum.toNat < far.sum.toNat) : relW M far = relW M far' := by
 conv => lhs; unfold relW
 rw [hc]
 exact dif_pos ⟨rfl, hs⟩
theorem ex_far : farD exG 3 = [2, 1, 1, 0] := by
 show relW exG.ed [1073741824, 1073741824, 1073741824, 0] = _
 rw [z05 (far' := [2, 1, 1, 0]) (by kernel_rfl) (by decide +kernel)]
 exact zi0 (by kernel_rfl)
theorem zzi : ∃ p, zfs exD exW exC 10 = (2, p, 0) := by
 have h1 : bfsD (nxD exD exW exC) 10 11 0 ⟨[(zd9 exD exW).1], []⟩ = some exG := by kernel_rfl
 have h2 : zfs exD exW exC 10 = finD exD exW exG := by
  unfold zfs
  rw [if_neg (by decide +kernel), if_neg (by decide)]
  show (match bfsD (nxD exD exW exC) 10 11 0 ⟨[(zd9 exD exW).1], []⟩ with | none => _ | some g => finD exD exW g) = _
  rw [h1]
 have h3 : idx exG.st (endE exD exW).1 = 3 := by kernel_rfl
 refine ⟨⟨exG.st, capD [2, 1, 1, 0], List.replicate (exD.places.toNat + exW.length) (Fr.of 0)⟩, ?_⟩
 rw [h2]
 unfold finD
 rw [if_neg (by decide +kernel), h3, ex_far]
 rfl
theorem z12 : Aw.checkE exD exW exC 2 exP = true := by kernel_rfl
theorem z11 : Aw.checkE exD exW exC 3 exP = false := by kernel_rfl
end Dl
namespace Aw
open Go Go.RowKit Go.Proofs Go.Maps Go.WideMaps Dl
variable {P : Program} [IsP P]
theorem zq8 (f : FuncId) (caps : List AV) (p : (List Int) → Bool) (l : List (List Int)) (hlo : ∀ a : (List Int), Lo 0 ((eL eI) a)) (hlc : Lo 0 (.fn f caps)) (hf : ∀ a ∈ l, Pure P f ([(eL eI) a] ++ caps) (eB (p a))) :
  Pure P 96 [eL (eL eI) l, .fn f caps] (eI (zc2 p l)) := by
 refine zcl (by rw [IsP.eq (P := P)]; exact Tryz.func96) rfl rfl rfl rfl rfl (zah (zan hlo) (zah hlc zak)) (.s _) (by simp only [argF]; rfl) ?_
 refine zda (d := 0) rfl (fun hmx => ?_)
 unfold maxLen at hmx
 refine zag (zab (zac rfl (zad (zag (zag (zab (zac rfl (zaf rfl rfl (zaa rfl) (zao rfl ts28 rfl) (zac rfl (zad (zai (zas ?_))))))))))))
 refine zb1 (S := Nat) (fun k => [(0, eL (eL eI) l), (1, .fn f caps), (7, eI l.length), (8, eI k)]) (fun _ => []) (fun k => k ≤ l.length ∧ ∀ j a, j < k → l[j]? = some a → p a = false) (fun k => l.length - k) 0 (zel _ ⟨rfl, rfl, rfl, rfl, trivial⟩) ⟨by omega, fun j a hj => by omega⟩ (fun k hk => ?_)
 refine zag (zab (zaf rfl rfl (zaa rfl) (za2 rfl rfl rfl) (zad (zag ?_))))
 refine zrl rfl (fun h => ?_) (fun h => ?_)
 ·
  have hlt : k < l.length := by omega
  refine zar (zag (zas (zag (zab (zac rfl (zac rfl (zad (zag ?_))))))))
  have hp := hf (gti l k) (gti_mem hlt)
  refine zab (zac rfl (zac rfl (zac rfl (zaf rfl rfl (zaa rfl) (zal rfl ts28 ti29 rfl rfl rfl (zbb (by omega)) rfl) (zbu ta29 rfl (zaf rfl rfl (zaa rfl) (zam rfl rfl (hp) (zae rfl zap)) (zad (zai ?_))))))))
  refine ziq rfl (fun h => ?_) (fun h => ?_)
  ·
   refine zag (zab (zac rfl (zac rfl (zad (zai ?_)))))
   (refine za7 ?_; repeat (first | refine zbc ?_ | refine zbe ?_))
   exact zb6 (.inr rfl) rfl (congrArg eI (zei (zdh hlt) h hk.2).symm)
  ·
   refine zar (zbl (zai (zab (zaf rfl rfl (zaa rfl) (zax rfl rfl rfl (IntWalk.i64_in _ (by omega))) (zac rfl (zad (zai ?_)))))))
   refine ⟨k + 1, ⟨by omega, fun j a hj ha => ?_⟩, by omega, zel _ ⟨rfl, rfl, rfl, rfl, trivial⟩⟩
   by_cases e : j = k
   ·
    subst e
    rw [zdh hlt] at ha
    cases ha
    exact h
   ·
    exact hk.2 j a (by omega) ha
 ·
  (refine zb9 ?_; repeat (first | refine zcr ?_ | refine zbt ?_ | refine zbk rfl ?_ | refine zbl ?_ | refine zai ?_ | refine zag ?_ | refine zar ?_ | refine zas ?_))
  refine zab (zac rfl (zad (zai ?_)))
  (refine za7 ?_; repeat (first | refine zbc ?_ | refine zbe ?_))
  exact zb6 (.inr rfl) rfl (congrArg eI (zeo (fun j a hj ha => hk.2 j a (by omega) ha)).symm)
theorem zmh (f : FuncId) (caps : List AV) (p : (List Int) → Bool) (l : List (List Int)) (hlo : ∀ a : (List Int), Lo 0 ((eL eI) a)) (hlc : Lo 0 (.fn f caps)) (hf : ∀ a ∈ l, Pure P f ([(eL eI) a] ++ caps) (eB (p a))) :
  Pure P 45 [eL (eL eI) l, .fn f caps] (eB (l.any p)) := by
 refine zcl (by rw [IsP.eq (P := P)]; exact Tryz.func45) rfl rfl rfl rfl rfl (zah (zan hlo) (zah hlc zak)) (.s _) (by simp only [argF]; rfl) ?_
 have hi := zq8 f caps p l hlo hlc hf
 refine zag (zab (zac rfl (zad (zag (zab (zac rfl (zac rfl (zaf rfl rfl (zaa rfl) (zam rfl rfl (hi) (zae rfl (zae rfl zap))) (zaf rfl rfl (zaa rfl) (zcp rfl rfl rfl) (zac rfl (zad (zai ?_))))))))))))
 (refine za7 ?_; repeat (first | refine zbc ?_ | refine zbe ?_))
 exact zb6 (.inr rfl) rfl (congrArg eB (zeq p l))
theorem ztz (f : FuncId) (caps : List AV) (p : Tr → Bool) (l : List Tr) (hlo : ∀ a : Tr, Lo 0 (eT a)) (hlc : Lo 0 (.fn f caps)) (hf : ∀ a ∈ l, Pure P f ([eT a] ++ caps) (eB (p a))) :
  Pure P 94 [eL eT l, .fn f caps] (eI (zc2 p l)) := by
 refine zcl (by rw [IsP.eq (P := P)]; exact Tryz.func94) rfl rfl rfl rfl rfl (zah (zan hlo) (zah hlc zak)) (.s _) (by simp only [argF]; rfl) ?_
 refine zda (d := 0) rfl (fun hmx => ?_)
 unfold maxLen at hmx
 refine zag (zab (zac rfl (zad (zag (zag (zab (zac rfl (zaf rfl rfl (zaa rfl) (zao rfl ts22 rfl) (zac rfl (zad (zai (zas ?_))))))))))))
 refine zb1 (S := Nat) (fun k => [(0, eL eT l), (1, .fn f caps), (7, eI l.length), (8, eI k)]) (fun _ => []) (fun k => k ≤ l.length ∧ ∀ j a, j < k → l[j]? = some a → p a = false) (fun k => l.length - k) 0 (zel _ ⟨rfl, rfl, rfl, rfl, trivial⟩) ⟨by omega, fun j a hj => by omega⟩ (fun k hk => ?_)
 refine zag (zab (zaf rfl rfl (zaa rfl) (za2 rfl rfl rfl) (zad (zag ?_))))
 refine zrl rfl (fun h => ?_) (fun h => ?_)
 ·
  have hlt : k < l.length := by omega
  refine zar (zag (zas (zag (zab (zac rfl (zac rfl (zad (zag ?_))))))))
  have hp := hf (gti l k) (gti_mem hlt)
  refine zab (zac rfl (zac rfl (zac rfl (zaf rfl rfl (zaa rfl) (zal rfl ts22 ti86 rfl rfl rfl (zbb (by omega)) rfl) (zcx ta86 ti86 rfl (zaf rfl rfl (zaa rfl) (zam rfl rfl (hp) (zae rfl zap)) (zad (zai ?_))))))))
  refine ziq rfl (fun h => ?_) (fun h => ?_)
  ·
   refine zag (zab (zac rfl (zac rfl (zad (zai ?_)))))
   (refine za7 ?_; repeat (first | refine zbc ?_ | refine zbe ?_))
   exact zb6 (.inr rfl) rfl (congrArg eI (zei (zdh hlt) h hk.2).symm)
  ·
   refine zar (zbl (zai (zab (zaf rfl rfl (zaa rfl) (zax rfl rfl rfl (IntWalk.i64_in _ (by omega))) (zac rfl (zad (zai ?_)))))))
   refine ⟨k + 1, ⟨by omega, fun j a hj ha => ?_⟩, by omega, zel _ ⟨rfl, rfl, rfl, rfl, trivial⟩⟩
   by_cases e : j = k
   ·
    subst e
    rw [zdh hlt] at ha
    cases ha
    exact h
   ·
    exact hk.2 j a (by omega) ha
 ·
  (refine zb9 ?_; repeat (first | refine zcr ?_ | refine zbt ?_ | refine zbk rfl ?_ | refine zbl ?_ | refine zai ?_ | refine zag ?_ | refine zar ?_ | refine zas ?_))
  refine zab (zac rfl (zad (zai ?_)))
  (refine za7 ?_; repeat (first | refine zbc ?_ | refine zbe ?_))
  exact zb6 (.inr rfl) rfl (congrArg eI (zeo (fun j a hj ha => hk.2 j a (by omega) ha)).symm)
theorem zob (f : FuncId) (caps : List AV) (p : Tr → Bool) (l : List Tr) (hlo : ∀ a : Tr, Lo 0 (eT a)) (hlc : Lo 0 (.fn f caps)) (hf : ∀ a ∈ l, Pure P f ([eT a] ++ caps) (eB (p a))) :
  Pure P 41 [eL eT l, .fn f caps] (eB (l.any p)) := by
 refine zcl (by rw [IsP.eq (P := P)]; exact Tryz.func41) rfl rfl rfl rfl rfl (zah (zan hlo) (zah hlc zak)) (.s _) (by simp only [argF]; rfl) ?_
 have hi := ztz f caps p l hlo hlc hf
 refine zag (zab (zac rfl (zad (zag (zab (zac rfl (zac rfl (zaf rfl rfl (zaa rfl) (zam rfl rfl (hi) (zae rfl (zae rfl zap))) (zaf rfl rfl (zaa rfl) (zcp rfl rfl rfl) (zac rfl (zad (zai ?_))))))))))))
 (refine za7 ?_; repeat (first | refine zbc ?_ | refine zbe ?_))
 exact zb6 (.inr rfl) rfl (congrArg eB (zeq p l))
theorem zxi : Pure P 9 [] (eB true) := by
 obtain ⟨pf, hpf⟩ := zzi
 have hpr := zr8 (P := P) exD exW exC 10
 rw [hpf] at hpr
 have hc2 := zl2 (P := P) exD exW exC 2 exP
 rw [z12] at hc2
 have hc3 := zl2 (P := P) exD exW exC 3 exP
 rw [z11] at hc3
 refine zcl (by rw [IsP.eq (P := P)]; exact Tryz.func9) rfl rfl rfl rfl rfl (zak) (.s _) (by simp only [argF]; rfl) ?_
 refine zag (zab (zac rfl (zad (zag (zab (zaf rfl rfl (zaa rfl) (zik rfl ts29 ti3 rfl rfl rfl rfl) (zaf rfl rfl (zaa rfl) (zik rfl ts29 ti3 rfl rfl rfl rfl) (zaf rfl rfl (zaa rfl) (za9 rfl ti86 tp86 rfl rfl) ?_))))))))
 refine zaf rfl rfl (zaa rfl) (zco rfl ts22 ti86 rfl rfl (by decide) (by decide) rfl rfl rfl (by repeat' (first | exact Lo.s _ | exact zak | refine zah ?_ ?_ | refine zan ?_ | refine Lo.agg _ ?_ | refine Lo.sl _ ?_ | intro _))) ?_
 refine zaf rfl rfl (zaa rfl) (za9 rfl ti24 tp24 rfl rfl) (zaf rfl rfl (zaa rfl) (za1 rfl ti24 rfl rfl) (zba rfl (zaa rfl) (zaj rfl ti24 rfl rfl rfl rfl rfl rfl (by decide) (by decide)) (zad (zag ?_))))
 refine zbg (zbm (id := 0) rfl) ?_
 refine zbg (zcb (d := 1) rfl rfl rfl) ?_
 refine zbg (F' := [(1, .ref (eN exD).cells)]) (σ' := []) (zb8 [] (by decide) trivial ⟨.lo _ (.ref _ (lo_N exD).cells), trivial⟩) ?_
 refine zab (zaf rfl rfl (zaa rfl) (za9 rfl ti56 tp56 rfl rfl) (zaf rfl rfl (zaa rfl) (za9 rfl ti56 tp56 rfl rfl) (zaf rfl rfl (zaa rfl) (za1 rfl ti56 rfl rfl) (zaf rfl rfl (zaa rfl) (za1 rfl ti56 rfl rfl) (zba rfl (zaa rfl) (zaj rfl ti56 rfl rfl rfl rfl rfl rfl (by decide) (by decide)) (zba rfl (zaa rfl) (zaj rfl ti56 rfl rfl rfl rfl rfl rfl (by decide) (by decide)) (zad (zag ?_))))))))
 refine zbg (zbm (id := 0) rfl) ?_
 refine zbg (zcb (d := 2) rfl rfl rfl) ?_
 refine zbg (zbm (id := 1) rfl) ?_
 refine zbg (zcb (d := 3) rfl rfl rfl) ?_
 refine zbg (F' := [(1, .ref (eN exD).cells), (2, .ref (eF ⟨1, 1⟩).cells), (3, .ref (eF ⟨0, 1⟩).cells)]) (σ' := []) (zb8 [] (by decide) trivial ⟨.lo _ (.ref _ (lo_N exD).cells), .lo _ (show Lo 0 (.ref (eF ⟨1, 1⟩).cells) from .ref _ (zfe _).cells), .lo _ (show Lo 0 (.ref (eF ⟨0, 1⟩).cells) from .ref _ (zfe _).cells), trivial⟩) ?_
 refine zab (zcx ta56 ti56 rfl (zcx ta56 ti56 rfl (zcx ta56 ti56 rfl (zaf rfl rfl (zaa rfl) (zn5 rfl ts30 ti56 rfl rfl (by decide) (by decide) (by decide) rfl rfl) ?_))))
 refine za6 (zbm (id := 0) rfl) (za6 (zoh (d := 19) rfl rfl (by first | rfl | (simp; done) | (simp; omega))) ?_)
 refine zaf rfl rfl (zaa rfl) (za9 rfl ti32 tp32 rfl rfl) (zaf rfl rfl (zaa rfl) (za1 rfl ti32 rfl rfl) (zba rfl (zaa rfl) (zaj rfl ti32 rfl rfl rfl rfl rfl rfl (by decide) (by decide)) (zad (zag ?_))))
 refine zbg (zbm (id := 1) rfl) ?_
 refine zbg (zcb (d := 4) rfl rfl rfl) ?_
 refine zbg (F' := [(1, .ref (eN exD).cells), (4, .ref [.s (.slice none 0 0), .s (.slice none 0 0), eL eF exP.duals])]) (σ' := []) (zb8 [] (by decide) trivial ⟨.lo _ (.ref _ (lo_N exD).cells), .lo _ (show Lo 0 (.ref [.s (.slice none 0 0), .s (.slice none 0 0), eL eF exP.duals]) from .ref _ (zah (.s _) (zah (.s _) (zah (zan fun a => zfe a) zak)))), trivial⟩) ?_
 refine zab (zaf rfl rfl (zaa rfl) (za9 rfl ti27 tp27 rfl rfl) (zaf rfl rfl (zaa rfl) (za1 rfl ti27 rfl rfl) (zba rfl (zaa rfl) (zaj rfl ti27 rfl rfl rfl rfl rfl rfl (by decide) (by decide)) (zad (zag ?_)))))
 refine zbg (zbm (id := 0) rfl) ?_
 refine zbg (zcb (d := 5) rfl rfl rfl) ?_
 refine zab (zcx ta24 ti24 rfl (zaf rfl rfl (zaa rfl) (zik rfl ts25 ti9 rfl rfl rfl rfl) (zcx ta27 ti27 rfl (zaf rfl rfl (zaa rfl) (zam rfl rfl (hpr) (zae rfl (zae rfl (zae rfl (zae rfl zap))))) (zac rfl (zac rfl (zac rfl (zac rfl (zaf rfl rfl (zaa rfl) (za1 rfl ti32 rfl rfl) (zac rfl (zba rfl (zaa rfl) (zaj rfl ti32 rfl rfl rfl rfl rfl rfl (by decide) (by decide)) (zac rfl (zad (zag ?_))))))))))))))
 refine zbg (F' := [(1, .ref (eN exD).cells), (4, .ref [.s (.slice none 0 0), .s (.slice none 0 0), eL eF exP.duals]), (5, .ref (eC exC).cells), (6, eI 2), (8, eI 0)]) (σ' := []) (zb8 [] (by decide) trivial ⟨.lo _ (.ref _ (lo_N exD).cells), .lo _ (show Lo 0 (.ref [.s (.slice none 0 0), .s (.slice none 0 0), eL eF exP.duals]) from .ref _ (zah (.s _) (zah (.s _) (zah (zan fun a => zfe a) zak)))), .lo _ (show Lo 0 (.ref (eC exC).cells) from .ref _ (lo_C exC).cells), .lo _ (.s _), .lo _ (.s _), trivial⟩) ?_
 refine zab (zcx ta24 ti24 rfl (zaf rfl rfl (zaa rfl) (zik rfl ts25 ti9 rfl rfl rfl rfl) (zcx ta27 ti27 rfl (zcx ta32 ti32 rfl ?_))))
 refine zaf rfl rfl (zaa rfl) (zcv rfl rfl hc2 (zbd.cons (.refl _) (zbd.cons (.refl _) (zbd.cons (.refl _) (zbd.cons (.refl _) (zbd.cons (.agg _ _ rfl (zbd.cons .nil (zbd.cons .nil (zbd.cons (.refl _) zbd.nil))).2) zbd.nil))))) (by repeat' (first | exact Flat.s _ | exact zfn | refine ze4 ?_ ?_ | refine Flat.agg ?_ | refine Flat.tup ?_))) ?_
 refine zac rfl (zcx ta24 ti24 rfl (zaf rfl rfl (zat rfl rfl rfl) (zik rfl ts25 ti9 rfl rfl rfl rfl) (zcx ta27 ti27 rfl (zcx ta32 ti32 rfl ?_))))
 refine zaf rfl rfl (zat rfl rfl rfl) (zcv rfl rfl hc3 (zbd.cons (.refl _) (zbd.cons (.refl _) (zbd.cons (.refl _) (zbd.cons (.refl _) (zbd.cons (.agg _ _ rfl (zbd.cons .nil (zbd.cons .nil (zbd.cons (.refl _) zbd.nil))).2) zbd.nil))))) (by repeat' (first | exact Flat.s _ | exact zfn | refine ze4 ?_ ?_ | refine Flat.agg ?_ | refine Flat.tup ?_))) ?_
 refine zaf rfl rfl (zat rfl rfl rfl) (zbj rfl rfl) (zac rfl (zac rfl (zac rfl (zaf rfl rfl (zat rfl rfl rfl) (zdc rfl (zbn rfl rfl rfl)) (zac rfl (zac rfl (zac rfl (zaf rfl rfl (zat rfl rfl rfl) (zdc rfl (zbn rfl rfl rfl)) (zac rfl (zac rfl (zad (zai ?_))))))))))))
 (refine za7 ?_; repeat (first | refine zbc ?_ | refine zbe ?_))
 exact zb6 (.inr rfl) rfl rfl
def bigT (t : Tr) : Bool := decide (12 < t.inn.length) || (decide (12 < t.out.length) || decide (100 < t.label.size))
def bigS (s : ByteArray) : Bool := decide (100 < s.size)
def bigL (l : List Int) : Bool := decide (12 < l.length)
theorem z2g (t : Tr) : Pure P 42 [eT t] (eB (bigT t)) := by
 refine zcl (by rw [IsP.eq (P := P)]; exact Tryz.func42) rfl rfl rfl rfl rfl (zah (lo_T t) zak) (.s _) (by simp only [argF]; rfl) ?_
 refine zag (zab (zaf rfl rfl (zaa rfl) (zb3 rfl rfl rfl rfl) ?_))
 refine za6 (zbm (id := 0) rfl) (za6 (zcb (d := 1) rfl rfl rfl) ?_)
 refine zac rfl (zad (zag ?_))
 by_cases h1 : (t.inn.length : Int) > 12
 ·
  refine zab (zbz ziw rfl (zbu ta29 rfl (zaf rfl rfl (zaa rfl) (zao rfl ts29 rfl) (zaf rfl rfl (zaa rfl) (zdc h1 (zb0 rfl rfl rfl)) (zac rfl (za4 rfl (za4 rfl (za4 rfl (za4 rfl (zac rfl (zac rfl (za4 rfl (za4 rfl (za4 rfl (za4 rfl (zac rfl (zac rfl (zad (zai ?_)))))))))))))))))))
  (refine za7 ?_; repeat (first | refine zbc ?_ | refine zbe ?_))
  exact zb6 (.inr rfl) rfl (congrArg eB (by unfold bigT; rw [decide_eq_true (by omega)]; rfl))
 by_cases h2 : (t.out.length : Int) > 12
 ·
  refine zab (zbz ziw rfl (zbu ta29 rfl (zaf rfl rfl (zaa rfl) (zao rfl ts29 rfl) (zaf rfl rfl (zaa rfl) (zeg h1 (zb0 rfl rfl rfl)) (zac rfl (zbz zj2 rfl (zbu ta29 rfl (zaf rfl rfl (zat rfl rfl rfl) (zao rfl ts29 rfl) (zaf rfl rfl (zat rfl rfl rfl) (zdc h2 (zb0 rfl rfl rfl)) (zac rfl (zac rfl (za4 rfl (za4 rfl (za4 rfl (za4 rfl (zac rfl (zac rfl (zad (zai ?_)))))))))))))))))))
  (refine za7 ?_; repeat (first | refine zbc ?_ | refine zbe ?_))
  exact zb6 (.inr rfl) rfl (congrArg eB (by unfold bigT; rw [decide_eq_true (show 12 < t.out.length by omega)]; simp))
 by_cases h3 : (t.label.size : Int) > 100
 ·
  refine zab (zbz ziw rfl (zbu ta29 rfl (zaf rfl rfl (zaa rfl) (zao rfl ts29 rfl) (zaf rfl rfl (zaa rfl) (zeg h1 (zb0 rfl rfl rfl)) (zac rfl (zbz zj2 rfl (zbu ta29 rfl (zaf rfl rfl (zat rfl rfl rfl) (zao rfl ts29 rfl) (zaf rfl rfl (zat rfl rfl rfl) (zeg h2 (zb0 rfl rfl rfl)) (zac rfl (zac rfl (zbz zmk rfl (zbu ta9 rfl (zaf rfl rfl (zat rfl rfl rfl) (zhs rfl tg9 rfl) (zaf rfl rfl (zat rfl rfl rfl) (zdc h3 (zb0 rfl rfl rfl)) (zac rfl (zac rfl (zad (zai ?_)))))))))))))))))))
  (refine za7 ?_; repeat (first | refine zbc ?_ | refine zbe ?_))
  exact zb6 (.inr rfl) rfl (congrArg eB (by unfold bigT; rw [decide_eq_true (show 100 < t.label.size by omega)]; simp))
 ·
  refine zab (zbz ziw rfl (zbu ta29 rfl (zaf rfl rfl (zaa rfl) (zao rfl ts29 rfl) (zaf rfl rfl (zaa rfl) (zeg h1 (zb0 rfl rfl rfl)) (zac rfl (zbz zj2 rfl (zbu ta29 rfl (zaf rfl rfl (zat rfl rfl rfl) (zao rfl ts29 rfl) (zaf rfl rfl (zat rfl rfl rfl) (zeg h2 (zb0 rfl rfl rfl)) (zac rfl (zac rfl (zbz zmk rfl (zbu ta9 rfl (zaf rfl rfl (zat rfl rfl rfl) (zhs rfl tg9 rfl) (zaf rfl rfl (zat rfl rfl rfl) (zeg h3 (zb0 rfl rfl rfl)) (zac rfl (zac rfl (zad (zai ?_)))))))))))))))))))
  (refine za7 ?_; repeat (first | refine zbc ?_ | refine zbe ?_))
  exact zb6 (.inr rfl) rfl (congrArg eB (by unfold bigT; rw [decide_eq_false (by omega), decide_eq_false (by omega), decide_eq_false (by omega)]; rfl))
theorem z2h (s : ByteArray) : Pure P 44 [eS s] (eB (bigS s)) := by
 refine zcl (by rw [IsP.eq (P := P)]; exact Tryz.func44) rfl rfl rfl rfl rfl (zah (.s _) zak) (.s _) (by simp only [argF]; rfl) ?_
 refine zag (zab (zac rfl (zad (zag (zab (zac rfl (zaf rfl rfl (zaa rfl) (zhs rfl tg9 rfl) (zaf rfl rfl (zaa rfl) (zb0 rfl rfl rfl) (zac rfl (zad (zai ?_)))))))))))
 (refine za7 ?_; repeat (first | refine zbc ?_ | refine zbe ?_))
 exact zb6 (.inr rfl) rfl (congrArg eB (decide_eq_decide.2 (by omega)))
theorem z2i (l : List Int) : Pure P 46 [eL eI l] (eB (bigL l)) := by
 refine zcl (by rw [IsP.eq (P := P)]; exact Tryz.func46) rfl rfl rfl rfl rfl (zah lo_I zak) (.s _) (by simp only [argF]; rfl) ?_
 refine zag (zab (zac rfl (zad (zag (zab (zac rfl (zaf rfl rfl (zaa rfl) (zao rfl ts29 rfl) (zaf rfl rfl (zaa rfl) (zb0 rfl rfl rfl) (zac rfl (zad (zai ?_)))))))))))
 (refine za7 ?_; repeat (first | refine zbc ?_ | refine zbe ?_))
 exact zb6 (.inr rfl) rfl (congrArg eB (decide_eq_decide.2 (by omega)))
def zmn (n : Net) (w : List ByteArray) : Bool := if (n.places ≤ 8 ∨ 40 < n.places) ∧ n.trans.length ≤ 8 ∧ n.trans.any bigT = false ∧ w.length ≤ 6 ∧ w.any bigS = false then true else false
theorem zx5 {n : Net} {w : List ByteArray} (h : (n.places ≤ 8 ∨ 40 < n.places) ∧ n.trans.length ≤ 8 ∧ n.trans.any bigT = false ∧ w.length ≤ 6 ∧ w.any bigS = false) : zmn n w = true := if_pos h
theorem zx6 {n : Net} {w : List ByteArray} (h : ¬ ((n.places ≤ 8 ∨ 40 < n.places) ∧ n.trans.length ≤ 8 ∧ n.trans.any bigT = false ∧ w.length ≤ 6 ∧ w.any bigS = false)) : zmn n w = false := if_neg h
theorem zr2 (n : Net) (w : List ByteArray) : Pure P 10 [eN n, eL eS w] (eB (zmn n w)) := by
 have hT := zob (P := P) 42 [] bigT n.trans (fun a => lo_T a) (.fn _ _ zak) (fun a _ => z2g a)
 have hS := zoc (P := P) 44 [] bigS w (fun a => .s _) (.fn _ _ zak) (fun a _ => z2h a)
 have ht := zx5 (n := n) (w := w)
 have hf := zx6 (n := n) (w := w)
 generalize n.trans.any bigT = b1 at hT ht hf
 generalize w.any bigS = b2 at hS ht hf
 generalize zmn n w = R at ht hf ⊢
 refine zcl (by rw [IsP.eq (P := P)]; exact Tryz.func10) rfl rfl rfl rfl rfl (zah (lo_N n) (zah (lo_W w) zak)) (.s _) (by simp only [argF]; rfl) ?_
 refine zag (zab (zaf rfl rfl (zaa rfl) (zb3 rfl rfl rfl rfl) ?_))
 refine za6 (zbm (id := 0) rfl) (za6 (zcb (d := 2) rfl rfl rfl) ?_)
 refine zac rfl (zad (zag ?_))
 by_cases h1 : n.places ≤ 8 ∨ n.places > 40
 rotate_left 1
 ·
  refine zab (zbz zem rfl (zbu ta3 rfl (zaf rfl rfl (zaa rfl) (zeg (by omega) (zdz rfl rfl rfl)) (zac rfl (zbz zem rfl (zbu ta3 rfl (zaf rfl rfl (zat rfl rfl rfl) (zeg (by omega) (zb0 rfl rfl rfl)) (zac rfl (zac rfl (za4 rfl (za4 rfl (za4 rfl (za4 rfl (zac rfl (zac rfl (za4 rfl (za4 rfl (za4 rfl (za4 rfl (zac rfl (zac rfl (za4 rfl (za4 rfl (za4 rfl (zac rfl (zac rfl (za4 rfl (za4 rfl (za4 rfl (zac rfl (zac rfl (zad (zai ?_)))))))))))))))))))))))))))))))))
  (refine za7 ?_; repeat (first | refine zbc ?_ | refine zbe ?_))
  exact zb6 (.inr rfl) rfl (congrArg eB (hf (fun h => h1 (by omega))).symm)
 by_cases h2 : (n.trans.length : Int) ≤ 8
 rotate_left 1
 ·
  by_cases h3 : n.places ≤ 8
  ·
   refine zab (zbz zem rfl (zbu ta3 rfl (zaf rfl rfl (zaa rfl) (zdc h3 (zdz rfl rfl rfl)) (zac rfl (za4 rfl (za4 rfl (za4 rfl (zac rfl (zac rfl (zbz zex rfl (zbu ta22 rfl (zaf rfl rfl (zat rfl rfl rfl) (zao rfl ts22 rfl) (zaf rfl rfl (zat rfl rfl rfl) (zeg h2 (zdz rfl rfl rfl)) (zac rfl (zac rfl (za4 rfl (za4 rfl (za4 rfl (za4 rfl (zac rfl (zac rfl (za4 rfl (za4 rfl (za4 rfl (zac rfl (zac rfl (za4 rfl (za4 rfl (za4 rfl (zac rfl (zac rfl (zad (zai ?_)))))))))))))))))))))))))))))))))
   (refine za7 ?_; repeat (first | refine zbc ?_ | refine zbe ?_))
   exact zb6 (.inr rfl) rfl (congrArg eB (hf (fun h => h2 (by omega))).symm)
  ·
   refine zab (zbz zem rfl (zbu ta3 rfl (zaf rfl rfl (zaa rfl) (zeg h3 (zdz rfl rfl rfl)) (zac rfl (zbz zem rfl (zbu ta3 rfl (zaf rfl rfl (zat rfl rfl rfl) (zdc (by omega) (zb0 rfl rfl rfl)) (zac rfl (zac rfl (zbz zex rfl (zbu ta22 rfl (zaf rfl rfl (zat rfl rfl rfl) (zao rfl ts22 rfl) (zaf rfl rfl (zat rfl rfl rfl) (zeg h2 (zdz rfl rfl rfl)) (zac rfl (zac rfl (za4 rfl (za4 rfl (za4 rfl (za4 rfl (zac rfl (zac rfl (za4 rfl (za4 rfl (za4 rfl (zac rfl (zac rfl (za4 rfl ?_)))))))))))))))))))))))))))
   refine za4 rfl (za4 rfl (zac rfl (zac rfl (zad (zai ?_)))))
   (refine za7 ?_; repeat (first | refine zbc ?_ | refine zbe ?_))
   exact zb6 (.inr rfl) rfl (congrArg eB (hf (fun h => h2 (by omega))).symm)
 cases b1 with
 | true =>
  by_cases h3 : n.places ≤ 8
  ·
   refine zab (zbz zem rfl (zbu ta3 rfl (zaf rfl rfl (zaa rfl) (zdc h3 (zdz rfl rfl rfl)) (zac rfl (za4 rfl (za4 rfl (za4 rfl (zac rfl (zac rfl (zbz zex rfl (zbu ta22 rfl (zaf rfl rfl (zat rfl rfl rfl) (zao rfl ts22 rfl) (zaf rfl rfl (zat rfl rfl rfl) (zdc h2 (zdz rfl rfl rfl)) (zac rfl (zac rfl (zbz zex rfl (zbu ta22 rfl (zaf rfl rfl (zat rfl rfl rfl) (zam rfl rfl (hT) (zae rfl (zae rfl zap))) (zaf rfl rfl (zat rfl rfl rfl) (zbj rfl rfl) (zac rfl (zac rfl ?_)))))))))))))))))))))
   refine za4 rfl (za4 rfl (za4 rfl (zac rfl (zac rfl (za4 rfl (za4 rfl (za4 rfl (zac rfl (zac rfl (zad (zai ?_)))))))))))
   (refine za7 ?_; repeat (first | refine zbc ?_ | refine zbe ?_))
   exact zb6 (.inr rfl) rfl (congrArg eB (hf (fun h => absurd h.2.2.1 (by decide))).symm)
  ·
   refine zab (zbz zem rfl (zbu ta3 rfl (zaf rfl rfl (zaa rfl) (zeg h3 (zdz rfl rfl rfl)) (zac rfl (zbz zem rfl (zbu ta3 rfl (zaf rfl rfl (zat rfl rfl rfl) (zdc (by omega) (zb0 rfl rfl rfl)) (zac rfl (zac rfl (zbz zex rfl (zbu ta22 rfl (zaf rfl rfl (zat rfl rfl rfl) (zao rfl ts22 rfl) (zaf rfl rfl (zat rfl rfl rfl) (zdc h2 (zdz rfl rfl rfl)) (zac rfl (zac rfl (zbz zex rfl (zbu ta22 rfl (zaf rfl rfl (zat rfl rfl rfl) (zam rfl rfl (hT) (zae rfl (zae rfl zap))) ?_))))))))))))))))))
   refine zaf rfl rfl (zat rfl rfl rfl) (zbj rfl rfl) (zac rfl (zac rfl (za4 rfl (za4 rfl (za4 rfl (zac rfl (zac rfl (za4 rfl (za4 rfl (za4 rfl (zac rfl (zac rfl (zad (zai ?_))))))))))))))
   (refine za7 ?_; repeat (first | refine zbc ?_ | refine zbe ?_))
   exact zb6 (.inr rfl) rfl (congrArg eB (hf (fun h => absurd h.2.2.1 (by decide))).symm)
 | false =>
 by_cases h4 : (w.length : Int) ≤ 6
 rotate_left 1
 ·
  by_cases h3 : n.places ≤ 8
  ·
   refine zab (zbz zem rfl (zbu ta3 rfl (zaf rfl rfl (zaa rfl) (zdc h3 (zdz rfl rfl rfl)) (zac rfl (za4 rfl (za4 rfl (za4 rfl (zac rfl (zac rfl (zbz zex rfl (zbu ta22 rfl (zaf rfl rfl (zat rfl rfl rfl) (zao rfl ts22 rfl) (zaf rfl rfl (zat rfl rfl rfl) (zdc h2 (zdz rfl rfl rfl)) (zac rfl (zac rfl (zbz zex rfl (zbu ta22 rfl (zaf rfl rfl (zat rfl rfl rfl) (zam rfl rfl (hT) (zae rfl (zae rfl zap))) (zaf rfl rfl (zat rfl rfl rfl) (zbj rfl rfl) (zac rfl (zac rfl ?_)))))))))))))))))))))
   refine zac rfl (zaf rfl rfl (zat rfl rfl rfl) (zao rfl ts25 rfl) (zaf rfl rfl (zat rfl rfl rfl) (zeg h4 (zdz rfl rfl rfl)) (zac rfl (zac rfl (za4 rfl (za4 rfl (za4 rfl (zac rfl (zac rfl (zad (zai ?_)))))))))))
   (refine za7 ?_; repeat (first | refine zbc ?_ | refine zbe ?_))
   exact zb6 (.inr rfl) rfl (congrArg eB (hf (fun h => h4 (by omega))).symm)
  ·
   refine zab (zbz zem rfl (zbu ta3 rfl (zaf rfl rfl (zaa rfl) (zeg h3 (zdz rfl rfl rfl)) (zac rfl (zbz zem rfl (zbu ta3 rfl (zaf rfl rfl (zat rfl rfl rfl) (zdc (by omega) (zb0 rfl rfl rfl)) (zac rfl (zac rfl (zbz zex rfl (zbu ta22 rfl (zaf rfl rfl (zat rfl rfl rfl) (zao rfl ts22 rfl) (zaf rfl rfl (zat rfl rfl rfl) (zdc h2 (zdz rfl rfl rfl)) (zac rfl (zac rfl (zbz zex rfl (zbu ta22 rfl (zaf rfl rfl (zat rfl rfl rfl) (zam rfl rfl (hT) (zae rfl (zae rfl zap))) ?_))))))))))))))))))
   refine zaf rfl rfl (zat rfl rfl rfl) (zbj rfl rfl) (zac rfl (zac rfl (zac rfl (zaf rfl rfl (zat rfl rfl rfl) (zao rfl ts25 rfl) (zaf rfl rfl (zat rfl rfl rfl) (zeg h4 (zdz rfl rfl rfl)) (zac rfl (zac rfl (za4 rfl (za4 rfl (za4 rfl (zac rfl (zac rfl (zad (zai ?_))))))))))))))
   (refine za7 ?_; repeat (first | refine zbc ?_ | refine zbe ?_))
   exact zb6 (.inr rfl) rfl (congrArg eB (hf (fun h => h4 (by omega))).symm)
 cases b2 with
 | true =>
  by_cases h3 : n.places ≤ 8
  ·
   refine zab (zbz zem rfl (zbu ta3 rfl (zaf rfl rfl (zaa rfl) (zdc h3 (zdz rfl rfl rfl)) (zac rfl (za4 rfl (za4 rfl (za4 rfl (zac rfl (zac rfl (zbz zex rfl (zbu ta22 rfl (zaf rfl rfl (zat rfl rfl rfl) (zao rfl ts22 rfl) (zaf rfl rfl (zat rfl rfl rfl) (zdc h2 (zdz rfl rfl rfl)) (zac rfl (zac rfl (zbz zex rfl (zbu ta22 rfl (zaf rfl rfl (zat rfl rfl rfl) (zam rfl rfl (hT) (zae rfl (zae rfl zap))) (zaf rfl rfl (zat rfl rfl rfl) (zbj rfl rfl) (zac rfl (zac rfl ?_)))))))))))))))))))))
   refine zac rfl (zaf rfl rfl (zat rfl rfl rfl) (zao rfl ts25 rfl) (zaf rfl rfl (zat rfl rfl rfl) (zdc h4 (zdz rfl rfl rfl)) (zac rfl (zac rfl (zac rfl (zaf rfl rfl (zat rfl rfl rfl) (zam rfl rfl (hS) (zae rfl (zae rfl zap))) (zaf rfl rfl (zat rfl rfl rfl) (zbj rfl rfl) (zac rfl (zac rfl (zad (zai ?_)))))))))))
   (refine za7 ?_; repeat (first | refine zbc ?_ | refine zbe ?_))
   exact zb6 (.inr rfl) rfl (congrArg eB (hf (fun h => absurd h.2.2.2.2 (by decide))).symm)
  ·
   refine zab (zbz zem rfl (zbu ta3 rfl (zaf rfl rfl (zaa rfl) (zeg h3 (zdz rfl rfl rfl)) (zac rfl (zbz zem rfl (zbu ta3 rfl (zaf rfl rfl (zat rfl rfl rfl) (zdc (by omega) (zb0 rfl rfl rfl)) (zac rfl (zac rfl (zbz zex rfl (zbu ta22 rfl (zaf rfl rfl (zat rfl rfl rfl) (zao rfl ts22 rfl) (zaf rfl rfl (zat rfl rfl rfl) (zdc h2 (zdz rfl rfl rfl)) (zac rfl (zac rfl (zbz zex rfl (zbu ta22 rfl (zaf rfl rfl (zat rfl rfl rfl) (zam rfl rfl (hT) (zae rfl (zae rfl zap))) ?_))))))))))))))))))
   refine zaf rfl rfl (zat rfl rfl rfl) (zbj rfl rfl) (zac rfl (zac rfl (zac rfl (zaf rfl rfl (zat rfl rfl rfl) (zao rfl ts25 rfl) (zaf rfl rfl (zat rfl rfl rfl) (zdc h4 (zdz rfl rfl rfl)) (zac rfl (zac rfl (zac rfl (zaf rfl rfl (zat rfl rfl rfl) (zam rfl rfl (hS) (zae rfl (zae rfl zap))) (zaf rfl rfl (zat rfl rfl rfl) (zbj rfl rfl) (zac rfl (zac rfl (zad (zai ?_))))))))))))))
   (refine za7 ?_; repeat (first | refine zbc ?_ | refine zbe ?_))
   exact zb6 (.inr rfl) rfl (congrArg eB (hf (fun h => absurd h.2.2.2.2 (by decide))).symm)
 | false =>
  by_cases h3 : n.places ≤ 8
  ·
   refine zab (zbz zem rfl (zbu ta3 rfl (zaf rfl rfl (zaa rfl) (zdc h3 (zdz rfl rfl rfl)) (zac rfl (za4 rfl (za4 rfl (za4 rfl (zac rfl (zac rfl (zbz zex rfl (zbu ta22 rfl (zaf rfl rfl (zat rfl rfl rfl) (zao rfl ts22 rfl) (zaf rfl rfl (zat rfl rfl rfl) (zdc h2 (zdz rfl rfl rfl)) (zac rfl (zac rfl (zbz zex rfl (zbu ta22 rfl (zaf rfl rfl (zat rfl rfl rfl) (zam rfl rfl (hT) (zae rfl (zae rfl zap))) (zaf rfl rfl (zat rfl rfl rfl) (zbj rfl rfl) (zac rfl (zac rfl ?_)))))))))))))))))))))
   refine zac rfl (zaf rfl rfl (zat rfl rfl rfl) (zao rfl ts25 rfl) (zaf rfl rfl (zat rfl rfl rfl) (zdc h4 (zdz rfl rfl rfl)) (zac rfl (zac rfl (zac rfl (zaf rfl rfl (zat rfl rfl rfl) (zam rfl rfl (hS) (zae rfl (zae rfl zap))) (zaf rfl rfl (zat rfl rfl rfl) (zbj rfl rfl) (zac rfl (zac rfl (zad (zai ?_)))))))))))
   (refine za7 ?_; repeat (first | refine zbc ?_ | refine zbe ?_))
   exact zb6 (.inr rfl) rfl (congrArg eB (ht ⟨by omega, by omega, rfl, by omega, rfl⟩).symm)
  ·
   refine zab (zbz zem rfl (zbu ta3 rfl (zaf rfl rfl (zaa rfl) (zeg h3 (zdz rfl rfl rfl)) (zac rfl (zbz zem rfl (zbu ta3 rfl (zaf rfl rfl (zat rfl rfl rfl) (zdc (by omega) (zb0 rfl rfl rfl)) (zac rfl (zac rfl (zbz zex rfl (zbu ta22 rfl (zaf rfl rfl (zat rfl rfl rfl) (zao rfl ts22 rfl) (zaf rfl rfl (zat rfl rfl rfl) (zdc h2 (zdz rfl rfl rfl)) (zac rfl (zac rfl (zbz zex rfl (zbu ta22 rfl (zaf rfl rfl (zat rfl rfl rfl) (zam rfl rfl (hT) (zae rfl (zae rfl zap))) ?_))))))))))))))))))
   refine zaf rfl rfl (zat rfl rfl rfl) (zbj rfl rfl) (zac rfl (zac rfl (zac rfl (zaf rfl rfl (zat rfl rfl rfl) (zao rfl ts25 rfl) (zaf rfl rfl (zat rfl rfl rfl) (zdc h4 (zdz rfl rfl rfl)) (zac rfl (zac rfl (zac rfl (zaf rfl rfl (zat rfl rfl rfl) (zam rfl rfl (hS) (zae rfl (zae rfl zap))) (zaf rfl rfl (zat rfl rfl rfl) (zbj rfl rfl) (zac rfl (zac rfl (zad (zai ?_))))))))))))))
   (refine za7 ?_; repeat (first | refine zbc ?_ | refine zbe ?_))
   exact zb6 (.inr rfl) rfl (congrArg eB (ht ⟨by omega, by omega, rfl, by omega, rfl⟩).symm)
def fewB (p : Prf) : Bool := if p.st.length ≤ 80 ∧ p.pots.length ≤ 90 ∧ p.duals.length ≤ 30 ∧ p.st.any bigL = false then true else false
theorem few_pf (p : Prf) : Pure P 11 [ePf p] (eB (fewB p)) := by
 have hT := zmh (P := P) 46 [] bigL p.st (fun a => lo_I) (.fn _ _ zak) (fun a _ => z2i a)
 have ht : (p.st.length ≤ 80 ∧ p.pots.length ≤ 90 ∧ p.duals.length ≤ 30 ∧ p.st.any bigL = false) → fewB p = true := fun h => if_pos h
 have hf : ¬ (p.st.length ≤ 80 ∧ p.pots.length ≤ 90 ∧ p.duals.length ≤ 30 ∧ p.st.any bigL = false) → fewB p = false := fun h => if_neg h
 generalize p.st.any bigL = b1 at hT ht hf
 generalize fewB p = R at ht hf ⊢
 have hlp : Lo 0 (.ref (ePf p).cells) := ze2 p
 refine zcl (by rw [IsP.eq (P := P)]; exact Tryz.func11) rfl rfl rfl rfl rfl (zah (zij p) zak) (.s _) (by simp only [argF]; rfl) ?_
 refine zag (zab (zaf rfl rfl (zaa rfl) (zb3 rfl rfl rfl rfl) ?_))
 refine za6 (zbm (id := 0) rfl) (za6 (zcb (d := 1) rfl rfl rfl) ?_)
 refine zac rfl (zad (zag ?_))
 by_cases h1 : (p.st.length : Int) ≤ 80
 rotate_left 1
 ·
  refine zab (zbz zd6 rfl (zbu ta28 rfl (zaf rfl rfl (zaa rfl) (zao rfl ts28 rfl) (zaf rfl rfl (zaa rfl) (zeg h1 (zdz rfl rfl rfl)) (zac rfl (za4 rfl (za4 rfl (za4 rfl (za4 rfl (zac rfl (zac rfl (za4 rfl (za4 rfl (za4 rfl (za4 rfl (zac rfl (zac rfl (za4 rfl (za4 rfl (za4 rfl (za4 rfl (zac rfl (zac rfl (zad (zai ?_)))))))))))))))))))))))))
  (refine za7 ?_; repeat (first | refine zbc ?_ | refine zbe ?_))
  exact zb6 (.inr rfl) rfl (congrArg eB (hf (fun h => h1 (by omega))).symm)
 by_cases h2 : (p.pots.length : Int) ≤ 90
 rotate_left 1
 ·
  refine zab (zbz zd6 rfl (zbu ta28 rfl (zaf rfl rfl (zaa rfl) (zao rfl ts28 rfl) (zaf rfl rfl (zaa rfl) (zdc h1 (zdz rfl rfl rfl)) (zac rfl (zbz zbh rfl (zbu ta29 rfl (zaf rfl rfl (zat rfl rfl rfl) (zao rfl ts29 rfl) (zaf rfl rfl (zat rfl rfl rfl) (zeg h2 (zdz rfl rfl rfl)) (zac rfl (zac rfl (za4 rfl (za4 rfl (za4 rfl (za4 rfl (zac rfl (zac rfl (za4 rfl (za4 rfl (za4 rfl (za4 rfl (zac rfl (zac rfl (zad (zai ?_)))))))))))))))))))))))))
  (refine za7 ?_; repeat (first | refine zbc ?_ | refine zbe ?_))
  exact zb6 (.inr rfl) rfl (congrArg eB (hf (fun h => h2 (by omega))).symm)
 by_cases h3 : (p.duals.length : Int) ≤ 30
 rotate_left 1
 ·
  refine zab (zbz zd6 rfl (zbu ta28 rfl (zaf rfl rfl (zaa rfl) (zao rfl ts28 rfl) (zaf rfl rfl (zaa rfl) (zdc h1 (zdz rfl rfl rfl)) (zac rfl (zbz zbh rfl (zbu ta29 rfl (zaf rfl rfl (zat rfl rfl rfl) (zao rfl ts29 rfl) (zaf rfl rfl (zat rfl rfl rfl) (zdc h2 (zdz rfl rfl rfl)) (zac rfl (zac rfl (zbz zdu rfl (zbu ta30 rfl (zaf rfl rfl (zat rfl rfl rfl) (zao rfl ts30 rfl) (zaf rfl rfl (zat rfl rfl rfl) (zeg h3 (zdz rfl rfl rfl)) (zac rfl (zac rfl (za4 rfl (za4 rfl ?_)))))))))))))))))))
  refine za4 rfl (za4 rfl (zac rfl (zac rfl (zad (zai ?_)))))
  (refine za7 ?_; repeat (first | refine zbc ?_ | refine zbe ?_))
  exact zb6 (.inr rfl) rfl (congrArg eB (hf (fun h => h3 (by omega))).symm)
 cases b1 with
 | true =>
  refine zab (zbz zd6 rfl (zbu ta28 rfl (zaf rfl rfl (zaa rfl) (zao rfl ts28 rfl) (zaf rfl rfl (zaa rfl) (zdc h1 (zdz rfl rfl rfl)) (zac rfl (zbz zbh rfl (zbu ta29 rfl (zaf rfl rfl (zat rfl rfl rfl) (zao rfl ts29 rfl) (zaf rfl rfl (zat rfl rfl rfl) (zdc h2 (zdz rfl rfl rfl)) (zac rfl (zac rfl (zbz zdu rfl (zbu ta30 rfl (zaf rfl rfl (zat rfl rfl rfl) (zao rfl ts30 rfl) (zaf rfl rfl (zat rfl rfl rfl) (zdc h3 (zdz rfl rfl rfl)) (zac rfl (zac rfl (zbz zd6 rfl ?_))))))))))))))))))
  refine zbu ta28 rfl (zaf rfl rfl (zat rfl rfl rfl) (zam rfl rfl (hT) (zae rfl (zae rfl zap))) (zaf rfl rfl (zat rfl rfl rfl) (zbj rfl rfl) (zac rfl (zac rfl (zad (zai ?_))))))
  (refine za7 ?_; repeat (first | refine zbc ?_ | refine zbe ?_))
  exact zb6 (.inr rfl) rfl (congrArg eB (hf (fun h => absurd h.2.2.2 (by decide))).symm)
 | false =>
  refine zab (zbz zd6 rfl (zbu ta28 rfl (zaf rfl rfl (zaa rfl) (zao rfl ts28 rfl) (zaf rfl rfl (zaa rfl) (zdc h1 (zdz rfl rfl rfl)) (zac rfl (zbz zbh rfl (zbu ta29 rfl (zaf rfl rfl (zat rfl rfl rfl) (zao rfl ts29 rfl) (zaf rfl rfl (zat rfl rfl rfl) (zdc h2 (zdz rfl rfl rfl)) (zac rfl (zac rfl (zbz zdu rfl (zbu ta30 rfl (zaf rfl rfl (zat rfl rfl rfl) (zao rfl ts30 rfl) (zaf rfl rfl (zat rfl rfl rfl) (zdc h3 (zdz rfl rfl rfl)) (zac rfl (zac rfl (zbz zd6 rfl ?_))))))))))))))))))
  refine zbu ta28 rfl (zaf rfl rfl (zat rfl rfl rfl) (zam rfl rfl (hT) (zae rfl (zae rfl zap))) (zaf rfl rfl (zat rfl rfl rfl) (zbj rfl rfl) (zac rfl (zac rfl (zad (zai ?_))))))
  (refine za7 ?_; repeat (first | refine zbc ?_ | refine zbe ?_))
  exact zb6 (.inr rfl) rfl (congrArg eB (ht ⟨by omega, by omega, by omega, rfl⟩).symm)
theorem z1d : Pure P 22 [ePf zPf] (eB true) := by
 refine zcl (by rw [IsP.eq (P := P)]; exact Tryz.func22) rfl rfl rfl rfl rfl (zah (zij zPf) zak) (.s _) (by simp only [argF]; rfl) ?_
 refine zag (zab (zaf rfl rfl (zaa rfl) (zb3 rfl rfl rfl rfl) ?_))
 refine za6 (zbm (id := 0) rfl) (za6 (zcb (d := 1) rfl rfl rfl) ?_)
 refine zac rfl (zad (zag (zab (zbz zd6 rfl (zbu ta28 rfl (zaf rfl rfl (zaa rfl) (zao rfl ts28 rfl) (zaf rfl rfl (zaa rfl) (zdc rfl (zbn rfl rfl rfl)) (zac rfl (zbz zbh rfl (zbu ta29 rfl (zaf rfl rfl (zat rfl rfl rfl) (zao rfl ts29 rfl) (zaf rfl rfl (zat rfl rfl rfl) (zdc rfl (zbn rfl rfl rfl)) (zac rfl (zac rfl (zbz zdu rfl (zbu ta30 rfl (zaf rfl rfl (zat rfl rfl rfl) (zao rfl ts30 rfl) (zaf rfl rfl (zat rfl rfl rfl) (zdc rfl (zbn rfl rfl rfl)) (zac rfl ?_)))))))))))))))))))
 refine zac rfl (zad (zai ?_))
 (refine za7 ?_; repeat (first | refine zbc ?_ | refine zbe ?_))
 exact zb6 (.inr rfl) rfl rfl
end Aw
end Go.Proofs.YtjhdcgaiccnmeaaGreatDoor
