import Derived.Test.YtllkbjcemecmjaaJR12
import Derived.Test.YtllkbjcemecmjaaRows
import Derived.Test.YtllkbjcemecmjaaJR6
import Derived.Test.YtllkbjcemecmjaaJR5
import Derived.ProofKit
import Derived.Below
import Derived.ChangeShapes
import Derived.ChangeSame
import Derived.ChangeSlices
import Derived.DataReads
import Derived.Carry
set_option linter.unusedSimpArgs false
set_option linter.unusedVariables false
set_option linter.unusedSectionVars false
section
namespace Go.Proofs.Ytllkbjcemecmjaa.Aw
open Go Go.RowKit Go.Proofs
theorem vol_first {l : List Sft} : ∀ n, n ≤ l.length → vol (zc1 l.length) (zb7 l) n = prodF l n
 | 0, _ => rfl
 | n + 1, h => by
  have h0 : gti (zc1 l.length) n = 0 := by unfold zc1 gti; rw [List.getElem?_replicate, if_pos (by omega)]; rfl
  show vol (zc1 l.length) (zb7 l) n * (gti (zb7 l) n - gti (zc1 l.length) n + 1) = prodF l n * ((gti l n).most + 1)
  rw [vol_first n (by omega), h0, mostL_gti (by omega), Int.sub_zero]
theorem most0 {d : List Int} {l : List Sft} (hv : zb6 d l = true) : ∀ k, k < l.length → 0 ≤ (gti l k).most := fun k hk => by have := ((zb0 hv).2.2 k hk).1; omega
theorem bstR_good {d : List Int} {l : List Sft} {lim : Int} (hv : zb6 d l = true) (h1 : 1 ≤ lim) (h2 : lim ≤ 1048576) (hs : shE d l (zb7 l) < 0) (hp : prodF l l.length ≤ lim) (hq : prodF l l.length ≤ 10000) :
  ∃ c b, (srcE d l).1 = some c ∧ bstR d l lim = (⟨c, (srcE d l).2⟩, b, 0) ∧ chkE d l ⟨c, (srcE d l).2⟩ b = true := by
 obtain ⟨c, hc⟩ := srcE_some hv hs
 have hf := srcE_ok hv
 have hst := srcE_StO hv
 unfold FoldR at hf
 rw [hc] at hf
 obtain ⟨f1, f2, f3, f4⟩ := hf
 have hcn := cntB_allC.2 f1
 have hbx := first_box hv
 have hok := prvT_ok hv (K := (srcE d l).2) hst.2 (fun c' h1 h2 => f4 c' (cntB_allC.1 h1) h2) (boxM (zc1 l.length) (zb7 l) l.length + 1) 20000 (zc1 l.length) (zb7 l) (Nat.lt_succ_self _) hbx (fun k hk => by
  have h0 : gti (zc1 l.length) k = 0 := by unfold zc1 gti; rw [List.getElem?_replicate, if_pos hk]; rfl
  rw [h0, mostL_gti hk]
  exact ⟨most0 hv k hk, Int.le_refl _⟩) (by rw [vol_first l.length (Nat.le_refl _)]; omega)
 have hok2 : (bstT d l).2.1 = true ∧ _ ∧ ∀ m, 20000 ≤ m → rgtE d l (srcE d l).2 (bstT d l).1 (zc1 l.length) (zb7 l) m = (true, m - 20000 + (bstT d l).2.2) := hok
 have hck : chkE d l ⟨c, (srcE d l).2⟩ (bstT d l).1 = true := by
  unfold chkE
  rw [if_pos ⟨hv, hcn, f2, f3⟩, hok2.2.2 20000 (Int.le_refl _)]
 refine ⟨c, (bstT d l).1, hc, ?_, hck⟩
 unfold bstR
 have hal : allF l l.length ≤ prodF l l.length := by
  rw [allF_eq (most0 hv) _ (Nat.le_refl _), numF_eq (most0 hv) (by decide) _ (Nat.le_refl _)]; omega
 rw [if_neg (fun h => h hv), if_neg (by omega), if_neg (by omega), if_neg (by omega), hc]
 rw [if_pos ⟨hok2.1, hck⟩]; rfl
theorem bstR_none {d : List Int} {l : List Sft} {lim : Int} (hv : zb6 d l = true) (h1 : 1 ≤ lim) (h2 : lim ≤ 1048576) (hs : ¬ shE d l (zb7 l) < 0) : bstR d l lim = (⟨[], 0⟩, zBr, 17) := by
 unfold bstR
 rw [if_neg (fun h => h hv), if_neg (by omega), if_pos (by omega)]
variable {P : Program} [IsP P]
theorem none_pf : Pure P 13 [ePl ⟨[], 0⟩, .agg [eI 0, eI 0, .sl [], .sl []]] (eB true) := by
 refine zcu (by rw [IsP.eq (P := P)]; exact Try.func13) rfl rfl rfl rfl rfl (by repeat' (first | exact Lo.s _ | exact zak | refine zag ?_ ?_ | refine zan ?_ | refine Lo.agg _ ?_ | refine Lo.sl _ ?_ | intro _)) (.s _) (by simp only [argF]; rfl) ?_
 refine zah (zab (zaf rfl rfl (zaa rfl) (zb4 rfl rfl rfl rfl) ?_))
 refine za5 (zbs (id := 0) rfl) (za5 (zch (d := 2) rfl rfl rfl) ?_)
 refine zaf rfl rfl (zaa rfl) (zb4 rfl rfl rfl rfl) ?_
 refine za5 (zbs (id := 1) rfl) (za5 (zch (d := 3) rfl rfl rfl) ?_)
 refine zac rfl (zae (zah (zab (zb1 tf28_0 rfl (zby ta22 rfl (zaf rfl rfl (zaa rfl) (zao rfl ts22 rfl) (zaf rfl rfl (zaa rfl) (zds rfl (zbk rfl rfl rfl)) (zac rfl (zb1 tf28_1 rfl (zby ta3 rfl (zaf rfl rfl (zas rfl rfl rfl) (zds rfl (zbk rfl rfl rfl)) (zac rfl (zac rfl (zb1 tf32_2 rfl (zby ta29 rfl (zaf rfl rfl (zas rfl rfl rfl) (does_len_sl rfl ts29 rfl) (zaf rfl rfl (zas rfl rfl rfl) (zds rfl (zbk rfl rfl rfl)) (zac rfl (zac rfl (zb1 tf32_3 rfl (zby ta30 rfl (zaf rfl rfl (zas rfl rfl rfl) (does_len_sl rfl ts30 rfl) ?_))))))))))))))))))))))
 refine zaf rfl rfl (zas rfl rfl rfl) (zds rfl (zbk rfl rfl rfl)) (zac rfl (zac rfl (zb1 tf32_0 rfl (zby ta3 rfl (zaf rfl rfl (zas rfl rfl rfl) (zds rfl (zbk rfl rfl rfl)) (zac rfl (zac rfl (zb1 tf32_1 rfl (zby ta3 rfl (zaf rfl rfl (zas rfl rfl rfl) (zds rfl (zbk rfl rfl rfl)) (zac rfl (zac rfl (zae (zai ?_))))))))))))))
 (refine za8 ?_; repeat (first | refine zbg ?_ | refine zbh ?_))
 exact zcb (.inr rfl) rfl rfl
theorem numF_bd {l : List Sft} (h : ∀ k, k < l.length → 0 ≤ (gti l k).most) {L : Int} (hL : 0 ≤ L) : ∀ i, i ≤ l.length → 1 ≤ numF l L i ∧ numF l L i ≤ L + 1 := fun i hi => by
 rw [numF_eq h hL i hi]
 have := prodF_pos h i hi
 omega
set_option maxHeartbeats 1000000 in
theorem rNum_pf (d : List Int) (l : List Sft) (hv : zb6 d l = true) (L : Int) (hL : 0 ≤ L ∧ L ≤ 1000000) : Pure P 8 [eL eSh l, eI L] (eI (numF l L l.length)) := by
 obtain ⟨⟨q1, q2, q3⟩, qd, ql⟩ := zb0 hv
 refine zcu (by rw [IsP.eq (P := P)]; exact Try.func8) rfl rfl rfl rfl rfl (by repeat' (first | exact Lo.s _ | exact zak | refine zag ?_ ?_ | refine zan ?_ | refine Lo.agg _ ?_ | refine Lo.sl _ ?_ | intro _)) (.s _) (by simp only [argF]; rfl) ?_
 refine zah (zab (zac rfl (zae (zah (zab (zac rfl (zae (zah (zah (zab (zac rfl (zae (zai (zaw ?_))))))))))))))
 refine zca (S := Nat) (fun i => [(0, eL eSh l), (1, eI L), (5, eI (numF l L i)), (6, eI i)]) (fun _ => []) (fun i => i ≤ l.length) (fun i => l.length - i) 0
  (wk_sub _ ⟨rfl, rfl, rfl, rfl, trivial⟩) (Nat.zero_le _) (fun i hi => ?_)
 refine zah (zah (zab (zac rfl (zac rfl (zaf rfl rfl (zaa rfl) (zao rfl ts23 rfl) ?_)))))
 refine za3 rfl rfl (zaa rfl) (za4 rfl rfl rfl) (fun h10 => ?_) (fun h10 => ?_)
 all_goals refine zae (zai ?_)
 all_goals (first | refine za7 rfl ?_ | refine za1 rfl ?_)
 all_goals (repeat (first | refine zah ?_ | refine zat ?_ | refine zaw ?_))
 ·
  have hlt : i < l.length := by omega
  have hxl : (l.map eSh)[i]? = some (eSh (gti l i)) := zbd hlt
  have hm := (ql i hlt).1
  have hb := numF_bd (most0 hv) hL.1 i (by omega)
  have hmu : 0 ≤ numF l L i * ((gti l i).most + 1) ∧ numF l L i * ((gti l i).most + 1) ≤ 22000000 := ⟨Int.mul_nonneg (by omega) (by omega), by have := Int.mul_le_mul hb.2 (show (gti l i).most + 1 ≤ 21 by omega) (by omega) (by omega); omega⟩
  have hmin : (if numF l L i * ((gti l i).most + 1) < L + 1 then numF l L i * ((gti l i).most + 1) else L + 1) = numF l L (i + 1) := by
   show _ = min (L + 1) (numF l L i * ((gti l i).most + 1))
   rw [Int.min_def]; split <;> split <;> omega
  refine zab (zac rfl (zaf rfl rfl (zaa rfl) (zav rfl rfl rfl (IntWalk.i64_in _ (by omega))) (zac rfl (zac rfl (zac rfl (zaf rfl rfl (zaa rfl) (zal rfl ts23 ti39 rfl rfl rfl hxl rfl) (zb1 tf39_2 rfl (zby ta3 rfl (zaf rfl rfl (zaa rfl) (zav rfl rfl rfl (IntWalk.i64_in _ (by omega))) (zaf rfl rfl (zaa rfl) (does_mul rfl rfl rfl (IntWalk.i64_in _ (by omega))) (zaf rfl rfl (zaa rfl) (does_min rfl rfl rfl hmin) (zac rfl (zae (zbu (zai (zab (zac rfl (zaf rfl rfl (zaa rfl) (zav rfl rfl rfl (IntWalk.i64_in _ (by omega))) ?_))))))))))))))))))
  refine zac rfl (zae (zai ?_))
  exact ⟨i + 1, by omega, by omega, wk_sub _ ⟨rfl, rfl, rfl, rfl, trivial⟩⟩
 ·
  have ei : i = l.length := by omega
  subst ei
  (refine zcl ?_; repeat (first | refine zc3 ?_ | refine zb2 ?_ | refine zbq rfl ?_ | refine zbu ?_ | refine zai ?_ | refine zah ?_ | refine zat ?_ | refine zaw ?_))
  refine zab (zac rfl (zac rfl (zae (zai ?_))))
  (refine za8 ?_; repeat (first | refine zbg ?_ | refine zbh ?_))
  exact zcb (.inr rfl) rfl rfl
theorem ex_best : ∃ b, bstR exD exL 100 = (⟨[1, 1], 7⟩, b, 0) ∧ chkE exD exL ⟨[1, 1], 7⟩ b = true := by
 have hs : srcE exD exL = (some [1, 1], 7) := by kernel_rfl
 have hv : zb6 exD exL = true := by kernel_rfl
 have h1 : shE exD exL (zb7 exL) = -1 := by kernel_rfl
 have h2 : prodF exL exL.length = 9 := by kernel_rfl
 obtain ⟨c, b, g1, g2, g3⟩ := bstR_good (lim := 100) hv (by decide) (by decide) (by rw [h1]; decide) (by rw [h2]; decide) (by rw [h2]; decide)
 rw [hs] at g1 g2 g3
 cases g1
 exact ⟨b, g2, g3⟩
set_option maxHeartbeats 2000000 in
theorem awake54 : Pure P 5 [] (eB true) := by
 obtain ⟨b, hb1, hb2⟩ := ex_best
 have hbest := best_pf (P := P) exD exL 100
 rw [hb1] at hbest
 have hc1 := check_pf (P := P) exD exL ⟨[1, 1], 7⟩ b
 rw [hb2] at hc1
 obtain ⟨s1, t1, L1, y1⟩ := b
 have e3 : eR3 (⟨[1, 1], 7⟩, .mk s1 t1 L1 y1, 0) = .tup [ePl ⟨[1, 1], 7⟩, .agg [eI s1, eI t1, eL eBr L1, eL eF y1], eI 0] := by unfold eR3; rw [eBr_mk]
 rw [e3] at hbest
 have hlb : Lo 0 (.ref [eI s1, eI t1, eL eBr L1, eL eF y1]) := by have := lo_Br (.mk s1 t1 L1 y1); rw [eBr_mk] at this; exact .ref _ this.cells
 rw [eBr_mk] at hc1
 have hc2 := chk_ex (P := P) exY2 chk2
 refine zcu (by rw [IsP.eq (P := P)]; exact Try.func5) rfl rfl rfl rfl rfl (zak) (.s _) (by simp only [argF]; rfl) ?_
 refine zah (zab (zac rfl (zae (zah (zab (zaf rfl rfl (zaa rfl) (does_lit rfl ts22 ti3 rfl rfl (by decide) (by decide) (by decide) rfl rfl) ?_))))))
 refine za5 (zbs (id := 0) rfl) (za5 (wk_sl (d := 7) rfl rfl (by first | rfl | (simp; done) | (simp; omega))) ?_)
 refine zac rfl (zae (zah (zab (zaf rfl rfl (zaa rfl) (does_lit rfl ts22 ti3 rfl rfl (by decide) (by decide) (by decide) rfl rfl) ?_))))
 refine za5 (zbs (id := 1) rfl) (za5 (wk_sl (d := 8) rfl rfl (by first | rfl | (simp; done) | (simp; omega))) ?_)
 refine zaf rfl rfl (zaa rfl) (za6 rfl ti39 tp39 rfl rfl) (zaf rfl rfl (zaa rfl) (does_lit rfl ts22 ti3 rfl rfl (by decide) (by decide) (by decide) rfl rfl) ?_)
 refine za5 (zbs (id := 2) rfl) (za5 (wk_sl (d := 10) rfl rfl (by first | rfl | (simp; done) | (simp; omega))) ?_)
 refine zaf rfl rfl (zaa rfl) (za6 rfl ti39 tp39 rfl rfl) (zaf rfl rfl (zaa rfl) (does_lit rfl ts23 ti39 rfl rfl (by decide) (by decide) (by decide) rfl rfl) ?_)
 refine za5 (zbs (id := 3) rfl) (za5 (wk_sl (d := 12) rfl rfl (by first | rfl | (simp; done) | (simp; omega))) ?_)
 refine zac rfl (zae (zah ?_))
 refine zbi (F' := [(1, eL eI exD), (2, eL eSh exL)]) (σ' := []) (zck [] (by decide) trivial ⟨.lo _ (show Lo 0 (eL eI exD) from zan fun _ => .s _), .lo _ (show Lo 0 (eL eSh exL) from zan lo_Sh), trivial⟩) ?_
 refine zab (zac rfl (zac rfl (zaf rfl rfl (zaa rfl) (zam rfl rfl (hbest) (zad rfl (zad rfl (zad rfl zaq)))) (zac rfl (zac rfl (zac rfl (zac rfl (zaf rfl rfl (zaa rfl) (za0 rfl ti28 rfl rfl) (zaf rfl rfl (zaa rfl) (za0 rfl ti32 rfl rfl) (zbe rfl (zaa rfl) (zaj rfl ti28 rfl rfl rfl rfl rfl rfl (by decide) (by decide)) (zbe rfl (zaa rfl) (zaj rfl ti32 rfl rfl rfl rfl rfl rfl (by decide) (by decide)) (zac rfl (zae (zah ?_))))))))))))))
 refine zbi (zbs (id := 0) rfl) ?_
 refine zbi (zch (d := 3) rfl rfl rfl) ?_
 refine zbi (zbs (id := 1) rfl) ?_
 refine zbi (zch (d := 4) rfl rfl rfl) ?_
 refine zab (zaf rfl rfl (zaa rfl) (za6 rfl ti51 tp51 rfl rfl) (zaf rfl rfl (zaa rfl) (za6 rfl ti51 tp51 rfl rfl) (zaf rfl rfl (zaa rfl) (za6 rfl ti51 tp51 rfl rfl) (zaf rfl rfl (zaa rfl) (does_lit rfl ts30 ti51 rfl rfl (by decide) (by decide) (by decide) rfl rfl) ?_))))
 refine za5 (zbs (id := 2) rfl) (za5 (wk_sl (d := 23) rfl rfl (by first | rfl | (simp; done) | (simp; omega))) ?_)
 refine zac rfl (zae (zah ?_))
 refine zbi (F' := [(1, eL eI exD), (2, eL eSh exL), (3, .ref (ePl ⟨[1, 1], 7⟩).cells), (4, .ref [eI s1, eI t1, eL eBr L1, eL eF y1]), (5, eI 0), (6, eL eF exY2)]) (σ' := []) (zck [] (by decide) trivial ⟨.lo _ (show Lo 0 (eL eI exD) from zan fun _ => .s _), .lo _ (show Lo 0 (eL eSh exL) from zan lo_Sh), .lo _ (by repeat' (first | exact Lo.s _ | exact zak | refine zag ?_ ?_ | refine zan ?_ | refine Lo.cells ?_ | refine Lo.agg _ ?_ | refine Lo.ref _ ?_ | refine Lo.tup _ ?_ | refine Lo.fn _ _ ?_ | refine Lo.sl _ ?_ | intro _)), .lo _ hlb, .lo _ (.s _), .lo _ (show Lo 0 (eL eF exY2) from lo_Fs _), trivial⟩) ?_
 refine zab (zac rfl (zaf rfl rfl (zaa rfl) (zds rfl (zbk rfl rfl rfl)) (zac rfl (zb1 tf28_0 rfl (zby ta22 rfl (zaf rfl rfl (zas rfl rfl rfl) (does_lit rfl ts22 ti3 rfl rfl (by decide) (by decide) (by decide) rfl rfl) ?_))))))
 refine za5 (zbs (id := 0) rfl) (za5 (wk_sl (d := 29) rfl rfl (by first | rfl | (simp; done) | (simp; omega))) ?_)
 refine zaf rfl rfl (zas rfl rfl rfl) (zam rfl rfl ((equalSelf_pf [1, 1])) (zad rfl (zad rfl zaq))) (zac rfl (zac rfl (zb1 tf28_1 rfl (zby ta3 rfl (zaf rfl rfl (zas rfl rfl rfl) (zds rfl (zbk rfl rfl rfl)) (zac rfl (zac rfl (zac rfl (zac rfl (zc5 ta28 ti28 rfl (zc5 ta32 ti32 rfl (zaf rfl rfl (zas rfl rfl rfl) (zam rfl rfl (hc1) (zad rfl (zad rfl (zad rfl (zad rfl zaq))))) (zac rfl (zac rfl (zac rfl (zac rfl (zc5 ta28 ti28 rfl (zac rfl (zaf rfl rfl (zas rfl rfl rfl) (za6 rfl ti32 tp32 rfl rfl) ?_)))))))))))))))))))
 refine zaf rfl rfl (zas rfl rfl rfl) (does_callb rfl rfl hc2 (zbb.cons (.refl _) (zbb.cons (.refl _) (zbb.cons (.refl _) (zbb.cons (.agg _ _ rfl (zbb.cons (.refl _) (zbb.cons (.refl _) (zbb.cons .nil (zbb.cons (.refl _) zbb.nil)))).2) zbb.nil)))) (by repeat' (first | exact Flat.s _ | exact flat_nil | refine flat_cons ?_ ?_ | refine Flat.agg ?_ | refine Flat.tup ?_))) ?_
 refine zac rfl (zac rfl (zae (zai ?_)))
 (refine za8 ?_; repeat (first | refine zbg ?_ | refine zbh ?_))
 exact zcb (.inr rfl) rfl rfl
end Go.Proofs.Ytllkbjcemecmjaa.Aw
end
section
namespace Go.Proofs.Ytllkbjcemecmjaa.Aw
theorem numF_prodF {d : List Int} {l : List Sft} (hv : zb6 d l = true) {L : Int} (hL : 0 ≤ L) (h : numF l L l.length ≤ L) : prodF l l.length ≤ L := by
 rw [numF_eq (most0 hv) hL _ (Nat.le_refl _)] at h
 omega
end Go.Proofs.Ytllkbjcemecmjaa.Aw
end
section
namespace Go.Proofs.Ytllkbjcemecmjaa.Aw
open Go Go.RowKit Go.Proofs
theorem sumR_swap (f : Nat → Nat → Rat) (m : Nat) : ∀ n, sumR (fun i => sumR (f i) m) n = sumR (fun j => sumR (fun i => f i j) n) m
 | 0 => by
  have : (fun j => sumR (fun i => f i j) 0) = fun _ => 0 := rfl
  rw [this, sumR_zero]; rfl
 | n + 1 => by
  show sumR (fun i => sumR (f i) m) n + sumR (f n) m = sumR (fun j => sumR (fun i => f i j) n + f n j) m
  rw [sumR_swap f m n, ← sumR_add]
theorem weak_dual {A : Nat → Nat → Rat} {b y x C : Nat → Rat} {m n : Nat} (hx : ∀ j, j < n → 0 ≤ x j) (hu : ∀ j, j < n → sumR (fun i => A i j * y i) m ≤ C j) (hs : ∀ i, i < m → y i * b i ≤ y i * sumR (fun j => A i j * x j) n) :
  sumR (fun i => b i * y i) m ≤ sumR (fun j => C j * x j) n := by
 have e1 : sumR (fun i => b i * y i) m ≤ sumR (fun i => sumR (fun j => y i * (A i j * x j)) n) m := sumR_le fun i hi => by
  rw [sumR_mul]
  have := hs i hi
  grind
 rw [sumR_swap] at e1
 refine Rat.le_trans e1 (sumR_le fun j hj => ?_)
 have e2 : sumR (fun i => y i * (A i j * x j)) m = x j * sumR (fun i => A i j * y i) m := by
  rw [← sumR_mul]
  exact sumR_congr fun i _ => by grind
 rw [e2]
 have := Rat.mul_le_mul_of_nonneg_left (hu j hj) (hx j hj)
 grind
theorem undF_val {p : LP} {y most : List Fr} (hm : ∀ k, k < p.c.length → (gti most k).ok) : ∀ n k, k + n = p.c.length → (undF p y most n k).1 = true → ∀ j, k ≤ j → j < p.c.length → sumR (fun i => val (gti (gti p.a i) j) * val (gti y i)) p.a.length ≤ val (gti most j)
 | 0, k, h, _, j, h1, h2 => by omega
 | n + 1, k, h, hu, j, h1, h2 => by
  rw [undF] at hu
  by_cases he : (dotE (colL p k) y).e ≠ 0
  ·
   rw [if_pos he] at hu; cases hu
  ·
   rw [if_neg he] at hu
   by_cases hr : relC (cmpE ⟨(dotE (colL p k) y).n, (dotE (colL p k) y).d⟩ (gti most k)).1 1 = true
   ·
    rw [if_pos hr] at hu
    by_cases e : j = k
    ·
     subst e
     have hd := dotE_val (Decidable.not_not.1 he)
     have ho := dotE_ok (Decidable.not_not.1 he)
     rw [cmpE_ok ho (hm j h2)] at hr
     unfold relC at hr
     rw [if_pos rfl, decide_eq_true_eq] at hr
     have h3 := (cmpN_le ho (hm j h2)).1 hr
     rw [hd.2, colL_len] at h3
     have e2 : sumR (fun i => val (gti (gti p.a i) j) * val (gti y i)) p.a.length = sumR (fun k => val (gti (colL p j) k) * val (gti y k)) p.a.length := sumR_congr fun i hi => by rw [colL_gti hi]
     rw [e2]; exact h3
    ·
     exact undF_val hm n (k + 1) (by omega) hu j (by omega) h2
   ·
    rw [if_neg hr] at hu; cases hu
def RowS (l : List Sft) (c : List Int) (t : Tr) : Prop := t.1.length = l.length ∧ (∀ x ∈ t.1, x.ok) ∧ 0 ≤ t.2.2 ∧ t.2.2 ≤ 100 ∧
 ((t.2.1 = 2 ∧ ((t.2.2 : Int) : Rat) ≤ sumR (fun j => val (gti t.1 j) * ((gti c j : Int) : Rat)) l.length) ∨ (t.2.1 = 1 ∧ sumR (fun j => val (gti t.1 j) * ((gti c j : Int) : Rat)) l.length ≤ ((t.2.2 : Int) : Rat)))
theorem unit_ok (n : Nat) (f : Nat → Bool) : ∀ x ∈ unitL n f, x.ok := fun x hx => by
 unfold unitL at hx
 obtain ⟨i, _, rfl⟩ := List.mem_map.1 hx
 split <;> exact iof_ok (by decide) (by decide)
theorem uD_sum (l : List Sft) (c : List Int) (k : Nat) : ∀ n, n ≤ l.length → sumR (fun j => val (gti (uD l k) j) * ((gti c j : Int) : Rat)) n = ((cvP l c n k : Int) : Rat)
 | 0, _ => rfl
 | n + 1, h => by
  show sumR (fun j => val (gti (uD l k) j) * ((gti c j : Int) : Rat)) n + val (gti (uD l k) n) * ((gti c n : Int) : Rat) = ((cvP l c n k + if inB (gti l n).pd k = true then gti c n else 0 : Int) : Rat)
  rw [uD_sum l c k n (by omega)]
  unfold uD
  rw [unitL_gti (by omega), val_of]
  split <;> push_cast <;> grind
theorem uK_sum (l : List Sft) (c : List Int) (k : Nat) : ∀ n, n ≤ l.length → sumR (fun j => val (gti (uK l k) j) * ((gti c j : Int) : Rat)) n = if k < n then ((gti c k : Int) : Rat) else 0
 | 0, _ => rfl
 | n + 1, h => by
  show sumR (fun j => val (gti (uK l k) j) * ((gti c j : Int) : Rat)) n + val (gti (uK l k) n) * ((gti c n : Int) : Rat) = _
  rw [uK_sum l c k n (by omega)]
  unfold uK
  rw [unitL_gti (by omega), val_of]
  have e : (if decide (n = k) = true then (1 : Int) else 0) = if n = k then 1 else 0 := by by_cases h : n = k <;> simp [h]
  rw [e]
  by_cases h1 : n = k
  ·
   subst h1
   rw [if_neg (show ¬ n < n by omega), if_pos rfl, if_pos (show n < n + 1 by omega)]
   push_cast; grind
  ·
   rw [if_neg h1]
   by_cases h2 : k < n
   ·
    rw [if_pos h2, if_pos (show k < n + 1 by omega)]; push_cast; grind
   ·
    rw [if_neg h2, if_neg (show ¬ k < n + 1 by omega)]; push_cast; grind
theorem rows_ok {d : List Int} {l : List Sft} (hv : zb6 d l = true) {c : List Int} (hc : c ∈ allC l) (hs : shE d l c < 0) : ∀ n, n ≤ l.length → ∀ t ∈ t2 d l (zc1 l.length) (zb7 l) n, RowS l c t := by
 obtain ⟨⟨q1, q2, q3⟩, qd, ql⟩ := zb0 hv
 have hcv := fun p hp => shF_cov d l c d.length 0 hs p (Nat.zero_le _) hp
 obtain ⟨hcl, hcb⟩ := (mem_allC l c).1 hc
 have h1 : ∀ n, n ≤ d.length → ∀ t ∈ t1 d l n, RowS l c t := by
  intro n
  induction n with
  | zero => intro _ t ht; simp [t1] at ht
  | succ n ih =>
   intro hn t ht
   unfold t1 at ht
   rcases List.mem_append.1 ht with ht | ht
   ·
    exact ih (by omega) t ht
   ·
    split at ht
    ·
     simp only [List.mem_singleton] at ht
     subst ht
     have hb := qd n (by omega)
     refine ⟨unitL_len _ _, unit_ok _ _, hb.1, hb.2, .inl ⟨rfl, ?_⟩⟩
     show ((gti d n : Int) : Rat) ≤ sumR (fun j => val (gti (uD l n) j) * ((gti c j : Int) : Rat)) l.length
     rw [uD_sum l c n l.length (Nat.le_refl _)]
     exact_mod_cast hcv n (by omega)
    ·
     simp at ht
 intro n
 induction n with
 | zero => intro _ t ht; exact h1 d.length (Nat.le_refl _) t ht
 | succ n ih =>
  intro hn t ht
  have h0 : gti (zc1 l.length) n = 0 := by unfold zc1 gti; rw [List.getElem?_replicate, if_pos (by omega)]; rfl
  unfold t2 at ht
  rw [h0, if_neg (by omega), List.append_nil] at ht
  rcases List.mem_append.1 ht with ht | ht
  ·
   exact ih (by omega) t ht
  ·
   simp only [List.mem_singleton] at ht
   subst ht
   have hb := hcb n (by omega)
   have hm := (ql n (by omega)).1
   refine ⟨unitL_len _ _, unit_ok _ _, by show 0 ≤ gti (zb7 l) n; rw [mostL_gti (by omega)]; omega, by show gti (zb7 l) n ≤ 100; rw [mostL_gti (by omega)]; omega, .inr ⟨rfl, ?_⟩⟩
   show sumR (fun j => val (gti (uK l n) j) * ((gti c j : Int) : Rat)) l.length ≤ ((gti (zb7 l) n : Int) : Rat)
   rw [uK_sum l c n l.length (Nat.le_refl _), if_pos (by omega), mostL_gti (by omega)]
   exact_mod_cast hb.2
theorem gti_mapF {α β : Type} [Inhabited α] [Inhabited β] {f : α → β} {l : List α} {k : Nat} (h : k < l.length) : gti (l.map f) k = f (gti l k) := by
 unfold gti
 rw [List.getElem?_map, List.getElem?_eq_getElem h]; rfl
theorem t2_pos {d : List Int} {l : List Sft} (h : l ≠ []) : 1 ≤ (t2 d l (zc1 l.length) (zb7 l) l.length).length := by
 cases l with
 | nil => exact absurd rfl h
 | cons s l =>
  show 1 ≤ (t2 d (s :: l) _ _ (l.length + 1)).length
  unfold t2
  simp
  omega
theorem prg_valid {d : List Int} {l : List Sft} (hv : zb6 d l = true) (hl : l ≠ []) (h12 : (prgE d l (zc1 l.length) (zb7 l)).a.length ≤ 12) {c : List Int} (hc : c ∈ allC l) (hs : shE d l c < 0) : validP (prgE d l (zc1 l.length) (zb7 l)) = true := by
 obtain ⟨⟨q1, q2, q3⟩, qd, ql⟩ := zb0 hv
 have hr := rows_ok hv hc hs l.length (Nat.le_refl _)
 have hp := t2_pos (d := d) hl
 have hlp : 1 ≤ l.length := by cases l with | nil => exact absurd rfl hl | cons s l => simp
 unfold prgE at h12 ⊢
 generalize t2 d l (zc1 l.length) (zb7 l) l.length = T at hr hp h12 ⊢
 have e1 : (tA T).length = T.length := by simp [tA]
 have e2 : (tR T).length = T.length := by simp [tR]
 have e3 : (tB T).length = T.length := by simp [tB]
 dsimp only at h12
 refine validP_t ?_ (fun j hj => ?_)
 ·
  unfold headB
  dsimp only
  have f1 : fineB (costL l) (costL l).length = true := by
   unfold fineB
   rw [Bool.and_eq_true, decide_eq_true_eq]
   refine ⟨rfl, List.all_eq_true.2 fun x hx => ?_⟩
   unfold costL at hx
   obtain ⟨s, hs', rfl⟩ := List.mem_map.1 hx
   obtain ⟨i, hi, rfl⟩ := List.mem_iff_getElem.1 hs'
   have hq := (ql i hi).1
   have eg : gti l i = l[i] := by unfold gti; rw [List.getElem?_eq_getElem hi]; rfl
   rw [eg] at hq
   exact Fr.okB_of (iof_ok (by omega) (by omega))
  have f2 : fineB (tB T) (tA T).length = true := by
   unfold fineB
   rw [Bool.and_eq_true, decide_eq_true_eq, e1, e3]
   refine ⟨rfl, List.all_eq_true.2 fun x hx => ?_⟩
   unfold tB at hx
   obtain ⟨t, ht, rfl⟩ := List.mem_map.1 hx
   obtain ⟨_, _, g3, g4, _⟩ := hr t ht
   exact Fr.okB_of (iof_ok (by omega) (by omega))
  rw [f1, f2, costL_len, e1, e2]
  simp only [Bool.and_true, Bool.and_eq_true, decide_eq_true_eq]
  rw [e1] at h12
  exact ⟨⟨⟨⟨hlp, q3⟩, hp⟩, h12⟩, trivial⟩
 ·
  dsimp only at hj
  rw [e1] at hj
  obtain ⟨g1, g2, _, _, g5⟩ := hr (gti T j) (zdm hj)
  unfold rowB fineB relB
  dsimp only
  have ea : gti (tA T) j = (gti T j).1 := gti_mapF hj
  have er : gti (tR T) j = (gti T j).2.1 := gti_mapF hj
  rw [ea, er, costL_len, g1]
  rw [Bool.and_eq_true, Bool.and_eq_true, decide_eq_true_eq, decide_eq_true_eq]
  refine ⟨⟨rfl, List.all_eq_true.2 fun x hx => Fr.okB_of (g2 x hx)⟩, ?_⟩
  rcases g5 with g | g
  ·
   exact .inr (.inl g.1)
  ·
   exact .inl g.1
theorem sgn_row {r : Int} {a : Fr} {b s : Rat} (ha : a.ok) (hs : sgnB r a = true) (h : (r = 2 ∧ b ≤ s) ∨ (r = 1 ∧ s ≤ b)) : val a * b ≤ val a * s := by
 unfold sgnB at hs
 rw [decide_eq_true_eq] at hs
 rcases h with ⟨rfl, h⟩ | ⟨rfl, h⟩
 ·
  exact Rat.mul_le_mul_of_nonneg_left h (val_nn ⟨ha, by omega⟩)
 ·
  have h1 : 0 ≤ val (fneg a) := val_nn ⟨fneg_ok ha, by show 0 ≤ -a.n; omega⟩
  rw [val_neg] at h1
  have := Rat.mul_le_mul_of_nonneg_left h h1
  grind
theorem relaxed {d : List Int} {l : List Sft} (hv : zb6 d l = true) (hl : l ≠ []) (h12 : (prgE d l (zc1 l.length) (zb7 l)).a.length ≤ 12) {c : List Int} (hc : c ∈ allC l) (hs : shE d l c < 0) {s : Sol} (hk : checkB (prgE d l (zc1 l.length) (zb7 l)) s = true) :
  s.kind = 1 ∧ s.v.ok ∧ cmpN s.v (Fr.of (prcP l c l.length)) ≤ 0 := by
 obtain ⟨⟨q1, q2, q3⟩, qd, ql⟩ := zb0 hv
 have hvp := prg_valid hv hl h12 hc hs
 have hr := rows_ok hv hc hs l.length (Nat.le_refl _)
 obtain ⟨hcl, hcb⟩ := (mem_allC l c).1 hc
 have hokc : okC l c := ⟨hcl, q3, fun k hk => by have := hcb k hk; have := (ql k hk).1; omega⟩
 have hpr := prcP_bd hv hokc l.length (Nat.le_refl _)
 have hx : ∀ j, j < l.length → (0 : Rat) ≤ ((gti c j : Int) : Rat) := fun j hj => by exact_mod_cast (hcb j hj).1
 unfold checkB at hk
 rw [if_pos hvp] at hk
 unfold prgE at hk
 generalize t2 d l (zc1 l.length) (zb7 l) l.length = T at hr hk
 have e1 : (tA T).length = T.length := by simp [tA]
 have e3 : (tB T).length = T.length := by simp [tB]
 have dual : ∀ (y : List Fr) (most : List Fr), fineB y (tA T).length = true → signsB ⟨costL l, tA T, tR T, tB T⟩ y = true → (∀ k, k < l.length → (gti most k).ok) → (undR ⟨costL l, tA T, tR T, tB T⟩ y most).1 = true → (dotE (tB T) y).e = 0 →
   val ⟨(dotE (tB T) y).n, (dotE (tB T) y).d⟩ ≤ sumR (fun j => val (gti most j) * ((gti c j : Int) : Rat)) l.length := by
  intro y most hy hsg hmo hun hde
  unfold fineB at hy
  rw [Bool.and_eq_true, decide_eq_true_eq, e1] at hy
  have hyl : y.length = T.length := by exact_mod_cast hy.1
  have hyo : ∀ i, i < T.length → (gti y i).ok := fun i hi => (Fr.okB_iff _).1 (List.all_eq_true.1 hy.2 _ (zdm (by omega)))
  rw [(dotE_val hde).2, e3]
  have hu := undF_val (p := ⟨costL l, tA T, tR T, tB T⟩) (y := y) (most := most) (by rw [costL_len]; exact hmo) (costL l).length 0 (Nat.zero_add _) hun
  refine weak_dual (A := fun i j => val (gti (gti (tA T) i) j)) (b := fun i => val (gti (tB T) i)) (y := fun i => val (gti y i)) (x := fun j => ((gti c j : Int) : Rat)) (C := fun j => val (gti most j)) hx (fun j hj => ?_) (fun i hi => ?_)
  ·
   have := hu j (Nat.zero_le _) (by show j < (costL l).length; rw [costL_len]; exact hj)
   dsimp only at this
   rw [e1] at this
   exact this
  ·
   have hsi := List.all_eq_true.1 hsg i (by rw [List.mem_range]; omega)
   have ea : gti (tA T) i = (gti T i).1 := gti_mapF hi
   have er : gti (tR T) i = (gti T i).2.1 := gti_mapF hi
   have eb : gti (tB T) i = Fr.of (gti T i).2.2 := gti_mapF hi
   obtain ⟨_, _, _, _, g5⟩ := hr (gti T i) (zdm hi)
   rw [ea, eb, val_of]
   replace hsi : sgnB (gti (tR T) i) (gti y i) = true := hsi
   rw [er] at hsi
   exact sgn_row (hyo i hi) hsi g5
 by_cases k1 : s.kind = 1
 ·
  rw [if_pos k1] at hk
  obtain ⟨h1, h2, h3, h4, h5, h6, h7, h8, h9⟩ := cl_t hk
  have hd := dual s.y (costL l) h2 h3 (fun k hk => by
   rw [costL_gti hk]
   have := (ql k hk).1
   exact iof_ok (by omega) (by omega)) h5 h7
  have hvo := dotE_ok h7
  have ev : s.v = ⟨(dotE (tB T) s.y).n, (dotE (tB T) s.y).d⟩ := by
   obtain ⟨a, b⟩ := h8
   obtain ⟨a', b'⟩ := h9
   cases hs' : s.v with
   | mk n dd =>
    rw [hs'] at a' b'
    dsimp only at a' b' a b ⊢
    rw [a', b', a, b]
  rw [ev]
  refine ⟨k1, hvo, (cmpN_le hvo (iof_ok (by omega) (by omega))).2 ?_⟩
  rw [val_of]
  refine Rat.le_trans hd ?_
  rw [prcP_val]
  exact sumR_le fun j hj => by rw [costL_gti hj, val_of]; exact Rat.le_refl
 ·
  rw [if_neg k1] at hk
  exfalso
  by_cases k2 : s.kind = 2
  ·
   rw [if_pos k2] at hk
   obtain ⟨h1, h2, h3, h4, h5, h6, h7, h8⟩ := cl_t hk
   replace h8 : (dotE (tB T) s.y).n > 0 := h8
   have hz : ∀ k, k < l.length → gti (za9 (costL l).length) k = Fr.of 0 := fun k hk => by
    unfold za9 gti
    rw [costL_len, List.getElem?_replicate, if_pos hk]; rfl
   have hd := dual s.y (za9 (costL l).length) h4 h5 (fun k hk => by rw [hz k hk]; exact iof_ok (by decide) (by decide)) h6 h7
   have hvo := dotE_ok h7
   have e0 : sumR (fun j => val (gti (za9 (costL l).length) j) * ((gti c j : Int) : Rat)) l.length = 0 := by
    rw [sumR_congr (g := fun _ => 0) (fun j hj => by rw [hz j hj, val_of]; push_cast; grind), sumR_zero]
   rw [e0] at hd
   have h00 : ((0 : Int) : Rat) = 0 := rfl
   have := (cmpN_le hvo (iof_ok (n := 0) (by decide) (by decide))).2 (by rw [val_of, h00]; exact hd)
   unfold cmpN Fr.of at this
   dsimp only at this
   rw [Int.mul_one, Int.zero_mul] at this
   split at this
   ·
    omega
   ·
    first | omega | (split at this <;> omega)
  ·
   rw [if_neg k2] at hk
   by_cases k3 : s.kind = 3
   ·
    rw [if_pos k3] at hk
    obtain ⟨h1, h2, h3, h4, h5, h6, h7, h8⟩ := cl_t hk
    replace h8 : (dotE (costL l) s.ray).n < 0 := h8
    have hvo := dotE_ok h7
    have hdv := dotE_val h7
    unfold fineB at h4
    rw [Bool.and_eq_true, decide_eq_true_eq] at h4
    have hnn : ∀ x ∈ s.ray, 0 ≤ x.n := fun x hx => by
     unfold metE at h5
     split at h5
     ·
      cases h5
     ·
      rename_i hn
      have := List.any_eq_false.1 (by simpa using hn) x hx
      unfold negB at this
      simp at this
      exact this
    have hge : 0 ≤ val ⟨(dotE (costL l) s.ray).n, (dotE (costL l) s.ray).d⟩ := by
     rw [hdv.2]
     refine sumR_nn fun i hi => ?_
     rw [costL_len] at hi
     rw [costL_gti hi, val_of]
     have hq := (ql i hi).1
     have a1 : (0 : Rat) ≤ (((gti l i).cost : Int) : Rat) := by exact_mod_cast hq.2.1
     have hm : gti s.ray i ∈ s.ray := zdm (by have := hdv.1; rw [costL_len] at this; omega)
     have a2 := val_nn ⟨(Fr.okB_iff _).1 (List.all_eq_true.1 h4.2 _ hm), hnn _ hm⟩
     exact Rat.mul_nonneg a1 a2
    have h00 : ((0 : Int) : Rat) = 0 := rfl
    have := (cmpN_le (iof_ok (n := 0) (by decide) (by decide)) hvo).2 (by rw [val_of, h00]; exact hge)
    unfold cmpN Fr.of at this
    dsimp only at this
    rw [Int.mul_one, Int.zero_mul] at this
    split at this
    ·
     omega
    ·
     first | omega | (split at this <;> omega)
   ·
    rw [if_neg k3] at hk; cases hk
end Go.Proofs.Ytllkbjcemecmjaa.Aw
end
section
namespace Go.Proofs.Ytllkbjcemecmjaa.Aw
open Go Go.RowKit Go.Proofs
variable {P : Program} [IsP P]
theorem eR3_mk (c : List Int) (k s t : Int) (L : List Br) (y : List Fr) (e : Int) : eR3 (⟨c, k⟩, .mk s t L y, e) = .tup [.agg [eL eI c, eI k], .agg [eI s, eI t, eL eBr L, eL eF y], eI e] := by unfold eR3; rw [eBr_mk]; rfl
end Go.Proofs.Ytllkbjcemecmjaa.Aw
end
section
namespace Go.Proofs.Ytllkbjcemecmjaa.Aw
open Go Go.RowKit Go.Proofs
variable {P : Program} [IsP P]
set_option maxHeartbeats 16000000 in
theorem lawRelaxed_pf (d : List Int) (l : List Sft) : Pure P 4 [eL eI d, eL eSh l] (eB true) := by
 have hfew := few_pf (P := P) d l
 have hval := qValid_pf54 (P := P) d l
 refine zcu (by rw [IsP.eq (P := P)]; exact Try.func4) rfl rfl rfl rfl rfl (zag (zan fun _ => .s _) (zag (zan lo_Sh) zak)) (.s _) (by simp only [argF]; rfl) ?_
 refine zah (zab (zac rfl (zae (zah (zah (zab (zaf rfl rfl (zaa rfl) (zam rfl rfl (awake54) zaq) (zaf rfl rfl (zaa rfl) (zbv rfl rfl) (zae (zai (za1 rfl (zat (zah (zah ?_))))))))))))))
 cases hf : fewB d l with
 | false =>
  rw [hf] at hfew
  refine zab (zac rfl (zac rfl (zaf rfl rfl (zaa rfl) (zam rfl rfl (hfew) (zad rfl (zad rfl zaq))) (zaf rfl rfl (zaa rfl) (zbv rfl rfl) (zac rfl (zay rfl (zay rfl (zay rfl (zay rfl (zac rfl (zac rfl (zay rfl (zay rfl (zay rfl (zac rfl (zae (zai (za7 rfl (zah (zab (zac rfl (zae (zai ?_)))))))))))))))))))))))
  (refine za8 ?_; repeat (first | refine zbg ?_ | refine zbh ?_))
  exact zcb (.inr rfl) rfl rfl
 | true =>
 rw [hf] at hfew
 cases hv : zb6 d l with
 | false =>
  rw [hv] at hval
  refine zab (zac rfl (zac rfl (zaf rfl rfl (zaa rfl) (zam rfl rfl (hfew) (zad rfl (zad rfl zaq))) (zaf rfl rfl (zaa rfl) (zbv rfl rfl) (zac rfl (zac rfl (zac rfl (zaf rfl rfl (zas rfl rfl rfl) (zam rfl rfl (hval) (zad rfl (zad rfl zaq))) (zaf rfl rfl (zas rfl rfl rfl) (zbv rfl rfl) (zac rfl (zac rfl (zay rfl (zay rfl (zay rfl (zac rfl (zae (zai (za7 rfl (zah (zab (zac rfl (zae (zai ?_)))))))))))))))))))))))
  (refine za8 ?_; repeat (first | refine zbg ?_ | refine zbh ?_))
  exact zcb (.inr rfl) rfl rfl
 | true =>
 rw [hv] at hval
 have hnum := rNum_pf (P := P) d l hv 500 (by decide)
 refine zab (zac rfl (zac rfl (zaf rfl rfl (zaa rfl) (zam rfl rfl (hfew) (zad rfl (zad rfl zaq))) (zaf rfl rfl (zaa rfl) (zbv rfl rfl) (zac rfl (zac rfl (zac rfl (zaf rfl rfl (zas rfl rfl rfl) (zam rfl rfl (hval) (zad rfl (zad rfl zaq))) (zaf rfl rfl (zas rfl rfl rfl) (zbv rfl rfl) (zac rfl (zac rfl (zac rfl (zaf rfl rfl (zas rfl rfl rfl) (zam rfl rfl (hnum) (zad rfl (zad rfl zaq))) ?_)))))))))))))
 refine za3 rfl rfl (zas rfl rfl rfl) (zb5 rfl rfl rfl) (fun h29 => ?_) (fun h29 => ?_)
 all_goals refine zac rfl (zae (zai ?_))
 all_goals (first | refine za7 rfl ?_ | refine za1 rfl ?_)
 all_goals (repeat (first | refine zah ?_ | refine zat ?_))
 ·
  refine zab (zac rfl (zae (zai ?_)))
  (refine za8 ?_; repeat (first | refine zbg ?_ | refine zbh ?_))
  exact zcb (.inr rfl) rfl rfl
 have hp := numF_prodF hv (L := 500) (by decide) (by omega)
 have hlc : ∀ c k, Lo 0 (.ref [eL eI c, eI k]) := fun c k => .ref _ (zag (zan fun _ => .s _) (zag (.s _) zak))
 have hbr : ∀ s t L y, Lo 0 (.ref [eI s, eI t, eL eBr L, eL eF y]) := fun s t L y => by have := lo_Br (.mk s t L y); rw [eBr_mk] at this; exact .ref _ this.cells
 have hb1 := best_pf (P := P) d l 500
 have him := imp_pf (P := P) d l
 by_cases hs : shE d l (zb7 l) < 0
 ·
  obtain ⟨c, b, g1, g2, g3⟩ := bstR_good hv (lim := 500) (by decide) (by decide) hs (by omega) (by omega)
  have hfo := srcE_ok hv
  unfold FoldR at hfo
  rw [g1] at hfo
  obtain ⟨f1, f2, f3, f4⟩ := hfo
  rw [g2] at hb1
  have hck := check_pf (P := P) d l ⟨c, (srcE d l).2⟩ b
  rw [g3] at hck
  have hR := fun hl h12 s hk => relaxed (d := d) (l := l) hv hl h12 f1 f2 (s := s) hk
  rw [← f3] at hR
  have hcost : 0 ≤ (srcE d l).2 ∧ (srcE d l).2 ≤ 240000 := (srcE_StO hv).2
  generalize (srcE d l).2 = cost at hb1 hck hR hcost
  obtain ⟨s1, t1', L1, y1⟩ := b
  rw [eR3_mk] at hb1
  rw [eBr_mk] at hck
  have him2 : impE d l = (0, 10) := by unfold impE; rw [if_pos hv, if_neg (by omega)]
  rw [him2] at him
  have hpg := sProgram_pf (P := P) d l
  have hso := fun p => solve_pf (P := P) p
  refine zab (zac rfl (zac rfl (zaf rfl rfl (zaa rfl) (zam rfl rfl (hb1) (zad rfl (zad rfl (zad rfl zaq)))) (zac rfl (zac rfl (zac rfl (zac rfl (zaf rfl rfl (zaa rfl) (za0 rfl ti28 rfl rfl) (zaf rfl rfl (zaa rfl) (za0 rfl ti32 rfl rfl) (zbe rfl (zaa rfl) (zaj rfl ti28 rfl rfl rfl rfl rfl rfl (by decide) (by decide)) (zbe rfl (zaa rfl) (zaj rfl ti32 rfl rfl rfl rfl rfl rfl (by decide) (by decide)) (zac rfl (zae (zah ?_))))))))))))))
  refine zbi (zbs (id := 0) rfl) (zbi (zch (d := 5) rfl rfl rfl) ?_)
  refine zbi (zbs (id := 1) rfl) (zbi (zch (d := 6) rfl rfl rfl) ?_)
  refine zbi (F' := [(0, eL eI d), (1, eL eSh l), (5, .ref [eL eI c, eI cost]), (6, .ref [eI s1, eI t1', eL eBr L1, eL eF y1]), (7, eI 0)]) (σ' := []) (zck [] (by decide) trivial ⟨.lo _ (zan fun _ => .s _), .lo _ (zan lo_Sh), .lo _ (hlc _ _), .lo _ (hbr _ _ _ _), .lo _ (.s _), trivial⟩) ?_
  refine zab (zac rfl (zac rfl (zaf rfl rfl (zaa rfl) (zam rfl rfl (him) (zad rfl (zad rfl zaq))) (zac rfl (zac rfl (zac rfl (zac rfl (zac rfl (zae (zah (zah (zab (zac rfl (zaf rfl rfl (zaa rfl) (dec_f (by decide) (zbk rfl rfl rfl)) (zae (zai (za1 rfl (zat (zah (zah (zab (zac rfl (zaf rfl rfl (zaa rfl) (dec_f (by decide) (zbw rfl rfl rfl)) (zac rfl (zac rfl (zaf rfl rfl (zas rfl rfl rfl) (dec_f (by decide) (zbw rfl rfl rfl)) (zac rfl (zac rfl ?_))))))))))))))))))))))))))))
  refine zac rfl (zac rfl (zc5 ta28 ti28 rfl (zc5 ta32 ti32 rfl (zaf rfl rfl (zas rfl rfl rfl) (zam rfl rfl (hck) (zad rfl (zad rfl (zad rfl (zad rfl zaq))))) (zaf rfl rfl (zas rfl rfl rfl) (zbv rfl rfl) (zac rfl (zae (zai (za1 rfl (zat (zah ?_)))))))))))
  by_cases hl : l.length = 0
  ·
   have e : prgR d l = (zLP, 10) := by unfold prgR; rw [if_pos hv, if_pos hl]
   rw [e] at hpg
   refine zab (zac rfl (zac rfl (zaf rfl rfl (zaa rfl) (zam rfl rfl (hpg) (zad rfl (zad rfl zaq))) (zac rfl (zac rfl (zac rfl (zaf rfl rfl (zaa rfl) (za0 rfl ti47 rfl rfl) (zbe rfl (zaa rfl) (zaj rfl ti47 rfl rfl rfl rfl rfl rfl (by decide) (by decide)) (zac rfl (zae (zah (zah (zab (zac rfl (zaf rfl rfl (zaa rfl) (zds (by decide) (zbw rfl rfl rfl)) (zae (zai (za7 rfl (zah ?_)))))))))))))))))))
   have hl2 : ((l.length : Nat) : Int) = 0 := by omega
   refine zab (zac rfl (zaf rfl rfl (zaa rfl) (dec_f (by decide) (zbk rfl rfl rfl)) (zac rfl (zac rfl (zaf rfl rfl (zas rfl rfl rfl) (zds rfl (zbk rfl rfl rfl)) (zac rfl (zac rfl (zaf rfl rfl (zas rfl rfl rfl) (zao rfl ts23 rfl) (zaf rfl rfl (zas rfl rfl rfl) (zds hl2 (zbk rfl rfl rfl)) (zac rfl (zac rfl (zac rfl (zae (zai ?_))))))))))))))
   (refine za8 ?_; repeat (first | refine zbg ?_ | refine zbh ?_))
   exact zcb (.inr rfl) rfl rfl
  by_cases h12 : 12 < (prgE d l (zc1 l.length) (zb7 l)).a.length
  ·
   have e : prgR d l = (zLP, 5) := by unfold prgR; rw [if_pos hv, if_neg hl, if_pos h12]
   rw [e] at hpg
   refine zab (zac rfl (zac rfl (zaf rfl rfl (zaa rfl) (zam rfl rfl (hpg) (zad rfl (zad rfl zaq))) (zac rfl (zac rfl (zac rfl (zaf rfl rfl (zaa rfl) (za0 rfl ti47 rfl rfl) (zbe rfl (zaa rfl) (zaj rfl ti47 rfl rfl rfl rfl rfl rfl (by decide) (by decide)) (zac rfl (zae (zah (zah (zab (zac rfl (zaf rfl rfl (zaa rfl) (zds (by decide) (zbw rfl rfl rfl)) (zae (zai (za7 rfl (zah (zab (zac rfl (zaf rfl rfl (zaa rfl) (zds rfl (zbk rfl rfl rfl)) ?_))))))))))))))))))))))
   refine zac rfl (zay rfl (zay rfl (zay rfl (zcf rfl rfl (zbf rfl rfl rfl) (zcf rfl rfl (zbf rfl rfl rfl) (zcf rfl rfl (zbf rfl rfl rfl) (zay rfl (zac rfl (zac rfl (zae (zai ?_)))))))))))
   (refine za8 ?_; repeat (first | refine zbg ?_ | refine zbh ?_))
   exact zcb (.inr rfl) rfl rfl
  have e : prgR d l = (prgE d l (zc1 l.length) (zb7 l), 0) := by unfold prgR; rw [if_pos hv, if_neg hl, if_neg h12]
  rw [e] at hpg
  replace hR := hR (fun h => hl (by rw [h]; rfl)) (by omega)
  replace hso := hso (prgE d l (zc1 l.length) (zb7 l))
  have hvp := prg_valid hv (fun h => hl (by rw [h]; rfl)) (by omega) f1 f2
  have herr : (slvE (prgE d l (zc1 l.length) (zb7 l))).2 = 0 ∨ (slvE (prgE d l (zc1 l.length) (zb7 l))).2 = 6 := by
   unfold slvE
   rw [if_neg (by rw [hvp]; simp)]
   split
   ·
    exact .inr rfl
   ·
    split
    ·
     exact .inr rfl
    ·
     exact .inl rfl
  have hslo := fun h => hR (slvE (prgE d l (zc1 l.length) (zb7 l))).1 (slvE_ok h)
  clear hR e
  have hlp := lo_P (prgE d l (zc1 l.length) (zb7 l))
  generalize slvE (prgE d l (zc1 l.length) (zb7 l)) = S at hso herr hslo
  generalize prgE d l (zc1 l.length) (zb7 l) = lp at hpg hso hlp
  obtain ⟨s, h⟩ := S
  dsimp only at herr hslo hso
  refine zab (zac rfl (zac rfl (zaf rfl rfl (zaa rfl) (zam rfl rfl (hpg) (zad rfl (zad rfl zaq))) (zac rfl (zac rfl (zac rfl (zaf rfl rfl (zaa rfl) (za0 rfl ti47 rfl rfl) (zbe rfl (zaa rfl) (zaj rfl ti47 rfl rfl rfl rfl rfl rfl (by decide) (by decide)) (zac rfl (zae (zah (zah ?_))))))))))))
  refine zbi (zbs (id := 0) rfl) (zbi (zch (d := 10) rfl rfl rfl) ?_)
  refine zbi (F' := [(5, .ref [eL eI c, eI cost]), (10, .ref (eP lp).cells), (11, eI 0)]) (σ' := []) (zck [] (by decide) trivial ⟨.lo _ (hlc _ _), .lo _ (.ref _ hlp.cells), .lo _ (.s _), trivial⟩) ?_
  refine zab (zac rfl (zaf rfl rfl (zaa rfl) (dec_f (by decide) (zbw rfl rfl rfl)) (zae (zai (za1 rfl (zat (zah (zab (zc5 ta47 ti47 rfl (zaf rfl rfl (zaa rfl) (zam rfl rfl (hso) (zad rfl zaq)) (zac rfl (zac rfl (zac rfl (zaf rfl rfl (zaa rfl) (za0 rfl ti53 rfl rfl) (zbe rfl (zaa rfl) (zaj rfl ti53 rfl rfl rfl rfl rfl rfl (by decide) (by decide)) (zac rfl (zae (zah (zah ?_)))))))))))))))))))
  refine zbi (zbs (id := 0) rfl) (zbi (zch (d := 12) rfl rfl rfl) ?_)
  rcases herr with rfl | rfl
  ·
   obtain ⟨k1, k2, k3⟩ := hslo rfl
   have hv1 := rValid_pf (P := P) s.v
   rw [Fr.okB_of k2] at hv1
   have hof := rOf_pf (P := P) cost
   have hcm := rCmp_pf (P := P) s.v (Fr.of cost) k2 (iof_ok (by omega) (by omega))
   refine zab (zac rfl (zaf rfl rfl (zaa rfl) (dec_f (by decide) (zbw rfl rfl rfl)) (zae (zai (za1 rfl (zat (zah ?_)))))))
   refine zcj hmix ?_
   refine zcm (by kernel_rfl) ?_
   refine qx_f tf53_0 rfl (qx_l ta3 rfl (zcn rfl rfl (zaa rfl) (zds k1 (zbk rfl rfl rfl)) (qx_s rfl (qx_f tf53_4 rfl (qx_w ta51 ti51 rfl (zcn rfl rfl (zas rfl rfl rfl) (zam rfl rfl (hv1) (zad rfl zaq)) (qx_s rfl (qx_s rfl (qx_f tf53_4 rfl (qx_w ta51 ti51 rfl (qx_f tf28_1 rfl (qx_l ta3 rfl (zcn rfl rfl (zas rfl rfl rfl) (zam rfl rfl (hof) (zad rfl zaq)) (zcn rfl rfl (zas rfl rfl rfl) (zam rfl rfl (hcm) (zad rfl (zad rfl zaq))) (zcn rfl rfl (zas rfl rfl rfl) (zds k3 (does_leq rfl rfl rfl)) (qx_s rfl (qx_s rfl ?_)))))))))))))))))
   refine qx_nil ?_
   refine zai ?_
   (refine za8 ?_; repeat (first | refine zbg ?_ | refine zbh ?_))
   exact zcb (.inr rfl) rfl rfl
  ·
   refine zab (zac rfl (zaf rfl rfl (zaa rfl) (zds (by decide) (zbw rfl rfl rfl)) (zae (zai (za7 rfl (zah (zab (zac rfl (zaf rfl rfl (zaa rfl) (zds rfl (zbk rfl rfl rfl)) (zac rfl (zae (zai ?_))))))))))))
   (refine za8 ?_; repeat (first | refine zbg ?_ | refine zbh ?_))
   exact zcb (.inr rfl) rfl rfl
 ·
  have g2 := bstR_none hv (lim := 500) (by decide) (by decide) hs
  rw [g2] at hb1
  rw [eR3_zero] at hb1
  have him2 : impE d l = (shE d l (zb7 l), 0) := by unfold impE; rw [if_pos hv, if_pos (by omega)]
  rw [him2] at him
  have hno := none_pf (P := P)
  have hk1 : shE d l (zb7 l) ≥ 0 := by omega
  have hk2 : shE d l (zb7 l) < ((d.length : Nat) : Int) := shE_lt d l (zb7 l)
  refine zab (zac rfl (zac rfl (zaf rfl rfl (zaa rfl) (zam rfl rfl (hb1) (zad rfl (zad rfl (zad rfl zaq)))) (zac rfl (zac rfl (zac rfl (zac rfl (zaf rfl rfl (zaa rfl) (za0 rfl ti28 rfl rfl) (zaf rfl rfl (zaa rfl) (za0 rfl ti32 rfl rfl) (zbe rfl (zaa rfl) (zaj rfl ti28 rfl rfl rfl rfl rfl rfl (by decide) (by decide)) (zbe rfl (zaa rfl) (zaj rfl ti32 rfl rfl rfl rfl rfl rfl (by decide) (by decide)) (zac rfl (zae (zah ?_))))))))))))))
  refine zbi (zbs (id := 0) rfl) (zbi (zch (d := 5) rfl rfl rfl) ?_)
  refine zbi (zbs (id := 1) rfl) (zbi (zch (d := 6) rfl rfl rfl) ?_)
  refine zab (zac rfl (zac rfl (zaf rfl rfl (zaa rfl) (zam rfl rfl (him) (zad rfl (zad rfl zaq))) (zac rfl (zac rfl (zac rfl (zac rfl (zac rfl (zae (zah (zah (zab (zac rfl (zaf rfl rfl (zaa rfl) (zds rfl (zbk rfl rfl rfl)) (zae (zai (za7 rfl (zah (zab (zac rfl (zaf rfl rfl (zaa rfl) (zds rfl (zbk rfl rfl rfl)) (zac rfl (zc5 ta28 ti28 rfl (zc5 ta32 ti32 rfl (zaf rfl rfl (zas rfl rfl rfl) (zam rfl rfl (hno) (zad rfl (zad rfl zaq))) ?_)))))))))))))))))))))))))
  refine zac rfl (zac rfl (zac rfl (zaf rfl rfl (zas rfl rfl rfl) (zds hk1 (zcz rfl rfl rfl)) (zac rfl (zac rfl (zac rfl (zac rfl (zaf rfl rfl (zas rfl rfl rfl) (zao rfl ts22 rfl) (zaf rfl rfl (zas rfl rfl rfl) (zds hk2 (za4 rfl rfl rfl)) (zac rfl (zac rfl (zae (zai ?_)))))))))))))
  (refine za8 ?_; repeat (first | refine zbg ?_ | refine zbh ?_))
  exact zcb (.inr rfl) rfl rfl
end Go.Proofs.Ytllkbjcemecmjaa.Aw
end
section
namespace Go.Proofs.Ytllkbjcemecmjaa
open Go.ChangeShapes Go.WideShapes Go.ChangeAt Go.RowKit
theorem own_knob : ownKnob Try.prog.godebug = none := by kernel_rfl
theorem laid_out : laidOutB Try.prog = true := by kernel_rfl
section
variable {H : Type} {enc : TypeId × Value → H}
set_option maxRecDepth 100000 in
theorem law_post {f : Func} {s : ChangeSpec} {W W' : World} {args : Array Value} {ds gs : List (DataW H)} {before : List MemPlace} {t : TypeId}
  (hW : DataW.Whole enc Try.prog f.params.toList s.vars false W args.toList ds gs before) (hr : f.resultTypes = #[t]) (ht : Try.prog.underlying t = some .bool)
  (hfn : (s.fn H (ds ++ gs)).results = [.lit (.bool true)] ∧ (s.fn H (ds ++ gs)).args = ds ∧ (s.fn H (ds ++ gs)).vars = []) (hv : s.vars = [])
  (hargs : DataW.TrodAll enc Try.prog W' 0 (fun b => decide (b < W.heap.size)) true f.params.toList args.toList ds before) (hb : Below W.heap.size W W') :
  s.post enc Try.prog f false true false false W args (.bool true) W' := by
 refine ⟨ds, gs, before, [], before, [], hW, ?_, ?_, ?_, World.keptBut_mono (fun p hp => ⟨hp, Or.inr (by simpa using hp)⟩) (hb.frame (· ∈ before)), fun h => by cases h⟩
 ·
  rw [hfn.1, hr]
  exact trodAll_mk1 (shut_bool ht true)
 ·
  rw [hfn.2.1]
  exact hargs
 ·
  rw [hfn.2.2, hv]
  rfl
end
namespace Aw
def G0 (W : World) : Cx := { base := 0, w0 := W, w := W, mu := fun _ => none, St := fun b _ => b < W.heap.size }
theorem pure_law {P : Program} {f : FuncId} {args : List AV} (hp : Pure P f args (eB true)) (W : World) (vargs : Array Value) (hsz : vargs.size = args.length) (hrep : ∀ (j : Nat) v x, vargs[j]? = some v → args[j]? = some x → Rep (G0 W) v x) :
  Calls P f vargs W fun e w' => e = .returned (.bool true) ∧ Below W.heap.size W w' :=
 (hp.call (G0 W) vargs ⟨fun b o h => h, ⟨⟩⟩ hsz hrep).mono (by
  rintro e w' ⟨v, G', rfl, rfl, hb, _, _, _, hr⟩
  exact ⟨by rw [rep_s hr], hb⟩)
section
variable {H : Type} {enc : TypeId × Value → H} {w : World} {base : Nat} {sp : Nat → Bool} {held : Bool}
def Rc (w : World) (cs : List Value) (l : List AV) : Prop := cs.length = l.length ∧ (∀ c ∈ l, c.one = true) ∧ ∀ (j : Nat) v c, cs[j]? = some v → l[j]? = some c → Rep (G0 w) v c
theorem rc_nil : Rc w [] [] := ⟨rfl, by simp, fun j v c h => by simp at h⟩
theorem rc_cons {v : Value} {a : AV} {cs : List Value} {l : List AV} (h1 : Rep (G0 w) v a) (h2 : a.one = true) (h : Rc w cs l) : Rc w (v :: cs) (a :: l) :=
 ⟨by simp [h.1], fun c hc => by
  rcases List.mem_cons.1 hc with rfl | hc
  ·
   exact h2
  ·
   exact h.2.1 c hc, fun j u c hu hc => by
  cases j with
  | zero => simp at hu hc; subst hu hc; exact h1
  | succ j => simp at hu hc; exact h.2.2 j u c hu hc⟩
theorem addr_off (b off j : Nat) : (⟨b, off, none⟩ : Addr).add j = ⟨b, off + j, none⟩ := by unfold Addr.add; split <;> simp_all
theorem opens_sliceN {t e : TypeId} {β : Type} {f : β → AV} {size : Nat} (ht : Try.prog.underlying t = some (.slice e)) (hc : Try.prog.cellsOf e = size) (hpos : 0 < size) (hen : ∀ b, (f b).cells.length = size)
  {fuel : Nat} (hel : ∀ n, n < fuel → ∀ cs (x : DataW H × List MemPlace), DataW.trod enc Try.prog w base sp held n e cs = some x → ∃ b, Rc w cs (f b).cells)
  {cs : List Value} {x : DataW H × List MemPlace} (h : DataW.trod enc Try.prog w base sp held fuel t cs = some x) : ∃ (v : Value) (l : List β), cs = [v] ∧ Rep (G0 w) v (eL f l) := by
 rcases DataW.trod_slice ht h with ⟨rfl, _⟩ | ⟨a, len, cap, elems, rest, n, hfu, rfl, _, hb, hl, hm, hlen, helem, _⟩
 ·
  exact ⟨_, [], rfl, .slnil none 0⟩
 ·
  rw [hc] at helem
  have hx : ∀ i : Fin len, ∃ p : List Value × β, w.cells? base (a.add (i * size)) size = some p.1 ∧ Rc w p.1 (f p.2).cells := by
   intro i
   have h1 := helem i i.2
   have hi : (i : Nat) < elems.length := by rw [hlen]; exact i.2
   rw [List.getElem?_eq_getElem hi, Option.bind_eq_some_iff] at h1
   obtain ⟨cs', h2, h3⟩ := h1
   obtain ⟨y, hy⟩ := hel n (by omega) _ _ h3
   exact ⟨(cs', y), h2, hy⟩
  obtain ⟨g, hg⟩ : ∃ g : Fin len → List Value × β, ∀ i : Fin len, w.cells? base (a.add ((i : Nat) * size)) size = some (g i).1 ∧ Rc w (g i).1 (f (g i).2).cells := ⟨fun i => Classical.choose (hx i), fun i => Classical.choose_spec (hx i)⟩
  rcases Nat.eq_zero_or_pos len with h0 | hn
  ·
   subst h0
   exact ⟨_, [], rfl, .slnil _ _⟩
  ·
   have hspot : a.spot = none := by
    have h1 := World.cells?_some (hg ⟨0, hn⟩).1
    have h2 := h1.2.2 0 hpos
    have h3 : ((a.add (0 * size)).add 0) = a := by simp [Addr.add]
    rw [List.getElem?_eq_getElem (by rw [h1.2.1]; exact hpos)] at h2
    have h4 := World.cell?_spot h2
    simpa [Addr.add] using h4
   obtain ⟨b, off, s⟩ := a
   simp only at hspot
   subst hspot
   refine ⟨_, List.ofFn (fun i => (g i).2), rfl, ?_⟩
   have hlf : ((List.ofFn fun i => (g i).2).map f).length = len := by simp
   have hel2 : ∀ (k : Nat) e, ((List.ofFn fun i => (g i).2).map f)[k]? = some e → ∃ hk : k < len, e = f (g ⟨k, hk⟩).2 := by
    intro k e hk
    have hkl : k < len := by have := (List.getElem?_eq_some_iff.1 hk).1; rwa [hlf] at this
    refine ⟨hkl, ?_⟩
    rw [List.getElem?_map, List.getElem?_ofFn] at hk
    simp [hkl] at hk
    exact hk.symm
   have key : ∀ (k : Nat) e (j : Nat) c, ((List.ofFn fun i => (g i).2).map f)[k]? = some e → e.cells[j]? = some c → ∃ u, w.cell? ⟨b, off + k * size + j, none⟩ = some u ∧ Rep (G0 w) u c := by
    intro k e j c hk hc'
    obtain ⟨hkl, rfl⟩ := hel2 k e hk
    obtain ⟨q1, q2, q3⟩ := (hg ⟨k, hkl⟩).2
    have hcs := World.cells?_some (hg ⟨k, hkl⟩).1
    have hj : j < size := by rw [← hen (g ⟨k, hkl⟩).2]; exact (List.getElem?_eq_some_iff.1 hc').1
    have hj2 : j < (g ⟨k, hkl⟩).1.length := by rw [hcs.2.1]; exact hj
    have h5 := hcs.2.2 j hj
    rw [List.getElem?_eq_getElem hj2] at h5
    rw [addr_off, addr_off] at h5
    exact ⟨(g ⟨k, hkl⟩).1[j], h5, q3 j _ c (List.getElem?_eq_getElem hj2) hc'⟩
   have hR := Rep.sl (G := G0 w) b off cap size ((List.ofFn fun i => (g i).2).map f) (fun k j => (w.cell? ⟨b, off + k * size + j, none⟩).getD undef) (by rw [hlf]; exact hl) (by rw [hlf]; exact Nat.le_trans hl hm) (fun k e hk => by
     obtain ⟨hkl, rfl⟩ := hel2 k e hk
     exact ⟨hen _, (hg ⟨k, hkl⟩).2.2.1⟩) (fun k e j c hk hc' => by
     obtain ⟨u, h6, _⟩ := key k e j c hk hc'
     exact ⟨World.block_lt_of_cell? _ _ h6, by show w.cell? _ = _; rw [h6]; rfl⟩) (fun k e j c hk hc' => by
     obtain ⟨u, h6, h7⟩ := key k e j c hk hc'
     rw [h6]; exact h7)
   rw [hlf] at hR
   exact hR
theorem opens_slice {t e : TypeId} {β : Type} {f : β → AV} {size : Nat} (ht : Try.prog.underlying t = some (.slice e)) (hc : Try.prog.cellsOf e = size) (hpos : 0 < size) (hen : ∀ b, (f b).cells.length = size)
  (hel : ∀ fuel cs (x : DataW H × List MemPlace), DataW.trod enc Try.prog w base sp held fuel e cs = some x → ∃ b, Rc w cs (f b).cells)
  {fuel : Nat} {cs : List Value} {x : DataW H × List MemPlace} (h : DataW.trod enc Try.prog w base sp held fuel t cs = some x) : ∃ (v : Value) (l : List β), cs = [v] ∧ Rep (G0 w) v (eL f l) :=
 opens_sliceN ht hc hpos hen (fun n _ cs x h => hel n cs x h) h
theorem opens_int {fuel : Nat} {cs : List Value} {x : DataW H × List MemPlace} (h : DataW.trod enc Try.prog w base sp held fuel 3 cs = some x) : ∃ n : Int, Rc w cs (eI n).cells := by
 obtain ⟨n, rfl, _⟩ := DataW.trod_int Try.underlying3 h
 exact ⟨n, rc_cons (.s _) rfl rc_nil⟩
theorem opens_ints {fuel : Nat} {cs : List Value} {x : DataW H × List MemPlace} (h : DataW.trod enc Try.prog w base sp held fuel 22 cs = some x) : ∃ (v : Value) (l : List Int), cs = [v] ∧ Rep (G0 w) v (eL eI l) :=
 opens_slice (size := 1) Try.underlying22 (by kernel_rfl) (by decide) (fun _ => rfl) (fun fuel cs x h => opens_int h) h
set_option maxRecDepth 100000 in
theorem opens_shift {fuel : Nat} {cs : List Value} {x : DataW H × List MemPlace} (h : DataW.trod enc Try.prog w base sp held fuel 39 cs = some x) : ∃ s : Sft, Rc w cs (eSh s).cells := by
 obtain ⟨xs, n, _, _, hlen, hl, hg⟩ := DataW.trod_struct Try.underlying39 h
 have hc : Try.prog.cellsOf 39 = 3 := by kernel_rfl
 have h1 : Try.prog.cellsOf 22 = 1 := by kernel_rfl
 have h2 : Try.prog.cellsOf 3 = 1 := by kernel_rfl
 match cs, hlen.trans hc, xs, hl with
 | [c0, c1, c2], _, [x0, x1, x2], _ =>
  have g0 := hg 0 _ rfl
  have g1 := hg 1 _ rfl
  have g2 := hg 2 _ rfl
  simp [h1, h2] at g0 g1 g2
  obtain ⟨v0, l0, e0, r0⟩ := opens_ints g0
  obtain ⟨k1, e1, _⟩ := DataW.trod_int Try.underlying3 g1
  obtain ⟨k2, e2, _⟩ := DataW.trod_int Try.underlying3 g2
  injection e0 with e0
  injection e1 with e1
  injection e2 with e2
  subst e0 e1 e2
  exact ⟨⟨l0, k1, k2⟩, rc_cons r0 rfl (rc_cons (.s _) rfl (rc_cons (.s _) rfl rc_nil))⟩
theorem opens_shifts {fuel : Nat} {cs : List Value} {x : DataW H × List MemPlace} (h : DataW.trod enc Try.prog w base sp held fuel 23 cs = some x) : ∃ (v : Value) (l : List Sft), cs = [v] ∧ Rep (G0 w) v (eL eSh l) :=
 opens_slice (size := 3) Try.underlying23 (by kernel_rfl) (by decide) (fun _ => rfl) (fun fuel cs x h => opens_shift h) h
variable {b0 : Nat} {r : Reach} {v : Value} {d : DataW H} {p : List MemPlace}
set_option maxRecDepth 100000 in
theorem open_ints (hv : Value.okWide Try.prog w r b0 22 v) (h : DataW.Trod enc Try.prog w base sp held 22 v d p) : ∃ l : List Int, Rep (G0 w) v (eL eI l) := by
 obtain ⟨a, n, c, rfl⟩ := okWide_slice Try.underlying22 hv
 obtain ⟨fuel, hf⟩ := h
 obtain ⟨v', l, ha, hr⟩ := opens_ints hf
 simp [Value.cells] at ha
 subst ha
 exact ⟨l, hr⟩
set_option maxRecDepth 100000 in
theorem open_shifts (hv : Value.okWide Try.prog w r b0 23 v) (h : DataW.Trod enc Try.prog w base sp held 23 v d p) : ∃ l : List Sft, Rep (G0 w) v (eL eSh l) := by
 obtain ⟨a, n, c, rfl⟩ := okWide_slice Try.underlying23 hv
 obtain ⟨fuel, hf⟩ := h
 obtain ⟨v', l, ha, hr⟩ := opens_shifts hf
 simp [Value.cells] at ha
 subst ha
 exact ⟨l, hr⟩
end
end Aw
end Go.Proofs.Ytllkbjcemecmjaa
end
section
namespace Go.Proofs.Ytllkbjcemecmjaa
open Go.ChangeShapes Go.WideShapes Go.ChangeAt Go.RowKit
set_option maxRecDepth 100000 in
theorem shiftRelaxed_lifted (os : Os) (started : os.Started) (H : Type) (enc : TypeId × Value → H) :
  ReturnsInHanded {} Try.checked os 4 .any (Rows.shiftRelaxedSpec.pre6 enc Try.prog Try.f4 Rows.shiftRelaxedRow.domain false) (Rows.shiftRelaxedSpec.post enc Try.prog Try.f4 false true false false) := by
 refine returnsInHanded_of_change (C := Try.checked) own_knob started (by kernel_rfl) Try.func4
  (ChangeSpec.witness6 (enc := enc) (C := Try.checked) false ⟨#[], #[.slice none 0 0, .slice none 0 0], []⟩ 8 (by kernel_rfl) (by kernel_rfl) (by kernel_rfl) (by kernel_rfl)) ?_
 intro W base args ds gs before hval0 hW hcnd _
 have hval : ∀ (j : Nat) t v, Try.f4.params[j]? = some t → args[j]? = some v → Value.okWide Try.prog W .any base t v := hval0
 have hW' := hW
 obtain ⟨p, q, hA0, hV, rfl, hfz, hnd⟩ := hW
 have hA : DataW.TrodAll enc Try.prog W 0 (fun _ => true) true Try.f4.params.toList args.toList ds p := hA0
 rw [Try.params4] at hA hval
 obtain ⟨v0, v1, d0, d1, p0, p1, rfl, rfl, rfl, h0, h1⟩ := trodAll_two hA
 obtain ⟨rfl, rfl⟩ := trodVars_none hV
 obtain ⟨x0, hx0⟩ := Aw.open_ints (hval 0 22 v0 rfl rfl) h0
 obtain ⟨x1, hx1⟩ := Aw.open_shifts (hval 1 23 v1 rfl rfl) h1
 simp only [List.append_nil] at hW'
 refine (Aw.pure_law (Aw.lawRelaxed_pf (P := Try.prog) x0 x1) W #[v0, v1] rfl (fun j v x hv hx => ?_)).mono fun e W' ⟨he, hb⟩ => ?_
 ·
  match j, hv, hx with
  | 0, hv, hx => simp at hv hx; subst hv hx; exact hx0
  | 1, hv, hx => simp at hv hx; subst hv hx; exact hx1
  | j + 2, hv, hx => simp at hv
 subst he
 have hp : ∀ x ∈ p0 ++ p1, x.block < W.heap.size := fun x hx => hW'.lt x (by simpa using hx)
 have hg := trodAll_mk2 (Below.trod laid_out (by kernel_rfl) (of_decide_eq_true (by kernel_rfl)) h0 hb (fun x hx => hp x (by simp [hx]))) (Below.trod laid_out (by kernel_rfl) (of_decide_eq_true (by kernel_rfl)) h1 hb (fun x hx => hp x (by simp [hx])))
 exact ⟨_, rfl, law_post (t := 4) hW' (by kernel_rfl) Try.underlying4 ⟨rfl, rfl, rfl⟩ rfl hg hb⟩
theorem shiftRelaxed_holds : Rows.ShiftRelaxedSaid :=
 OpenClaim.holds_of_wide 4 Try.f4 rfl rfl rfl rfl rfl rfl rfl ⟨rfl, rfl, rfl, rfl, rfl⟩ rfl rfl rfl rfl rfl (by kernel_rfl) Try.func4 (by kernel_rfl)
  (of_decide_eq_true (by kernel_rfl)) (by unfold Func.isWrapper; first | (rw [if_pos (by decide +kernel)]; kernel_rfl) | (rw [if_neg (by decide +kernel)]; exact ⟨rfl, rfl⟩))
  (fun os started H enc _ => shiftRelaxed_lifted os started H enc)
#print axioms shiftRelaxed_holds
end Go.Proofs.Ytllkbjcemecmjaa
end
