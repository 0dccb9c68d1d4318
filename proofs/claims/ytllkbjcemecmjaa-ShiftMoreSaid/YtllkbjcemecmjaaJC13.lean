import Derived.Test.YtllkbjcemecmjaaJC12
import Derived.Test.YtllkbjcemecmjaaRows
import Derived.Test.YtllkbjcemecmjaaJC6
import Derived.Test.YtllkbjcemecmjaaJC5
import Derived.ProofKit
import Derived.Below
import Derived.ChangeShapes
import Derived.ChangeSame
import Derived.ChangeSlices
import Derived.DataReads
import Derived.Carry
set_option linter.unusedSimpArgs false
set_option linter.unusedVariables false
set_option linter.unusedSectionVars false
section
namespace Go.Proofs.Ytllkbjcemecmjaa.Aw
open Go Go.RowKit Go.Proofs
theorem vol_first {l : List Sft} : ∀ n, n ≤ l.length → vol (zeroI l.length) (zc6 l) n = prodF l n
 | 0, _ => rfl
 | n + 1, h => by
  have h0 : gti (zeroI l.length) n = 0 := by unfold zeroI gti; rw [List.getElem?_replicate, if_pos (by omega)]; rfl
  show vol (zeroI l.length) (zc6 l) n * (gti (zc6 l) n - gti (zeroI l.length) n + 1) = prodF l n * ((gti l n).most + 1)
  rw [vol_first n (by omega), h0, mostL_gti (by omega), Int.sub_zero]
theorem most0 {d : List Int} {l : List Sft} (hv : zce d l = true) : ∀ k, k < l.length → 0 ≤ (gti l k).most := fun k hk => by have := ((zcj hv).2.2 k hk).1; omega
theorem bstR_good {d : List Int} {l : List Sft} {lim : Int} (hv : zce d l = true) (h1 : 1 ≤ lim) (h2 : lim ≤ 1048576) (hs : shE d l (zc6 l) < 0) (hp : prodF l l.length ≤ lim) (hq : prodF l l.length ≤ 10000) :
  ∃ c b, (srcE d l).1 = some c ∧ bstR d l lim = (⟨c, (srcE d l).2⟩, b, 0) ∧ chkE d l ⟨c, (srcE d l).2⟩ b = true := by
 obtain ⟨c, hc⟩ := srcE_some hv hs
 have hf := srcE_ok hv
 have hst := srcE_StO hv
 unfold FoldR at hf
 rw [hc] at hf
 obtain ⟨f1, f2, f3, f4⟩ := hf
 have hcn := cntB_allC.2 f1
 have hbx := first_box hv
 have hok := prvT_ok hv (K := (srcE d l).2) hst.2 (fun c' h1 h2 => f4 c' (cntB_allC.1 h1) h2) (boxM (zeroI l.length) (zc6 l) l.length + 1) 20000 (zeroI l.length) (zc6 l) (Nat.lt_succ_self _) hbx (fun k hk => by
  have h0 : gti (zeroI l.length) k = 0 := by unfold zeroI gti; rw [List.getElem?_replicate, if_pos hk]; rfl
  rw [h0, mostL_gti hk]
  exact ⟨most0 hv k hk, Int.le_refl _⟩) (by rw [vol_first l.length (Nat.le_refl _)]; omega)
 have hok2 : (bstT d l).2.1 = true ∧ _ ∧ ∀ m, 20000 ≤ m → rgtE d l (srcE d l).2 (bstT d l).1 (zeroI l.length) (zc6 l) m = (true, m - 20000 + (bstT d l).2.2) := hok
 have hck : chkE d l ⟨c, (srcE d l).2⟩ (bstT d l).1 = true := by
  unfold chkE
  rw [if_pos ⟨hv, hcn, f2, f3⟩, hok2.2.2 20000 (Int.le_refl _)]
 refine ⟨c, (bstT d l).1, hc, ?_, hck⟩
 unfold bstR
 have hal : allF l l.length ≤ prodF l l.length := by
  rw [allF_eq (most0 hv) _ (Nat.le_refl _), numF_eq (most0 hv) (by decide) _ (Nat.le_refl _)]; omega
 rw [if_neg (fun h => h hv), if_neg (by omega), if_neg (by omega), if_neg (by omega), hc]
 rw [if_pos ⟨hok2.1, hck⟩]; rfl
theorem bstR_none {d : List Int} {l : List Sft} {lim : Int} (hv : zce d l = true) (h1 : 1 ≤ lim) (h2 : lim ≤ 1048576) (hs : ¬ shE d l (zc6 l) < 0) : bstR d l lim = (⟨[], 0⟩, zBr, 17) := by
 unfold bstR
 rw [if_neg (fun h => h hv), if_neg (by omega), if_pos (by omega)]
variable {P : Program} [IsP P]
theorem numF_bd {l : List Sft} (h : ∀ k, k < l.length → 0 ≤ (gti l k).most) {L : Int} (hL : 0 ≤ L) : ∀ i, i ≤ l.length → 1 ≤ numF l L i ∧ numF l L i ≤ L + 1 := fun i hi => by
 rw [numF_eq h hL i hi]
 have := prodF_pos h i hi
 omega
set_option maxHeartbeats 1000000 in
theorem rNum_pf (d : List Int) (l : List Sft) (hv : zce d l = true) (L : Int) (hL : 0 ≤ L ∧ L ≤ 1000000) : Pure P 8 [eL eSh l, eI L] (eI (numF l L l.length)) := by
 obtain ⟨⟨q1, q2, q3⟩, qd, ql⟩ := zcj hv
 refine zdc (by rw [IsP.eq (P := P)]; exact Try.func8) rfl rfl rfl rfl rfl (by repeat' (first | exact Lo.s _ | exact zav | refine zal ?_ ?_ | refine zat ?_ | refine Lo.agg _ ?_ | refine Lo.sl _ ?_ | intro _)) (.s _) (by simp only [argF]; rfl) ?_
 refine zam (zac (zd0 rfl (zai (zam (zac (zd0 rfl (zai (zam (zam (zac (zd0 rfl (zai (zao (za8 ?_))))))))))))))
 refine zcn (S := Nat) (fun i => [(0, eL eSh l), (1, eI L), (5, eI (numF l L i)), (6, eI i)]) (fun _ => []) (fun i => i ≤ l.length) (fun i => l.length - i) 0
  (wk_sub _ ⟨rfl, rfl, rfl, rfl, trivial⟩) (Nat.zero_le _) (fun i hi => ?_)
 refine zam (zam (zac (zd0 rfl (zd0 rfl (zab rfl rfl (zaa rfl) (zay rfl ts23 rfl) ?_)))))
 refine zbb rfl rfl (zaa rfl) (zbf rfl rfl rfl) (fun h10 => ?_) (fun h10 => ?_)
 all_goals refine zai (zao ?_)
 all_goals (first | refine zbi rfl ?_ | refine za6 rfl ?_)
 all_goals (repeat (first | refine zam ?_ | refine za4 ?_ | refine za8 ?_))
 ·
  have hlt : i < l.length := by omega
  have hxl : (l.map eSh)[i]? = some (eSh (gti l i)) := zbr hlt
  have hm := (ql i hlt).1
  have hb := numF_bd (most0 hv) hL.1 i (by omega)
  have hmu : 0 ≤ numF l L i * ((gti l i).most + 1) ∧ numF l L i * ((gti l i).most + 1) ≤ 22000000 := ⟨Int.mul_nonneg (by omega) (by omega), by have := Int.mul_le_mul hb.2 (show (gti l i).most + 1 ≤ 21 by omega) (by omega) (by omega); omega⟩
  have hmin : (if numF l L i * ((gti l i).most + 1) < L + 1 then numF l L i * ((gti l i).most + 1) else L + 1) = numF l L (i + 1) := by
   show _ = min (L + 1) (numF l L i * ((gti l i).most + 1))
   rw [Int.min_def]; split <;> split <;> omega
  refine zac (zd0 rfl (zab rfl rfl (zaa rfl) (za3 rfl rfl rfl (IntWalk.i64_in _ (by omega))) (zd0 rfl (zd0 rfl (zd0 rfl (zab rfl rfl (zaa rfl) (zas rfl ts23 ti39 rfl rfl rfl hxl rfl) (zd4 tf39_2 rfl (zd3 ta3 rfl (zab rfl rfl (zaa rfl) (za3 rfl rfl rfl (IntWalk.i64_in _ (by omega))) (zab rfl rfl (zaa rfl) (does_mul rfl rfl rfl (IntWalk.i64_in _ (by omega))) (zab rfl rfl (zaa rfl) (does_min rfl rfl rfl hmin) (zd0 rfl (zai (zca (zao (zac (zd0 rfl (zab rfl rfl (zaa rfl) (za3 rfl rfl rfl (IntWalk.i64_in _ (by omega))) ?_))))))))))))))))))
  refine zd0 rfl (zai (zao ?_))
  exact ⟨i + 1, by omega, by omega, wk_sub _ ⟨rfl, rfl, rfl, rfl, trivial⟩⟩
 ·
  have ei : i = l.length := by omega
  subst ei
  (refine zcw ?_; repeat (first | refine zdd ?_ | refine zcc ?_ | refine zb4 rfl ?_ | refine zca ?_ | refine zao ?_ | refine zam ?_ | refine za4 ?_ | refine za8 ?_))
  refine zac (zd0 rfl (zd0 rfl (zai (zao ?_))))
  (refine zbk ?_; repeat (first | refine zbv ?_ | refine zbw ?_))
  exact zch (.inr rfl) rfl rfl
theorem ex_best : ∃ b, bstR exD exL 100 = (⟨[1, 1], 7⟩, b, 0) ∧ chkE exD exL ⟨[1, 1], 7⟩ b = true := by
 have hs : srcE exD exL = (some [1, 1], 7) := by kernel_rfl
 have hv : zce exD exL = true := by kernel_rfl
 have h1 : shE exD exL (zc6 exL) = -1 := by kernel_rfl
 have h2 : prodF exL exL.length = 9 := by kernel_rfl
 obtain ⟨c, b, g1, g2, g3⟩ := bstR_good (lim := 100) hv (by decide) (by decide) (by rw [h1]; decide) (by rw [h2]; decide) (by rw [h2]; decide)
 rw [hs] at g1 g2 g3
 cases g1
 exact ⟨b, g2, g3⟩
set_option maxHeartbeats 2000000 in
theorem awake54 : Pure P 5 [] (eB true) := by
 obtain ⟨b, hb1, hb2⟩ := ex_best
 have hbest := best_pf (P := P) exD exL 100
 rw [hb1] at hbest
 have hc1 := check_pf (P := P) exD exL ⟨[1, 1], 7⟩ b
 rw [hb2] at hc1
 obtain ⟨s1, t1, L1, y1⟩ := b
 have e3 : eR3 (⟨[1, 1], 7⟩, .mk s1 t1 L1 y1, 0) = .tup [ePl ⟨[1, 1], 7⟩, .agg [eI s1, eI t1, eL eBr L1, eL eF y1], eI 0] := by unfold eR3; rw [eBr_mk]
 rw [e3] at hbest
 have hlb : Lo 0 (.ref [eI s1, eI t1, eL eBr L1, eL eF y1]) := by have := lo_Br (.mk s1 t1 L1 y1); rw [eBr_mk] at this; exact .ref _ this.cells
 rw [eBr_mk] at hc1
 have hc2 := chk_ex (P := P) exY2 chk2
 refine zdc (by rw [IsP.eq (P := P)]; exact Try.func5) rfl rfl rfl rfl rfl (zav) (.s _) (by simp only [argF]; rfl) ?_
 refine zam (zac (zd0 rfl (zai (zam (zac (zab rfl rfl (zaa rfl) (does_lit rfl ts22 ti3 rfl rfl (by decide) (by decide) (by decide) rfl rfl) ?_))))))
 refine zbm (zb5 (id := 0) rfl) (zbm (wk_sl (d := 7) rfl rfl (by first | rfl | (simp; done) | (simp; omega))) ?_)
 refine zd0 rfl (zai (zam (zac (zab rfl rfl (zaa rfl) (does_lit rfl ts22 ti3 rfl rfl (by decide) (by decide) (by decide) rfl rfl) ?_))))
 refine zbm (zb5 (id := 1) rfl) (zbm (wk_sl (d := 8) rfl rfl (by first | rfl | (simp; done) | (simp; omega))) ?_)
 refine zab rfl rfl (zaa rfl) (zbl rfl ti39 tp39 rfl rfl) (zab rfl rfl (zaa rfl) (does_lit rfl ts22 ti3 rfl rfl (by decide) (by decide) (by decide) rfl rfl) ?_)
 refine zbm (zb5 (id := 2) rfl) (zbm (wk_sl (d := 10) rfl rfl (by first | rfl | (simp; done) | (simp; omega))) ?_)
 refine zab rfl rfl (zaa rfl) (zbl rfl ti39 tp39 rfl rfl) (zab rfl rfl (zaa rfl) (does_lit rfl ts23 ti39 rfl rfl (by decide) (by decide) (by decide) rfl rfl) ?_)
 refine zbm (zb5 (id := 3) rfl) (zbm (wk_sl (d := 12) rfl rfl (by first | rfl | (simp; done) | (simp; omega))) ?_)
 refine zd0 rfl (zai (zam ?_))
 refine zbg (F' := [(1, eL eI exD), (2, eL eSh exL)]) (σ' := []) (zcg [] (by decide) trivial ⟨.lo _ (show Lo 0 (eL eI exD) from zat fun _ => .s _), .lo _ (show Lo 0 (eL eSh exL) from zat zdf), trivial⟩) ?_
 refine zac (zd0 rfl (zd0 rfl (zab rfl rfl (zaa rfl) (zau rfl rfl (hbest) (zag rfl (zag rfl (zag rfl zaz)))) (zd0 rfl (zd0 rfl (zd0 rfl (zd0 rfl (zab rfl rfl (zaa rfl) (za7 rfl ti28 rfl rfl) (zab rfl rfl (zaa rfl) (za7 rfl ti32 rfl rfl) (zbo rfl (zaa rfl) (zap rfl ti28 rfl rfl rfl rfl rfl rfl (by decide) (by decide)) (zbo rfl (zaa rfl) (zap rfl ti32 rfl rfl rfl rfl rfl rfl (by decide) (by decide)) (zd0 rfl (zai (zam ?_))))))))))))))
 refine zbg (zb5 (id := 0) rfl) ?_
 refine zbg (zcs (d := 3) rfl rfl rfl) ?_
 refine zbg (zb5 (id := 1) rfl) ?_
 refine zbg (zcs (d := 4) rfl rfl rfl) ?_
 refine zac (zab rfl rfl (zaa rfl) (zbl rfl ti51 tp51 rfl rfl) (zab rfl rfl (zaa rfl) (zbl rfl ti51 tp51 rfl rfl) (zab rfl rfl (zaa rfl) (zbl rfl ti51 tp51 rfl rfl) (zab rfl rfl (zaa rfl) (does_lit rfl ts30 ti51 rfl rfl (by decide) (by decide) (by decide) rfl rfl) ?_))))
 refine zbm (zb5 (id := 2) rfl) (zbm (wk_sl (d := 23) rfl rfl (by first | rfl | (simp; done) | (simp; omega))) ?_)
 refine zd0 rfl (zai (zam ?_))
 refine zbg (F' := [(1, eL eI exD), (2, eL eSh exL), (3, .ref (ePl ⟨[1, 1], 7⟩).cells), (4, .ref [eI s1, eI t1, eL eBr L1, eL eF y1]), (5, eI 0), (6, eL eF exY2)]) (σ' := []) (zcg [] (by decide) trivial ⟨.lo _ (show Lo 0 (eL eI exD) from zat fun _ => .s _), .lo _ (show Lo 0 (eL eSh exL) from zat zdf), .lo _ (by repeat' (first | exact Lo.s _ | exact zav | refine zal ?_ ?_ | refine zat ?_ | refine Lo.cells ?_ | refine Lo.agg _ ?_ | refine Lo.ref _ ?_ | refine Lo.tup _ ?_ | refine Lo.fn _ _ ?_ | refine Lo.sl _ ?_ | intro _)), .lo _ hlb, .lo _ (.s _), .lo _ (show Lo 0 (eL eF exY2) from lo_Fs _), trivial⟩) ?_
 refine zac (zd0 rfl (zab rfl rfl (zaa rfl) (zdw rfl (zby rfl rfl rfl)) (zd0 rfl (zd4 tf28_0 rfl (zd3 ta22 rfl (zab rfl rfl (zak rfl rfl rfl) (does_lit rfl ts22 ti3 rfl rfl (by decide) (by decide) (by decide) rfl rfl) ?_))))))
 refine zbm (zb5 (id := 0) rfl) (zbm (wk_sl (d := 29) rfl rfl (by first | rfl | (simp; done) | (simp; omega))) ?_)
 refine zab rfl rfl (zak rfl rfl rfl) (zau rfl rfl ((equalSelf_pf [1, 1])) (zag rfl (zag rfl zaz))) (zd0 rfl (zd0 rfl (zd4 tf28_1 rfl (zd3 ta3 rfl (zab rfl rfl (zak rfl rfl rfl) (zdw rfl (zby rfl rfl rfl)) (zd0 rfl (zd0 rfl (zd0 rfl (zd0 rfl (zd5 ta28 ti28 rfl (zd5 ta32 ti32 rfl (zab rfl rfl (zak rfl rfl rfl) (zau rfl rfl (hc1) (zag rfl (zag rfl (zag rfl (zag rfl zaz))))) (zd0 rfl (zd0 rfl (zd0 rfl (zd0 rfl (zd5 ta28 ti28 rfl (zd0 rfl (zab rfl rfl (zak rfl rfl rfl) (zbl rfl ti32 tp32 rfl rfl) ?_)))))))))))))))))))
 refine zab rfl rfl (zak rfl rfl rfl) (does_callb rfl rfl hc2 (zbs.cons (.refl _) (zbs.cons (.refl _) (zbs.cons (.refl _) (zbs.cons (.agg _ _ rfl (zbs.cons (.refl _) (zbs.cons (.refl _) (zbs.cons .nil (zbs.cons (.refl _) zbs.nil)))).2) zbs.nil)))) (by repeat' (first | exact Flat.s _ | exact flat_nil | refine flat_cons ?_ ?_ | refine Flat.agg ?_ | refine Flat.tup ?_))) ?_
 refine zd0 rfl (zd0 rfl (zai (zao ?_)))
 (refine zbk ?_; repeat (first | refine zbv ?_ | refine zbw ?_))
 exact zch (.inr rfl) rfl rfl
end Go.Proofs.Ytllkbjcemecmjaa.Aw
end
section
namespace Go.Proofs.Ytllkbjcemecmjaa.Aw
theorem bst_cases {d : List Int} {l : List Sft} {lim : Int} (hv : zce d l = true) (h1 : 1 ≤ lim) (h2 : lim ≤ 1048576) (hp : prodF l l.length ≤ lim) (hq : prodF l l.length ≤ 10000) :
  (∃ c, c ∈ allC l ∧ shE d l c < 0 ∧ (bstR d l lim).2.2 = 0 ∧ (bstR d l lim).1.cost = prcP l c l.length ∧ ∀ c' ∈ allC l, shE d l c' < 0 → (bstR d l lim).1.cost ≤ prcP l c' l.length) ∨
  ((bstR d l lim).2.2 = 17 ∧ ∀ c ∈ allC l, ¬ shE d l c < 0) := by
 by_cases hs : shE d l (zc6 l) < 0
 ·
  left
  obtain ⟨c, b, g1, g2, g3⟩ := bstR_good hv h1 h2 hs hp hq
  have hf := srcE_ok hv
  unfold FoldR at hf
  rw [g1] at hf
  obtain ⟨f1, f2, f3, f4⟩ := hf
  rw [g2]
  exact ⟨c, f1, f2, rfl, f3, f4⟩
 ·
  right
  rw [bstR_none hv h1 h2 hs]
  refine ⟨rfl, fun c hc h => hs (shE_mono (fun k hk => ?_) h)⟩
  rw [mostL_gti hk]
  exact (((mem_allC l c).1 hc).2 k hk).2
theorem numF_prodF {d : List Int} {l : List Sft} (hv : zce d l = true) {L : Int} (hL : 0 ≤ L) (h : numF l L l.length ≤ L) : prodF l l.length ≤ L := by
 rw [numF_eq (most0 hv) hL _ (Nat.le_refl _)] at h
 omega
theorem shF_dem {d d' : List Int} {l : List Sft} {c : List Int} (h : ∀ p, gti d p ≤ gti d' p) : ∀ n k, shF d' l c n k < 0 → shF d l c n k < 0
 | 0, k, _ => by rw [shF]; decide
 | n + 1, k, h1 => by
  rw [shF] at h1 ⊢
  split at h1
  ·
   omega
  ·
   rename_i h2
   have := h k
   rw [if_neg (by omega)]
   exact shF_dem h n (k + 1) h1
def moreL (d : List Int) (k : Nat) : List Int := d.set k (gti d k + 1)
theorem moreL_len (d : List Int) (k : Nat) : (moreL d k).length = d.length := by simp [moreL]
theorem moreL_ge (d : List Int) (k : Nat) (p : Nat) : gti d p ≤ gti (moreL d k) p := by
 unfold moreL gti
 rw [List.getElem?_set]
 split
 ·
  rename_i e
  subst e
  split
  ·
   rename_i h; rw [List.getElem?_eq_getElem h]; show d[k] ≤ d[k] + 1; omega
  ·
   rename_i h; rw [List.getElem?_eq_none (by omega)]; exact Int.le_refl _
 ·
  exact Int.le_refl _
theorem more_ok {d : List Int} {l : List Sft} {lim : Int} {k : Nat} (hv : zce d l = true) (hv' : zce (moreL d k) l = true) (h1 : 1 ≤ lim) (h2 : lim ≤ 10000) (hp : prodF l l.length ≤ lim) :
  ((bstR (moreL d k) l lim).2.2 = 0 ∨ (bstR (moreL d k) l lim).2.2 = 17) ∧ ((bstR (moreL d k) l lim).2.2 = 0 → (bstR d l lim).2.2 = 0 ∧ (bstR d l lim).1.cost ≤ (bstR (moreL d k) l lim).1.cost) := by
 have hA := bst_cases hv h1 (by omega) hp (by omega)
 have hB := bst_cases hv' h1 (by omega) hp (by omega)
 rcases hB with ⟨c, f1, f2, f3, f4, f5⟩ | ⟨f1, f2⟩
 ·
  refine ⟨.inl f3, fun _ => ?_⟩
  have hc : shE d l c < 0 := by
   unfold shE at f2 ⊢
   rw [moreL_len] at f2
   exact shF_dem (moreL_ge d k) _ _ f2
  rcases hA with ⟨c0, g1, g2, g3, g4, g5⟩ | ⟨g1, g2⟩
  ·
   exact ⟨g3, by rw [f4]; exact g5 c f1 hc⟩
  ·
   exact absurd hc (g2 c f1)
 ·
  refine ⟨.inr f1, fun h => ?_⟩
  rw [f1] at h; cases h
def zc1 (l : List Sft) (k : Nat) : List Sft := l.set k ⟨(gti l k).pd, (gti l k).cost, (gti l k).most + 1⟩
theorem wideL_len (l : List Sft) (k : Nat) : (zc1 l k).length = l.length := by simp [zc1]
theorem wideL_gti {l : List Sft} {k : Nat} (hk : k < l.length) (i : Nat) : gti (zc1 l k) i = if i = k then ⟨(gti l k).pd, (gti l k).cost, (gti l k).most + 1⟩ else gti l i := by
 unfold zc1 gti
 rw [List.getElem?_set]
 by_cases e : i = k
 ·
  subst e; rw [if_pos rfl, if_pos rfl, if_pos hk]; rfl
 ·
  rw [if_neg (Ne.symm e), if_neg e]
theorem cvP_wide {l : List Sft} {k : Nat} (hk : k < l.length) (c : List Int) (p : Nat) : ∀ n, cvP (zc1 l k) c n p = cvP l c n p
 | 0 => rfl
 | n + 1 => by
  show cvP (zc1 l k) c n p + _ = cvP l c n p + _
  rw [cvP_wide hk c p n, wideL_gti hk]
  split
  ·
   rename_i e; subst e; rfl
  ·
   rfl
theorem prcP_wide {l : List Sft} {k : Nat} (hk : k < l.length) (c : List Int) : ∀ n, prcP (zc1 l k) c n = prcP l c n
 | 0 => rfl
 | n + 1 => by
  show prcP (zc1 l k) c n + _ = prcP l c n + _
  rw [prcP_wide hk c n, wideL_gti hk]
  split
  ·
   rename_i e; subst e; rfl
  ·
   rfl
theorem shF_cong {d : List Int} {l l' : List Sft} {c : List Int} (h : ∀ p, cvP l' c l'.length p = cvP l c l.length p) : ∀ n k, shF d l' c n k = shF d l c n k
 | 0, k => by rw [shF, shF]
 | n + 1, k => by rw [shF, shF, h k, shF_cong h n (k + 1)]
theorem wide_ok {d : List Int} {l : List Sft} {k : Nat} (hk : k < l.length) (hv : zce d l = true) (hv' : zce d (zc1 l k) = true) (hp : prodF l l.length ≤ 1000) (hp' : prodF (zc1 l k) (zc1 l k).length ≤ 1000) :
  ((bstR d (zc1 l k) 1000).2.2 = 0 ∨ (bstR d (zc1 l k) 1000).2.2 = 17) ∧ ((bstR d l 1000).2.2 = 0 → (bstR d (zc1 l k) 1000).2.2 = 0 ∧ (bstR d (zc1 l k) 1000).1.cost ≤ (bstR d l 1000).1.cost) := by
 have hA := bst_cases hv (lim := 1000) (by decide) (by decide) hp (by omega)
 have hB := bst_cases hv' (lim := 1000) (by decide) (by decide) hp' (by omega)
 have hmem : ∀ c, c ∈ allC l → c ∈ allC (zc1 l k) := fun c hc => by
  rw [mem_allC] at hc ⊢
  refine ⟨by rw [wideL_len]; exact hc.1, fun j hj => ?_⟩
  rw [wideL_len] at hj
  have := hc.2 j hj
  rw [wideL_gti hk]
  split
  ·
   rename_i e; subst e; show 0 ≤ gti c j ∧ gti c j ≤ (gti l j).most + 1; omega
  ·
   exact this
 have hsh : ∀ c, shE d (zc1 l k) c = shE d l c := fun c => shF_cong (fun p => by rw [wideL_len, cvP_wide hk]) _ _
 rcases hB with ⟨c, f1, f2, f3, f4, f5⟩ | ⟨f1, f2⟩
 ·
  refine ⟨.inl f3, fun h => ⟨f3, ?_⟩⟩
  rcases hA with ⟨c0, g1, g2, g3, g4, g5⟩ | ⟨g1, g2⟩
  ·
   have := f5 c0 (hmem c0 g1) (by rw [hsh]; exact g2)
   rw [wideL_len, prcP_wide hk] at this
   rw [g4]; exact this
  ·
   rw [g1] at h; cases h
 ·
  refine ⟨.inr f1, fun h => ?_⟩
  rcases hA with ⟨c0, g1, g2, g3, g4, g5⟩ | ⟨g1, g2⟩
  ·
   exact absurd (by rw [hsh]; exact g2) (f2 c0 (hmem c0 g1))
  ·
   rw [g1] at h; cases h
end Go.Proofs.Ytllkbjcemecmjaa.Aw
end
section
namespace Go.Proofs.Ytllkbjcemecmjaa.Aw
open Go Go.RowKit Go.Proofs
variable {P : Program} [IsP P]
theorem cloneD_call (l : List Int) (h1 : 1 ≤ l.length) (h2 : l.length ≤ 40) (σ : List Ob) : CallE P 10 [eL eI l] σ (.own σ.length 1 l.length) (σ ++ [.row 1 (l.map eI)]) := by
 have hnn : NonNil (eL eI l) := by
  cases l with
  | nil => simp at h1
  | cons a t => exact .sl _ _
 have hlm : (l.map eI).length = l.length := by simp
 refine callE_fn (by rw [IsP.eq (P := P)]; exact Try.func10) rfl rfl (Nat.le_of_ble_eq_true rfl) ?_
 refine ew_seq (zc9 (eops_s rfl (zc0 (zao (ew_seq (ew_seq (zc9 (eops_s rfl (zci rfl rfl (zaa rfl) (does_eqnil rfl ts22 rfl hnn rfl (.inl ⟨rfl, rfl⟩)) (zc0 (zao (ew_false rfl (ew_skip (zao (ew_seq (zc9 (zci rfl rfl (zaa rfl) (does_lit0 rfl rfl ts22 ti3) (eops_s rfl ?_))))))))))))))))))
 refine zci rfl rfl (zaa rfl) (does_append0 (l := l.map eI) rfl ts22 ti3 rfl (by decide) rfl (.inl rfl) rfl (.sl _ (by intro e he; simp at he; obtain ⟨_, _, rfl⟩ := he; rfl)) (by unfold maxLen; simp; omega) (by simp; omega)) ?_
 refine eops_s rfl (zc0 (zao (ew_ret ?_)))
 refine ⟨.inr rfl, rfl, _, .cons _ _ _ _ (.tmp _ _ rfl) .nil, ?_⟩
 rw [hlm]; rfl
theorem cloneS_call (l : List Sft) (h1 : 1 ≤ l.length) (h2 : l.length ≤ 40) (σ : List Ob) : CallE P 11 [eL eSh l] σ (.own σ.length 3 l.length) (σ ++ [.row 3 (l.map eSh)]) := by
 have hnn : NonNil (eL eSh l) := by
  cases l with
  | nil => simp at h1
  | cons a t => exact .sl _ _
 have hlm : (l.map eSh).length = l.length := by simp
 refine callE_fn (by rw [IsP.eq (P := P)]; exact Try.func11) rfl rfl (Nat.le_of_ble_eq_true rfl) ?_
 refine ew_seq (zc9 (eops_s rfl (zc0 (zao (ew_seq (ew_seq (zc9 (eops_s rfl (zci rfl rfl (zaa rfl) (does_eqnil rfl ts23 rfl hnn rfl (.inl ⟨rfl, rfl⟩)) (zc0 (zao (ew_false rfl (ew_skip (zao (ew_seq (zc9 (zci rfl rfl (zaa rfl) (does_lit0 rfl rfl ts23 ti39) (eops_s rfl ?_))))))))))))))))))
 refine zci rfl rfl (zaa rfl) (does_append0 (l := l.map eSh) rfl ts23 ti39 rfl (by decide) rfl (.inl rfl) rfl (.sl _ (by intro e he; simp at he; obtain ⟨_, _, rfl⟩ := he; rfl)) (by unfold maxLen; simp; omega) (by simp; omega)) ?_
 refine eops_s rfl (zc0 (zao (ew_ret ?_)))
 refine ⟨.inr rfl, rfl, _, .cons _ _ _ _ (.tmp _ _ rfl) .nil, ?_⟩
 rw [hlm]; rfl
def eU8 (n : Int) : AV := .s (.int .u8 n)
theorem eR3_mk (c : List Int) (k s t : Int) (L : List Br) (y : List Fr) (e : Int) : eR3 (⟨c, k⟩, .mk s t L y, e) = .tup [.agg [eL eI c, eI k], .agg [eI s, eI t, eL eBr L, eL eF y], eI e] := by unfold eR3; rw [eBr_mk]; rfl
set_option maxHeartbeats 16000000 in
theorem lawMore_pf (d : List Int) (l : List Sft) (a : { n : Int // 0 ≤ n ∧ n ≤ 255 }) : Pure P 3 [eL eI d, eL eSh l, eU8 a.1] (eB true) := by
 obtain ⟨a, ha1, ha2⟩ := a
 dsimp only
 have hfew := few_pf (P := P) d l
 have hval := qValid_pf54 (P := P) d l
 refine zdc (by rw [IsP.eq (P := P)]; exact Try.func3) rfl rfl rfl rfl rfl (zal (zat fun _ => .s _) (zal (zat zdf) (zal (.s _) zav))) (.s _) (by simp only [argF]; rfl) ?_
 refine zam (zac (zd0 rfl (zai (zam (zam (zac (zab rfl rfl (zaa rfl) (zau rfl rfl (awake54) zaz) (zab rfl rfl (zaa rfl) (zb2 rfl rfl) (zai (zao (za6 rfl (za4 (zam (zam ?_))))))))))))))
 cases hf : fewB d l with
 | false =>
  rw [hf] at hfew
  refine zac (zd0 rfl (zd0 rfl (zab rfl rfl (zaa rfl) (zau rfl rfl (hfew) (zag rfl (zag rfl zaz))) (zab rfl rfl (zaa rfl) (zb2 rfl rfl) (zd0 rfl (zd1 rfl (zd1 rfl (zd1 rfl (zd1 rfl (zd0 rfl (zd0 rfl (zd1 rfl (zd1 rfl (zd1 rfl (zd0 rfl (zai (zao (zbi rfl (zam (zac (zd0 rfl (zai (zao ?_)))))))))))))))))))))))
  (refine zbk ?_; repeat (first | refine zbv ?_ | refine zbw ?_))
  exact zch (.inr rfl) rfl rfl
 | true =>
 rw [hf] at hfew
 cases hv : zce d l with
 | false =>
  rw [hv] at hval
  refine zac (zd0 rfl (zd0 rfl (zab rfl rfl (zaa rfl) (zau rfl rfl (hfew) (zag rfl (zag rfl zaz))) (zab rfl rfl (zaa rfl) (zb2 rfl rfl) (zd0 rfl (zd0 rfl (zd0 rfl (zab rfl rfl (zak rfl rfl rfl) (zau rfl rfl (hval) (zag rfl (zag rfl zaz))) (zab rfl rfl (zak rfl rfl rfl) (zb2 rfl rfl) (zd0 rfl (zd0 rfl (zd1 rfl (zd1 rfl (zd1 rfl (zd0 rfl (zai (zao (zbi rfl (zam (zac (zd0 rfl (zai (zao ?_)))))))))))))))))))))))
  (refine zbk ?_; repeat (first | refine zbv ?_ | refine zbw ?_))
  exact zch (.inr rfl) rfl rfl
 | true =>
 rw [hv] at hval
 have hnum := rNum_pf (P := P) d l hv 300 (by decide)
 refine zac (zd0 rfl (zd0 rfl (zab rfl rfl (zaa rfl) (zau rfl rfl (hfew) (zag rfl (zag rfl zaz))) (zab rfl rfl (zaa rfl) (zb2 rfl rfl) (zd0 rfl (zd0 rfl (zd0 rfl (zab rfl rfl (zak rfl rfl rfl) (zau rfl rfl (hval) (zag rfl (zag rfl zaz))) (zab rfl rfl (zak rfl rfl rfl) (zb2 rfl rfl) (zd0 rfl (zd0 rfl (zd0 rfl (zab rfl rfl (zak rfl rfl rfl) (zau rfl rfl (hnum) (zag rfl (zag rfl zaz))) ?_)))))))))))))
 refine zbb rfl rfl (zak rfl rfl rfl) (zcd rfl rfl rfl) (fun h33 => ?_) (fun h33 => ?_)
 all_goals refine zd0 rfl (zai (zao ?_))
 all_goals (first | refine zbi rfl ?_ | refine za6 rfl ?_)
 all_goals (repeat (first | refine zam ?_ | refine za4 ?_))
 ·
  refine zac (zd0 rfl (zai (zao ?_)))
  (refine zbk ?_; repeat (first | refine zbv ?_ | refine zbw ?_))
  exact zch (.inr rfl) rfl rfl
 have hp := numF_prodF hv (L := 300) (by decide) (by omega)
 obtain ⟨⟨q1, q2, q3⟩, qd, ql⟩ := zcj hv
 have hb1 := best_pf (P := P) d l 1000
 have hB1 : (bstR d l 1000).2.2 = 0 ∨ (bstR d l 1000).2.2 = 17 := by
  rcases bst_cases hv (lim := 1000) (by decide) (by decide) (by omega) (by omega) with ⟨_, _, _, h, _⟩ | ⟨h, _⟩
  ·
   exact .inl h
  ·
   exact .inr h
 obtain ⟨k, hk⟩ : ∃ k : Nat, a.tmod (d.length : Nat) = k := ⟨(a.tmod (d.length : Nat)).toNat, by have := Int.tmod_nonneg (d.length : Int) ha1; omega⟩
 have hkl : k < d.length := by have := Int.tmod_lt_of_pos a (show (0 : Int) < (d.length : Nat) by omega); omega
 have hmo := fun hv' => more_ok (k := k) (lim := 1000) hv hv' (by decide) (by decide) (by omega)
 have hb2 := best_pf (P := P) (moreL d k) l 1000
 have hval2 := qValid_pf54 (P := P) (moreL d k) l
 have hwi := fun (k' : Nat) (hk' : k' < l.length) hv' hp' => wide_ok (k := k') hk' hv hv' (by omega) hp'
 generalize bstR d l 1000 = R1 at hb1 hB1 hmo hwi
 generalize bstR (moreL d k) l 1000 = R2 at hb2 hmo
 obtain ⟨⟨c1, k1⟩, ⟨s1, t1, L1, y1⟩, e1⟩ := R1
 obtain ⟨⟨c2, k2⟩, ⟨s2, t2, L2, y2⟩, e2⟩ := R2
 rw [eR3_mk] at hb1 hb2
 dsimp only at hB1 hmo hwi
 have hcd := cloneD_call (P := P) d q1 (by omega)
 have hxd : (d.map eI)[k]? = some (eI (gti d k)) := zbr hkl
 have hdk := qd k hkl
 have hlc : ∀ c k, Lo 0 (.ref [eL eI c, eI k]) := fun c k => .ref _ (zal (zat fun _ => .s _) (zal (.s _) zav))
 refine zac (zd0 rfl (zd0 rfl (zab rfl rfl (zaa rfl) (zau rfl rfl (hb1) (zag rfl (zag rfl (zag rfl zaz)))) (zd0 rfl (zd0 rfl (zd0 rfl (zd0 rfl (zab rfl rfl (zaa rfl) (za7 rfl ti28 rfl rfl) (zab rfl rfl (zaa rfl) (za7 rfl ti32 rfl rfl) (zbo rfl (zaa rfl) (zap rfl ti28 rfl rfl rfl rfl rfl rfl (by decide) (by decide)) (zbo rfl (zaa rfl) (zap rfl ti32 rfl rfl rfl rfl rfl rfl (by decide) (by decide)) (zd0 rfl (zai (zam (zam ?_)))))))))))))))
 refine zbg (zb5 (id := 0) rfl) ?_
 refine zbg (zcs (d := 7) rfl rfl rfl) ?_
 refine zbg (F' := [(0, eL eI d), (1, eL eSh l), (2, eU8 a), (7, .ref [eL eI c1, eI k1]), (9, eI e1)]) (σ' := []) (zcg [] (by decide) trivial ⟨.lo _ (zat fun _ => .s _), .lo _ (zat zdf), .lo _ (.s _), .lo _ (hlc _ _), .lo _ (.s _), trivial⟩) ?_
 refine aw_join [(0, eL eI d), (1, eL eSh l), (2, eU8 a), (7, .ref [eL eI c1, eI k1]), (9, eI e1)] [] ?_ ?_
 ·
  rcases hB1 with rfl | rfl
  ·
   refine zac (zd0 rfl (zab rfl rfl (zaa rfl) (dec_f (by decide) (zb3 rfl rfl rfl)) (zd0 rfl (zd1 rfl (zd1 rfl (zd0 rfl (zai (zao (za6 rfl (za4 (zao ?_)))))))))))
   exact zcg [] (by decide) trivial ⟨.lo _ (zat fun _ => .s _), .lo _ (zat zdf), .lo _ (.s _), .lo _ (hlc _ _), .lo _ (.s _), trivial⟩
  ·
   refine zac (zd0 rfl (zab rfl rfl (zaa rfl) (zdw (by decide) (zb3 rfl rfl rfl)) (zd0 rfl (zd0 rfl (zab rfl rfl (zak rfl rfl rfl) (dec_f (by decide) (zb3 rfl rfl rfl)) (zd0 rfl (zai (zao (za6 rfl (za4 (zao ?_)))))))))))
   exact zcg [] (by decide) trivial ⟨.lo _ (zat fun _ => .s _), .lo _ (zat zdf), .lo _ (.s _), .lo _ (hlc _ _), .lo _ (.s _), trivial⟩
 refine zam (zac (zd0 rfl (zab rfl rfl (zaa rfl) (zbn rfl rfl (hcd _) (zag rfl zaz)) (zd0 rfl (zai (zam (zac (zd0 rfl (zd0 rfl (zab rfl rfl (zaa rfl) (does_conv rfl tu5 tk3 rfl (IntWalk.i64_in _ (by omega))) (zd0 rfl (zab rfl rfl (zaa rfl) (zc3 rfl ts22 rfl) (zab rfl rfl (zaa rfl) (does_rem rfl rfl rfl (by omega) hk) (zab rfl rfl (zaa rfl) (za0 rfl ts22 ti3 rfl rfl rfl hkl) (zab rfl rfl (zaa rfl) (zax rfl ta3 rfl rfl rfl hxd rfl) (zab rfl rfl (zaa rfl) (za3 rfl rfl rfl (IntWalk.i64_in _ (by omega))) ?_))))))))))))))))
 refine zab rfl rfl (zaa rfl) (za0 rfl ts22 ti3 rfl rfl rfl hkl) (zbo rfl (zaa rfl) (zap rfl ti3 rfl rfl rfl hxd rfl rfl (by decide) (by decide)) (zai (zam ?_)))
 refine zbg (F' := [(0, eL eI d), (1, eL eSh l), (2, eU8 a), (7, .ref [eL eI c1, eI k1]), (9, eI e1), (10, .own 0 1 d.length)]) (σ' := [.row 1 ((moreL d k).map eI)]) (zcg [0] (by decide) ⟨⟨_, rfl, .rowE (za2 fun _ => (Lo.s _).cells) (by unfold moreL; rw [List.map_set]; rfl)⟩, trivial⟩ ⟨.lo _ (zat fun _ => .s _), .lo _ (zat zdf), .lo _ (.s _), .lo _ (hlc _ _), .lo _ (.s _), .own 0 0 1 _ _ rfl (by simp), trivial⟩) ?_
 refine zbg (zb5 (id := 0) rfl) ?_
 refine zbg (wk_sl (d := 10) rfl rfl (by simp [moreL_len])) ?_
 refine zbg (F' := [(0, eL eI d), (1, eL eSh l), (2, eU8 a), (7, .ref [eL eI c1, eI k1]), (9, eI e1), (10, eL eI (moreL d k))]) (σ' := []) (zcg [] (by decide) trivial ⟨.lo _ (zat fun _ => .s _), .lo _ (zat zdf), .lo _ (.s _), .lo _ (hlc _ _), .lo _ (.s _), .lo _ (zat fun _ => .s _), trivial⟩) ?_
 refine zac (zd0 rfl (zd0 rfl (zab rfl rfl (zaa rfl) (zau rfl rfl (hb2) (zag rfl (zag rfl (zag rfl zaz)))) (zd0 rfl (zd0 rfl (zd0 rfl (zd0 rfl (zab rfl rfl (zaa rfl) (za7 rfl ti28 rfl rfl) (zab rfl rfl (zaa rfl) (za7 rfl ti32 rfl rfl) (zbo rfl (zaa rfl) (zap rfl ti28 rfl rfl rfl rfl rfl rfl (by decide) (by decide)) (zbo rfl (zaa rfl) (zap rfl ti32 rfl rfl rfl rfl rfl rfl (by decide) (by decide)) (zd0 rfl (zai (zam (zam ?_)))))))))))))))
 refine zbg (zb5 (id := 0) rfl) ?_
 refine zbg (zcs (d := 11) rfl rfl rfl) ?_
 refine zbg (F' := [(0, eL eI d), (1, eL eSh l), (2, eU8 a), (7, .ref [eL eI c1, eI k1]), (9, eI e1), (10, eL eI (moreL d k)), (11, .ref [eL eI c2, eI k2]), (13, eI e2)]) (σ' := []) (zcg [] (by decide) trivial ⟨.lo _ (zat fun _ => .s _), .lo _ (zat zdf), .lo _ (.s _), .lo _ (hlc _ _), .lo _ (.s _), .lo _ (zat fun _ => .s _), .lo _ (hlc _ _), .lo _ (.s _), trivial⟩) ?_
 refine aw_join [(0, eL eI d), (1, eL eSh l), (2, eU8 a), (7, .ref [eL eI c1, eI k1]), (9, eI e1)] [] ?_ ?_
 ·
  cases hv2 : zce (moreL d k) l with
  | false =>
   rw [hv2] at hval2
   refine zac (zd0 rfl (zd0 rfl (zab rfl rfl (zaa rfl) (zau rfl rfl (hval2) (zag rfl (zag rfl zaz))) (zd0 rfl (zd1 rfl (zd1 rfl (zd1 rfl (zaj rfl rfl (za9 rfl rfl rfl) (zaj rfl rfl (za9 rfl rfl rfl) (zd1 rfl (zd1 rfl (zaj rfl rfl (za9 rfl rfl rfl) (zaj rfl rfl (za9 rfl rfl rfl) (zaj rfl rfl (za9 rfl rfl rfl) (zaj rfl rfl (za9 rfl rfl rfl) (zaj rfl rfl (za9 rfl rfl rfl) (zaj rfl rfl (za9 rfl rfl rfl) (zaj rfl rfl (za9 rfl rfl rfl) (zaj rfl rfl (za9 rfl rfl rfl) ?_)))))))))))))))))))
   refine zaj rfl rfl (za9 rfl rfl rfl) (zaj rfl rfl (za9 rfl rfl rfl) (zaj rfl rfl (za9 rfl rfl rfl) (zaj rfl rfl (za9 rfl rfl rfl) (zaj rfl rfl (za9 rfl rfl rfl) (zd1 rfl (zd0 rfl (zai (zao (za6 rfl (za4 (zao ?_)))))))))))
   exact zcg [] (by decide) trivial ⟨.lo _ (zat fun _ => .s _), .lo _ (zat zdf), .lo _ (.s _), .lo _ (hlc _ _), .lo _ (.s _), trivial⟩
  | true =>
   rw [hv2] at hval2
   obtain ⟨m1, m2⟩ := hmo hv2
   rcases m1 with rfl | rfl
   ·
    obtain ⟨m3, m4⟩ := m2 rfl
    subst m3
    refine zac (zd0 rfl (zd0 rfl (zab rfl rfl (zaa rfl) (zau rfl rfl (hval2) (zag rfl (zag rfl zaz))) (zd0 rfl (zd0 rfl (zab rfl rfl (zak rfl rfl rfl) (dec_f (by decide) (zb3 rfl rfl rfl)) (zd0 rfl (zd1 rfl (zd1 rfl (zd0 rfl (zd0 rfl (zd0 rfl (zab rfl rfl (zak rfl rfl rfl) (zdw rfl (zby rfl rfl rfl)) (zd0 rfl (zd0 rfl (zab rfl rfl (zak rfl rfl rfl) (dec_f (by decide) (zb3 rfl rfl rfl)) (zd0 rfl (zd4 tf28_1 rfl (zd3 ta3 rfl (zd4 tf28_1 rfl (zd3 ta3 rfl (zab rfl rfl (zak rfl rfl rfl) (dec_f (Int.not_lt.2 m4) (zbf rfl rfl rfl)) ?_))))))))))))))))))))))
    refine zd0 rfl (zd0 rfl (zd0 rfl (zd0 rfl (zai (zao (za6 rfl (za4 (zao ?_))))))))
    exact zcg [] (by decide) trivial ⟨.lo _ (zat fun _ => .s _), .lo _ (zat zdf), .lo _ (.s _), .lo _ (hlc _ _), .lo _ (.s _), trivial⟩
   ·
    refine zac (zd0 rfl (zd0 rfl (zab rfl rfl (zaa rfl) (zau rfl rfl (hval2) (zag rfl (zag rfl zaz))) (zd0 rfl (zd0 rfl (zab rfl rfl (zak rfl rfl rfl) (zdw (by decide) (zb3 rfl rfl rfl)) (zd0 rfl (zd0 rfl (zab rfl rfl (zak rfl rfl rfl) (dec_f (by decide) (zb3 rfl rfl rfl)) (zd0 rfl (zd0 rfl (zd0 rfl (zab rfl rfl (zak rfl rfl rfl) (dec_f (by decide) (zby rfl rfl rfl)) (zd0 rfl (zd1 rfl (zd1 rfl (zd1 rfl (zaj rfl rfl (za9 rfl rfl rfl) (zaj rfl rfl (za9 rfl rfl rfl) (zaj rfl rfl (za9 rfl rfl rfl) ?_))))))))))))))))))))
    refine zaj rfl rfl (za9 rfl rfl rfl) (zaj rfl rfl (za9 rfl rfl rfl) (zd1 rfl (zd0 rfl (zd0 rfl (zd0 rfl (zai (zao (za6 rfl (za4 (zao ?_))))))))))
    exact zcg [] (by decide) trivial ⟨.lo _ (zat fun _ => .s _), .lo _ (zat zdf), .lo _ (.s _), .lo _ (hlc _ _), .lo _ (.s _), trivial⟩
 refine zam (zam (zac (zd0 rfl (zab rfl rfl (zaa rfl) (zay rfl ts23 rfl) ?_))))
 refine zbb rfl rfl (zaa rfl) (zby rfl rfl rfl) (fun h95 => ?_) (fun h95 => ?_)
 all_goals refine zai (zao ?_)
 all_goals (first | refine zbi rfl ?_ | refine za6 rfl ?_)
 all_goals (repeat (first | refine zam ?_ | refine za4 ?_))
 ·
  refine zac (zd0 rfl (zai (zao ?_)))
  (refine zbk ?_; repeat (first | refine zbv ?_ | refine zbw ?_))
  exact zch (.inr rfl) rfl rfl
 have hl0 : 1 ≤ l.length := by omega
 obtain ⟨j, hj⟩ : ∃ j : Nat, a.tmod (l.length : Nat) = j := ⟨(a.tmod (l.length : Nat)).toNat, by have := Int.tmod_nonneg (l.length : Int) ha1; omega⟩
 have hjl : j < l.length := by have := Int.tmod_lt_of_pos a (show (0 : Int) < (l.length : Nat) by omega); omega
 have hcs := cloneS_call (P := P) l hl0 (by omega)
 have hxl : (l.map eSh)[j]? = some (eSh (gti l j)) := zbr hjl
 have hlj := (ql j hjl).1
 have hwj := hwi j hjl
 have hb3 := best_pf (P := P) d (zc1 l j) 1000
 have hval3 := qValid_pf54 (P := P) d (zc1 l j)
 generalize bstR d (zc1 l j) 1000 = R3 at hb3 hwj
 obtain ⟨⟨c3, k3⟩, ⟨s3, t3, L3, y3⟩, e3⟩ := R3
 rw [eR3_mk] at hb3
 dsimp only at hwj
 refine zac (zd0 rfl (zab rfl rfl (zaa rfl) (zbn rfl rfl (hcs _) (zag rfl zaz)) (zd0 rfl (zai (zam (zac (zd0 rfl (zd0 rfl (zab rfl rfl (zaa rfl) (does_conv rfl tu5 tk3 rfl (IntWalk.i64_in _ (by omega))) (zd0 rfl (zab rfl rfl (zaa rfl) (zay rfl ts23 rfl) (zab rfl rfl (zaa rfl) (does_rem rfl rfl rfl (by omega) hj) (zab rfl rfl (zaa rfl) (za0 rfl ts23 ti39 rfl rfl rfl hjl) (zd4 tf39_2 rfl (zab rfl rfl (zaa rfl) (zax rfl ta3 rfl rfl rfl hxl rfl) (zab rfl rfl (zaa rfl) (za3 rfl rfl rfl (IntWalk.i64_in _ (by omega))) ?_))))))))))))))))
 refine zab rfl rfl (zaa rfl) (za0 rfl ts23 ti39 rfl rfl rfl hjl) (zd4 tf39_2 rfl (zbo rfl (zaa rfl) (zap rfl ti3 rfl rfl rfl hxl rfl rfl (by decide) (by decide)) (zai (zam ?_))))
 refine zbg (F' := [(0, eL eI d), (1, eL eSh l), (2, eU8 a), (7, .ref [eL eI c1, eI k1]), (9, eI e1), (14, .own 0 3 l.length)]) (σ' := [.row 3 ((zc1 l j).map eSh)]) (zcg [0] (by decide) ⟨⟨_, rfl, .rowE (za2 fun s => (zdf s).cells) (by unfold zc1; rw [List.map_set]; rfl)⟩, trivial⟩ ⟨.lo _ (zat fun _ => .s _), .lo _ (zat zdf), .lo _ (.s _), .lo _ (hlc _ _), .lo _ (.s _), .own 0 0 3 _ _ rfl (by simp), trivial⟩) ?_
 refine zbg (zb5 (id := 0) rfl) ?_
 refine zbg (wk_sl (d := 14) rfl rfl (by simp [wideL_len])) ?_
 refine zbg (F' := [(0, eL eI d), (1, eL eSh l), (2, eU8 a), (7, .ref [eL eI c1, eI k1]), (9, eI e1), (14, eL eSh (zc1 l j))]) (σ' := []) (zcg [] (by decide) trivial ⟨.lo _ (zat fun _ => .s _), .lo _ (zat zdf), .lo _ (.s _), .lo _ (hlc _ _), .lo _ (.s _), .lo _ (zat zdf), trivial⟩) ?_
 refine zac (zd0 rfl (zd0 rfl (zab rfl rfl (zaa rfl) (zau rfl rfl (hb3) (zag rfl (zag rfl (zag rfl zaz)))) (zd0 rfl (zd0 rfl (zd0 rfl (zd0 rfl (zab rfl rfl (zaa rfl) (za7 rfl ti28 rfl rfl) (zab rfl rfl (zaa rfl) (za7 rfl ti32 rfl rfl) (zbo rfl (zaa rfl) (zap rfl ti28 rfl rfl rfl rfl rfl rfl (by decide) (by decide)) (zbo rfl (zaa rfl) (zap rfl ti32 rfl rfl rfl rfl rfl rfl (by decide) (by decide)) (zd0 rfl (zai (zam (zam ?_)))))))))))))))
 refine zbg (zb5 (id := 0) rfl) ?_
 refine zbg (zcs (d := 15) rfl rfl rfl) ?_
 refine zbg (F' := [(0, eL eI d), (7, .ref [eL eI c1, eI k1]), (9, eI e1), (14, eL eSh (zc1 l j)), (15, .ref [eL eI c3, eI k3]), (17, eI e3)]) (σ' := []) (zcg [] (by decide) trivial ⟨.lo _ (zat fun _ => .s _), .lo _ (hlc _ _), .lo _ (.s _), .lo _ (zat zdf), .lo _ (hlc _ _), .lo _ (.s _), trivial⟩) ?_
 cases hv3 : zce d (zc1 l j) with
 | false =>
  rw [hv3] at hval3
  refine zac (zd0 rfl (zd0 rfl (zab rfl rfl (zaa rfl) (zau rfl rfl (hval3) (zag rfl (zag rfl zaz))) (zab rfl rfl (zaa rfl) (zb2 rfl rfl) (zd0 rfl (zd1 rfl (zd1 rfl (zd1 rfl (zd0 rfl (zai (zao (zbi rfl (zam (zac (zd0 rfl (zai (zao ?_)))))))))))))))))
  (refine zbk ?_; repeat (first | refine zbv ?_ | refine zbw ?_))
  exact zch (.inr rfl) rfl rfl
 | true =>
  rw [hv3] at hval3
  have hnum3 := rNum_pf (P := P) d (zc1 l j) hv3 1000 (by decide)
  refine zac (zd0 rfl (zd0 rfl (zab rfl rfl (zaa rfl) (zau rfl rfl (hval3) (zag rfl (zag rfl zaz))) (zab rfl rfl (zaa rfl) (zb2 rfl rfl) (zd0 rfl (zd0 rfl (zab rfl rfl (zak rfl rfl rfl) (zau rfl rfl (hnum3) (zag rfl (zag rfl zaz))) ?_)))))))
  refine zbb rfl rfl (zak rfl rfl rfl) (zcd rfl rfl rfl) (fun h124 => ?_) (fun h124 => ?_)
  all_goals refine zd0 rfl (zai (zao ?_))
  all_goals (first | refine zbi rfl ?_ | refine za6 rfl ?_)
  all_goals (repeat (first | refine zam ?_ | refine za4 ?_))
  ·
   refine zac (zd0 rfl (zai (zao ?_)))
   (refine zbk ?_; repeat (first | refine zbv ?_ | refine zbw ?_))
   exact zch (.inr rfl) rfl rfl
  obtain ⟨w1, w2⟩ := hwj hv3 (numF_prodF hv3 (by decide) (by omega))
  rcases w1 with w1 | w1
  ·
   subst w1
   rcases hB1 with rfl | rfl
   ·
    obtain ⟨_, w4⟩ := w2 rfl
    refine zac (zd0 rfl (zab rfl rfl (zaa rfl) (zdw rfl (zby rfl rfl rfl)) (zd0 rfl (zd1 rfl (zd1 rfl (zd0 rfl (zd0 rfl (zd0 rfl (zab rfl rfl (zak rfl rfl rfl) (dec_f (by decide) (zb3 rfl rfl rfl)) (zd0 rfl (zd0 rfl (zab rfl rfl (zak rfl rfl rfl) (zdw rfl (zby rfl rfl rfl)) (zd0 rfl (zd4 tf28_1 rfl (zd3 ta3 rfl (zd4 tf28_1 rfl (zd3 ta3 rfl (zab rfl rfl (zak rfl rfl rfl) (zdw w4 (does_leq rfl rfl rfl)) (zd0 rfl (zd0 rfl (zd0 rfl (zd0 rfl (zai (zao ?_))))))))))))))))))))))))
    (refine zbk ?_; repeat (first | refine zbv ?_ | refine zbw ?_))
    exact zch (.inr rfl) rfl rfl
   ·
    refine zac (zd0 rfl (zab rfl rfl (zaa rfl) (zdw rfl (zby rfl rfl rfl)) (zd0 rfl (zd1 rfl (zd1 rfl (zd0 rfl (zd0 rfl (zd0 rfl (zab rfl rfl (zak rfl rfl rfl) (zdw (by decide) (zb3 rfl rfl rfl)) (zd0 rfl (zd1 rfl (zd1 rfl (zd1 rfl (zaj rfl rfl (za9 rfl rfl rfl) (zaj rfl rfl (za9 rfl rfl rfl) (zaj rfl rfl (za9 rfl rfl rfl) (zaj rfl rfl (za9 rfl rfl rfl) (zaj rfl rfl (za9 rfl rfl rfl) (zd1 rfl (zd0 rfl (zd0 rfl (zd0 rfl (zai (zao ?_))))))))))))))))))))))))
    (refine zbk ?_; repeat (first | refine zbv ?_ | refine zbw ?_))
    exact zch (.inr rfl) rfl rfl
  ·
   subst w1
   rcases hB1 with rfl | rfl
   ·
    exact absurd (w2 rfl).1 (by decide)
   ·
    refine zac (zd0 rfl (zab rfl rfl (zaa rfl) (dec_f (by decide) (zby rfl rfl rfl)) (zd0 rfl (zd0 rfl (zab rfl rfl (zak rfl rfl rfl) (zdw rfl (zby rfl rfl rfl)) (zd0 rfl (zd0 rfl (zd0 rfl (zab rfl rfl (zak rfl rfl rfl) (zdw (by decide) (zb3 rfl rfl rfl)) (zd0 rfl (zd1 rfl (zd1 rfl (zd1 rfl (zaj rfl rfl (za9 rfl rfl rfl) (zaj rfl rfl (za9 rfl rfl rfl) (zaj rfl rfl (za9 rfl rfl rfl) (zaj rfl rfl (za9 rfl rfl rfl) (zaj rfl rfl (za9 rfl rfl rfl) (zd1 rfl (zd0 rfl (zd0 rfl ?_)))))))))))))))))))))
    refine zd0 rfl (zai (zao ?_))
    (refine zbk ?_; repeat (first | refine zbv ?_ | refine zbw ?_))
    exact zch (.inr rfl) rfl rfl
end Go.Proofs.Ytllkbjcemecmjaa.Aw
end
section
namespace Go.Proofs.Ytllkbjcemecmjaa
open Go.ChangeShapes Go.WideShapes Go.ChangeAt Go.RowKit
theorem own_knob : ownKnob Try.prog.godebug = none := by kernel_rfl
theorem laid_out : laidOutB Try.prog = true := by kernel_rfl
section
variable {H : Type} {enc : TypeId × Value → H}
set_option maxRecDepth 100000 in
theorem law_post {f : Func} {s : ChangeSpec} {W W' : World} {args : Array Value} {ds gs : List (DataW H)} {before : List MemPlace} {t : TypeId}
  (hW : DataW.Whole enc Try.prog f.params.toList s.vars false W args.toList ds gs before) (hr : f.resultTypes = #[t]) (ht : Try.prog.underlying t = some .bool)
  (hfn : (s.fn H (ds ++ gs)).results = [.lit (.bool true)] ∧ (s.fn H (ds ++ gs)).args = ds ∧ (s.fn H (ds ++ gs)).vars = []) (hv : s.vars = [])
  (hargs : DataW.TrodAll enc Try.prog W' 0 (fun b => decide (b < W.heap.size)) true f.params.toList args.toList ds before) (hb : Below W.heap.size W W') :
  s.post enc Try.prog f false true false false W args (.bool true) W' := by
 refine ⟨ds, gs, before, [], before, [], hW, ?_, ?_, ?_, World.keptBut_mono (fun p hp => ⟨hp, Or.inr (by simpa using hp)⟩) (hb.frame (· ∈ before)), fun h => by cases h⟩
 ·
  rw [hfn.1, hr]
  exact trodAll_mk1 (shut_bool ht true)
 ·
  rw [hfn.2.1]
  exact hargs
 ·
  rw [hfn.2.2, hv]
  rfl
end
namespace Aw
def G0 (W : World) : Cx := { base := 0, w0 := W, w := W, mu := fun _ => none, St := fun b _ => b < W.heap.size }
theorem pure_law {P : Program} {f : FuncId} {args : List AV} (hp : Pure P f args (eB true)) (W : World) (vargs : Array Value) (hsz : vargs.size = args.length) (hrep : ∀ (j : Nat) v x, vargs[j]? = some v → args[j]? = some x → Rep (G0 W) v x) :
  Calls P f vargs W fun e w' => e = .returned (.bool true) ∧ Below W.heap.size W w' :=
 (hp.call (G0 W) vargs ⟨fun b o h => h, ⟨⟩⟩ hsz hrep).mono (by
  rintro e w' ⟨v, G', rfl, rfl, hb, _, _, _, hr⟩
  exact ⟨by rw [rep_s hr], hb⟩)
section
variable {H : Type} {enc : TypeId × Value → H} {w : World} {base : Nat} {sp : Nat → Bool} {held : Bool}
def Rc (w : World) (cs : List Value) (l : List AV) : Prop := cs.length = l.length ∧ (∀ c ∈ l, c.one = true) ∧ ∀ (j : Nat) v c, cs[j]? = some v → l[j]? = some c → Rep (G0 w) v c
theorem rc_nil : Rc w [] [] := ⟨rfl, by simp, fun j v c h => by simp at h⟩
theorem rc_cons {v : Value} {a : AV} {cs : List Value} {l : List AV} (h1 : Rep (G0 w) v a) (h2 : a.one = true) (h : Rc w cs l) : Rc w (v :: cs) (a :: l) :=
 ⟨by simp [h.1], fun c hc => by
  rcases List.mem_cons.1 hc with rfl | hc
  ·
   exact h2
  ·
   exact h.2.1 c hc, fun j u c hu hc => by
  cases j with
  | zero => simp at hu hc; subst hu hc; exact h1
  | succ j => simp at hu hc; exact h.2.2 j u c hu hc⟩
theorem addr_off (b off j : Nat) : (⟨b, off, none⟩ : Addr).add j = ⟨b, off + j, none⟩ := by unfold Addr.add; split <;> simp_all
theorem opens_sliceN {t e : TypeId} {β : Type} {f : β → AV} {size : Nat} (ht : Try.prog.underlying t = some (.slice e)) (hc : Try.prog.cellsOf e = size) (hpos : 0 < size) (hen : ∀ b, (f b).cells.length = size)
  {fuel : Nat} (hel : ∀ n, n < fuel → ∀ cs (x : DataW H × List MemPlace), DataW.trod enc Try.prog w base sp held n e cs = some x → ∃ b, Rc w cs (f b).cells)
  {cs : List Value} {x : DataW H × List MemPlace} (h : DataW.trod enc Try.prog w base sp held fuel t cs = some x) : ∃ (v : Value) (l : List β), cs = [v] ∧ Rep (G0 w) v (eL f l) := by
 rcases DataW.trod_slice ht h with ⟨rfl, _⟩ | ⟨a, len, cap, elems, rest, n, hfu, rfl, _, hb, hl, hm, hlen, helem, _⟩
 ·
  exact ⟨_, [], rfl, .slnil none 0⟩
 ·
  rw [hc] at helem
  have hx : ∀ i : Fin len, ∃ p : List Value × β, w.cells? base (a.add (i * size)) size = some p.1 ∧ Rc w p.1 (f p.2).cells := by
   intro i
   have h1 := helem i i.2
   have hi : (i : Nat) < elems.length := by rw [hlen]; exact i.2
   rw [List.getElem?_eq_getElem hi, Option.bind_eq_some_iff] at h1
   obtain ⟨cs', h2, h3⟩ := h1
   obtain ⟨y, hy⟩ := hel n (by omega) _ _ h3
   exact ⟨(cs', y), h2, hy⟩
  obtain ⟨g, hg⟩ : ∃ g : Fin len → List Value × β, ∀ i : Fin len, w.cells? base (a.add ((i : Nat) * size)) size = some (g i).1 ∧ Rc w (g i).1 (f (g i).2).cells := ⟨fun i => Classical.choose (hx i), fun i => Classical.choose_spec (hx i)⟩
  rcases Nat.eq_zero_or_pos len with h0 | hn
  ·
   subst h0
   exact ⟨_, [], rfl, .slnil _ _⟩
  ·
   have hspot : a.spot = none := by
    have h1 := World.cells?_some (hg ⟨0, hn⟩).1
    have h2 := h1.2.2 0 hpos
    have h3 : ((a.add (0 * size)).add 0) = a := by simp [Addr.add]
    rw [List.getElem?_eq_getElem (by rw [h1.2.1]; exact hpos)] at h2
    have h4 := World.cell?_spot h2
    simpa [Addr.add] using h4
   obtain ⟨b, off, s⟩ := a
   simp only at hspot
   subst hspot
   refine ⟨_, List.ofFn (fun i => (g i).2), rfl, ?_⟩
   have hlf : ((List.ofFn fun i => (g i).2).map f).length = len := by simp
   have hel2 : ∀ (k : Nat) e, ((List.ofFn fun i => (g i).2).map f)[k]? = some e → ∃ hk : k < len, e = f (g ⟨k, hk⟩).2 := by
    intro k e hk
    have hkl : k < len := by have := (List.getElem?_eq_some_iff.1 hk).1; rwa [hlf] at this
    refine ⟨hkl, ?_⟩
    rw [List.getElem?_map, List.getElem?_ofFn] at hk
    simp [hkl] at hk
    exact hk.symm
   have key : ∀ (k : Nat) e (j : Nat) c, ((List.ofFn fun i => (g i).2).map f)[k]? = some e → e.cells[j]? = some c → ∃ u, w.cell? ⟨b, off + k * size + j, none⟩ = some u ∧ Rep (G0 w) u c := by
    intro k e j c hk hc'
    obtain ⟨hkl, rfl⟩ := hel2 k e hk
    obtain ⟨q1, q2, q3⟩ := (hg ⟨k, hkl⟩).2
    have hcs := World.cells?_some (hg ⟨k, hkl⟩).1
    have hj : j < size := by rw [← hen (g ⟨k, hkl⟩).2]; exact (List.getElem?_eq_some_iff.1 hc').1
    have hj2 : j < (g ⟨k, hkl⟩).1.length := by rw [hcs.2.1]; exact hj
    have h5 := hcs.2.2 j hj
    rw [List.getElem?_eq_getElem hj2] at h5
    rw [addr_off, addr_off] at h5
    exact ⟨(g ⟨k, hkl⟩).1[j], h5, q3 j _ c (List.getElem?_eq_getElem hj2) hc'⟩
   have hR := Rep.sl (G := G0 w) b off cap size ((List.ofFn fun i => (g i).2).map f) (fun k j => (w.cell? ⟨b, off + k * size + j, none⟩).getD undef) (by rw [hlf]; exact hl) (by rw [hlf]; exact Nat.le_trans hl hm) (fun k e hk => by
     obtain ⟨hkl, rfl⟩ := hel2 k e hk
     exact ⟨hen _, (hg ⟨k, hkl⟩).2.2.1⟩) (fun k e j c hk hc' => by
     obtain ⟨u, h6, _⟩ := key k e j c hk hc'
     exact ⟨World.block_lt_of_cell? _ _ h6, by show w.cell? _ = _; rw [h6]; rfl⟩) (fun k e j c hk hc' => by
     obtain ⟨u, h6, h7⟩ := key k e j c hk hc'
     rw [h6]; exact h7)
   rw [hlf] at hR
   exact hR
theorem opens_slice {t e : TypeId} {β : Type} {f : β → AV} {size : Nat} (ht : Try.prog.underlying t = some (.slice e)) (hc : Try.prog.cellsOf e = size) (hpos : 0 < size) (hen : ∀ b, (f b).cells.length = size)
  (hel : ∀ fuel cs (x : DataW H × List MemPlace), DataW.trod enc Try.prog w base sp held fuel e cs = some x → ∃ b, Rc w cs (f b).cells)
  {fuel : Nat} {cs : List Value} {x : DataW H × List MemPlace} (h : DataW.trod enc Try.prog w base sp held fuel t cs = some x) : ∃ (v : Value) (l : List β), cs = [v] ∧ Rep (G0 w) v (eL f l) :=
 opens_sliceN ht hc hpos hen (fun n _ cs x h => hel n cs x h) h
theorem opens_int {fuel : Nat} {cs : List Value} {x : DataW H × List MemPlace} (h : DataW.trod enc Try.prog w base sp held fuel 3 cs = some x) : ∃ n : Int, Rc w cs (eI n).cells := by
 obtain ⟨n, rfl, _⟩ := DataW.trod_int Try.underlying3 h
 exact ⟨n, rc_cons (.s _) rfl rc_nil⟩
theorem opens_ints {fuel : Nat} {cs : List Value} {x : DataW H × List MemPlace} (h : DataW.trod enc Try.prog w base sp held fuel 22 cs = some x) : ∃ (v : Value) (l : List Int), cs = [v] ∧ Rep (G0 w) v (eL eI l) :=
 opens_slice (size := 1) Try.underlying22 (by kernel_rfl) (by decide) (fun _ => rfl) (fun fuel cs x h => opens_int h) h
set_option maxRecDepth 100000 in
theorem opens_shift {fuel : Nat} {cs : List Value} {x : DataW H × List MemPlace} (h : DataW.trod enc Try.prog w base sp held fuel 39 cs = some x) : ∃ s : Sft, Rc w cs (eSh s).cells := by
 obtain ⟨xs, n, _, _, hlen, hl, hg⟩ := DataW.trod_struct Try.underlying39 h
 have hc : Try.prog.cellsOf 39 = 3 := by kernel_rfl
 have h1 : Try.prog.cellsOf 22 = 1 := by kernel_rfl
 have h2 : Try.prog.cellsOf 3 = 1 := by kernel_rfl
 match cs, hlen.trans hc, xs, hl with
 | [c0, c1, c2], _, [x0, x1, x2], _ =>
  have g0 := hg 0 _ rfl
  have g1 := hg 1 _ rfl
  have g2 := hg 2 _ rfl
  simp [h1, h2] at g0 g1 g2
  obtain ⟨v0, l0, e0, r0⟩ := opens_ints g0
  obtain ⟨k1, e1, _⟩ := DataW.trod_int Try.underlying3 g1
  obtain ⟨k2, e2, _⟩ := DataW.trod_int Try.underlying3 g2
  injection e0 with e0
  injection e1 with e1
  injection e2 with e2
  subst e0 e1 e2
  exact ⟨⟨l0, k1, k2⟩, rc_cons r0 rfl (rc_cons (.s _) rfl (rc_cons (.s _) rfl rc_nil))⟩
theorem opens_shifts {fuel : Nat} {cs : List Value} {x : DataW H × List MemPlace} (h : DataW.trod enc Try.prog w base sp held fuel 23 cs = some x) : ∃ (v : Value) (l : List Sft), cs = [v] ∧ Rep (G0 w) v (eL eSh l) :=
 opens_slice (size := 3) Try.underlying23 (by kernel_rfl) (by decide) (fun _ => rfl) (fun fuel cs x h => opens_shift h) h
variable {b0 : Nat} {r : Reach} {v : Value} {d : DataW H} {p : List MemPlace}
set_option maxRecDepth 100000 in
theorem open_ints (hv : Value.okWide Try.prog w r b0 22 v) (h : DataW.Trod enc Try.prog w base sp held 22 v d p) : ∃ l : List Int, Rep (G0 w) v (eL eI l) := by
 obtain ⟨a, n, c, rfl⟩ := okWide_slice Try.underlying22 hv
 obtain ⟨fuel, hf⟩ := h
 obtain ⟨v', l, ha, hr⟩ := opens_ints hf
 simp [Value.cells] at ha
 subst ha
 exact ⟨l, hr⟩
set_option maxRecDepth 100000 in
theorem open_shifts (hv : Value.okWide Try.prog w r b0 23 v) (h : DataW.Trod enc Try.prog w base sp held 23 v d p) : ∃ l : List Sft, Rep (G0 w) v (eL eSh l) := by
 obtain ⟨a, n, c, rfl⟩ := okWide_slice Try.underlying23 hv
 obtain ⟨fuel, hf⟩ := h
 obtain ⟨v', l, ha, hr⟩ := opens_shifts hf
 simp [Value.cells] at ha
 subst ha
 exact ⟨l, hr⟩
end
end Aw
end Go.Proofs.Ytllkbjcemecmjaa
end
section
namespace Go.Proofs.Ytllkbjcemecmjaa
open Go.ChangeShapes Go.WideShapes Go.ChangeAt Go.RowKit
namespace Aw
section
variable {H : Type} {enc : TypeId × Value → H} {w : World} {base b0 : Nat} {r : Reach} {sp : Nat → Bool} {held : Bool} {v : Value} {d : DataW H} {p : List MemPlace}
set_option maxRecDepth 100000 in
theorem open_u8 (hv : Value.okWide Try.prog w r b0 5 v) (h : DataW.Trod enc Try.prog w base sp held 5 v d p) : ∃ q : { n : Int // 0 ≤ n ∧ n ≤ 255 }, Rep (G0 w) v (eU8 q.1) := by
 obtain ⟨n, rfl⟩ := okWide_int Try.underlying5 hv
 obtain ⟨fuel, hf⟩ := h
 obtain ⟨m, h1, _, hw⟩ := DataW.trod_int Try.underlying5 hf
 simp [Value.cells] at h1
 subst h1
 exact ⟨⟨n, by simpa [Lit.wf, IntKind.min, IntKind.max, IntKind.bits, IntKind.signed] using hw⟩, .s _⟩
end
end Aw
end Go.Proofs.Ytllkbjcemecmjaa
end
section
namespace Go.Proofs.Ytllkbjcemecmjaa
open Go.ChangeShapes Go.WideShapes Go.ChangeAt Go.RowKit
set_option maxRecDepth 100000 in
theorem shiftMore_lifted (os : Os) (started : os.Started) (H : Type) (enc : TypeId × Value → H) :
  ReturnsInHanded {} Try.checked os 3 .any (Rows.shiftMoreSpec.pre6 enc Try.prog Try.f3 Rows.shiftMoreRow.domain false) (Rows.shiftMoreSpec.post enc Try.prog Try.f3 false true false false) := by
 refine returnsInHanded_of_change (C := Try.checked) own_knob started (by kernel_rfl) Try.func3
  (ChangeSpec.witness6 (enc := enc) (C := Try.checked) false ⟨#[], #[.slice none 0 0, .slice none 0 0, .int .u8 0], []⟩ 8 (by kernel_rfl) (by kernel_rfl) (by kernel_rfl) (by kernel_rfl)) ?_
 intro W base args ds gs before hval0 hW hcnd _
 have hval : ∀ (j : Nat) t v, Try.f3.params[j]? = some t → args[j]? = some v → Value.okWide Try.prog W .any base t v := hval0
 have hW' := hW
 obtain ⟨p, q, hA0, hV, rfl, hfz, hnd⟩ := hW
 have hA : DataW.TrodAll enc Try.prog W 0 (fun _ => true) true Try.f3.params.toList args.toList ds p := hA0
 rw [Try.params3] at hA hval
 obtain ⟨v0, v1, v2, d0, d1, d2, p0, p1, p2, rfl, rfl, rfl, h0, h1, h2⟩ := trodAll_three hA
 obtain ⟨rfl, rfl⟩ := trodVars_none hV
 obtain ⟨x0, hx0⟩ := Aw.open_ints (hval 0 22 v0 rfl rfl) h0
 obtain ⟨x1, hx1⟩ := Aw.open_shifts (hval 1 23 v1 rfl rfl) h1
 obtain ⟨x2, hx2⟩ := Aw.open_u8 (hval 2 5 v2 rfl rfl) h2
 simp only [List.append_nil] at hW'
 refine (Aw.pure_law (Aw.lawMore_pf (P := Try.prog) x0 x1 x2) W #[v0, v1, v2] rfl (fun j v x hv hx => ?_)).mono fun e W' ⟨he, hb⟩ => ?_
 ·
  match j, hv, hx with
  | 0, hv, hx => simp at hv hx; subst hv hx; exact hx0
  | 1, hv, hx => simp at hv hx; subst hv hx; exact hx1
  | 2, hv, hx => simp at hv hx; subst hv hx; exact hx2
  | j + 3, hv, hx => simp at hv
 subst he
 have hp : ∀ x ∈ p0 ++ p1 ++ p2, x.block < W.heap.size := fun x hx => hW'.lt x (by simpa using hx)
 have hg := trodAll_mk3 (Below.trod laid_out (by kernel_rfl) (of_decide_eq_true (by kernel_rfl)) h0 hb (fun x hx => hp x (by simp [hx]))) (Below.trod laid_out (by kernel_rfl) (of_decide_eq_true (by kernel_rfl)) h1 hb (fun x hx => hp x (by simp [hx]))) (Below.trod laid_out (by kernel_rfl) (of_decide_eq_true (by kernel_rfl)) h2 hb (fun x hx => hp x (by simp [hx])))
 simp only [← List.append_assoc] at hg
 exact ⟨_, rfl, law_post (t := 4) hW' (by kernel_rfl) Try.underlying4 ⟨rfl, rfl, rfl⟩ rfl hg hb⟩
theorem shiftMore_holds : Rows.ShiftMoreSaid :=
 OpenClaim.holds_of_wide 3 Try.f3 rfl rfl rfl rfl rfl rfl rfl ⟨rfl, rfl, rfl, rfl, rfl⟩ rfl rfl rfl rfl rfl (by kernel_rfl) Try.func3 (by kernel_rfl)
  (of_decide_eq_true (by kernel_rfl)) (by unfold Func.isWrapper; first | (rw [if_pos (by decide +kernel)]; kernel_rfl) | (rw [if_neg (by decide +kernel)]; exact ⟨rfl, rfl⟩))
  (fun os started H enc _ => shiftMore_lifted os started H enc)
#print axioms shiftMore_holds
end Go.Proofs.Ytllkbjcemecmjaa
end
