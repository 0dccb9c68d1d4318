import Derived.Test.YtllkbjcemecmjaaGreatJB4
import Derived.Test.YtllkbjcemecmjaaGreatJB2
set_option linter.unusedSimpArgs false
set_option linter.unusedVariables false
set_option linter.unusedSectionVars false
section
namespace Go.Proofs.YtllkbjcemecmjaaGreat.Aw
open Go.RowKit Go.Proofs
variable {P : Program} [IsP P]
set_option maxHeartbeats 1000000 in
theorem qValid_pf54 (d : List Int) (l : List Sft) : Pure P 6 [eL eI d, eL eSh l] (eB (zce d l)) := by
 refine zcl (by rw [IsP.eq (P := P)]; exact Tryz.func6) rfl rfl rfl rfl rfl xa (.s _) (by simp only [argF]; rfl) ?_
 refine zag ?_
 refine zda (d := 0) rfl (fun hm1 => ?_)
 refine zda (d := 1) rfl (fun hm2 => ?_)
 unfold maxLen at hm1 hm2
 refine zab (zac rfl (zad (zag (zag (zab (zac rfl (zaf rfl rfl (zaa rfl) (zao rfl ts22 rfl) ?_)))))))
 refine za3 rfl rfl (zaa rfl) (za2 rfl rfl rfl) (fun h11 => ?_) (fun h11 => ?_)
 all_goals refine zac rfl ?_
 all_goals (first | refine zac rfl ?_ | refine za4 rfl ?_)
 all_goals (first | refine zaf rfl rfl (zat rfl rfl rfl) (zao rfl ts22 rfl) ?_ | refine za4 rfl ?_)
 all_goals (first | refine za3 rfl rfl (zat rfl rfl rfl) (zb0 rfl rfl rfl) (fun h15 => ?_) (fun h15 => ?_) | refine za4 rfl ?_)
 all_goals refine zac rfl (zac rfl ?_)
 all_goals (first | refine zac rfl ?_ | refine za4 rfl ?_)
 all_goals (first | refine zaf rfl rfl (zat rfl rfl rfl) (zao rfl ts23 rfl) ?_ | refine za4 rfl ?_)
 all_goals (first | refine za3 rfl rfl (zat rfl rfl rfl) (zb0 rfl rfl rfl) (fun h20 => ?_) (fun h20 => ?_) | refine za4 rfl ?_)
 all_goals refine zac rfl (zad (zai ?_))
 all_goals (first | refine za5 rfl ?_ | refine zau rfl ?_)
 all_goals (repeat (first | refine zag ?_ | refine zar ?_))
 all_goals first
  |
   refine zab (zac rfl (zad ?_))
   repeat (first | refine zai ?_ | refine zas ?_)
   (refine za7 ?_; repeat (first | refine zbc ?_ | refine zbe ?_))
   exact zb6 (.inr rfl) rfl (congrArg eB (headV_f xd).symm)
  | skip
 refine zab (zac rfl (zad (zai (zas ?_))))
 refine zb1 (S := Nat) (fun k => [(0, eL eI d), (1, eL eSh l), (5, eI k)]) (fun _ => []) (fun k => k ≤ d.length ∧ ∀ j, j < k → needB (gti d j) = true) (fun k => d.length - k) 0 (zb8 [] xf trivial ⟨.lo _ (zan fun _ => .s _), .lo _ xa, .lo _ (.s _), trivial⟩) ⟨by omega, fun j hj => by omega⟩ (fun k hk => ?_)
 obtain ⟨hk, hall⟩ := hk
 refine zag (zag (zab (zac rfl (zac rfl (zaf rfl rfl (zaa rfl) (zao rfl ts22 rfl) ?_)))))
 refine za3 rfl rfl (zaa rfl) (za2 rfl rfl rfl) (fun h25 => ?_) (fun h25 => ?_)
 all_goals refine zad (zai ?_)
 all_goals (first | refine za5 rfl ?_ | refine zau rfl ?_)
 all_goals (repeat (first | refine zag ?_ | refine zar ?_ | refine zas ?_))
 ·
  have hlt : k < d.length := by omega
  refine zab (zac rfl (zac rfl (zaf rfl rfl (zaa rfl) (zal rfl ts22 ti3 rfl rfl rfl (zbb xd) rfl) (zbu ta3 rfl ?_))))
  refine za3 rfl rfl (zaa rfl) (za2 rfl rfl rfl) (fun h32 => ?_) (fun h32 => ?_)
  all_goals refine zac rfl ?_
  all_goals (first | refine zac rfl ?_ | refine za4 rfl ?_)
  all_goals (first | refine zac rfl ?_ | refine za4 rfl ?_)
  all_goals (first | refine zaf rfl rfl (zat rfl rfl rfl) (zal rfl ts22 ti3 rfl rfl rfl (zbb (by omega)) rfl) ?_ | refine za4 rfl ?_)
  all_goals (first | refine zbu ta3 rfl ?_ | refine za4 rfl ?_)
  all_goals (first | refine za3 rfl rfl (zat rfl rfl rfl) (zb0 rfl rfl rfl) (fun h38 => ?_) (fun h38 => ?_) | refine za4 rfl ?_)
  all_goals refine zac rfl (zad (zai ?_))
  all_goals (first | refine za5 rfl ?_ | refine zau rfl ?_)
  all_goals (repeat (first | refine zag ?_ | refine zai ?_ | refine zar ?_ | refine zbl ?_))
  all_goals first
   |
    refine zab (zac rfl (zad (zai ?_)))
    (refine za7 ?_; repeat (first | refine zbc ?_ | refine zbe ?_))
    exact zb6 (.inr rfl) rfl (congrArg eB (headV_f2 (all_f hlt (decide_eq_false xd))).symm)
   |
    refine zab (zac rfl (zaf rfl rfl (zaa rfl) (zax rfl rfl rfl (IntWalk.i64_in _ xd)) (zac rfl (zad (zai ?_)))))
    refine ⟨k + 1, ⟨by omega, fun i hi => ?_⟩, by omega, zb8 [] xf trivial ⟨.lo _ (zan fun _ => .s _), .lo _ xa, .lo _ (.s _), trivial⟩⟩
    by_cases e : i = k
    ·
     subst e; exact decide_eq_true xd
    ·
     exact hall i xd
 (refine zb9 ?_; repeat (first | refine zcr ?_ | refine zbt ?_ | refine zbk rfl ?_ | refine zbl ?_ | refine zai ?_ | refine zag ?_ | refine zar ?_ | refine zas ?_))
 have hh : headV d l = true := headV_t xd (all_t (fun j hj => hall j xd))
 clear hall
 refine zab (zac rfl (zad (zai (zas ?_))))
 refine zb1 (S := Nat) (fun k => [(0, eL eI d), (1, eL eSh l), (6, eI k)]) (fun _ => []) (fun k => k ≤ l.length ∧ ∀ j, j < k → sftB d.length (gti l j) = true) (fun k => l.length - k) 0 (zb8 [] xf trivial ⟨.lo _ (zan fun _ => .s _), .lo _ xa, .lo _ (.s _), trivial⟩) ⟨by omega, fun j hj => by omega⟩ (fun k hk => ?_)
 obtain ⟨hk, hall⟩ := hk
 refine zag (zag (zab (zac rfl (zac rfl (zaf rfl rfl (zaa rfl) (zao rfl ts23 rfl) ?_)))))
 refine za3 rfl rfl (zaa rfl) (za2 rfl rfl rfl) (fun h43 => ?_) (fun h43 => ?_)
 all_goals refine zad (zai ?_)
 all_goals (first | refine za5 rfl ?_ | refine zau rfl ?_)
 all_goals (repeat (first | refine zag ?_ | refine zar ?_ | refine zas ?_))
 ·
  have hlt : k < l.length := by omega
  obtain ⟨s, hs⟩ : ∃ s, gti l k = s := ⟨_, rfl⟩
  have hix : (l.map eSh)[k]? = some (eSh s) := by rw [← hs]; exact zbb hlt
  refine zab (zac rfl (zac rfl (zaf rfl rfl (zaa rfl) (zal rfl ts23 ti43 rfl rfl rfl hix rfl) (zcx ta43 ti43 rfl (zaf rfl rfl (zaa rfl) (za1 rfl ti43 rfl rfl) (zba rfl (zaa rfl) (zaj rfl ti43 rfl rfl rfl rfl rfl rfl xf xf) (zad (zag (zag ?_)))))))))
  refine zbg (zbm (id := 0) rfl) ?_
  refine zbg (zcb (d := 7) rfl rfl rfl) ?_
  refine zab (zbz tf43_0 rfl (zbu ta22 rfl (zaf rfl rfl (zaa rfl) (zao rfl ts22 rfl) ?_)))
  refine za3 rfl rfl (zaa rfl) (zbn rfl rfl rfl) (fun h53 => ?_) (fun h53 => ?_)
  all_goals refine zac rfl ?_
  all_goals (first | refine zbz tf43_1 rfl ?_ | refine za4 rfl ?_)
  all_goals (first | refine zbu ta3 rfl ?_ | refine za4 rfl ?_)
  all_goals (first | refine za3 rfl rfl (zat rfl rfl rfl) (za2 rfl rfl rfl) (fun h57 => ?_) (fun h57 => ?_) | refine za4 rfl ?_)
  all_goals refine zac rfl (zac rfl ?_)
  all_goals (first | refine zbz tf43_1 rfl ?_ | refine za4 rfl ?_)
  all_goals (first | refine zbu ta3 rfl ?_ | refine za4 rfl ?_)
  all_goals (first | refine za3 rfl rfl (zat rfl rfl rfl) (zb0 rfl rfl rfl) (fun h62 => ?_) (fun h62 => ?_) | refine za4 rfl ?_)
  all_goals refine zac rfl (zac rfl ?_)
  all_goals (first | refine zbz tf43_2 rfl ?_ | refine za4 rfl ?_)
  all_goals (first | refine zbu ta3 rfl ?_ | refine za4 rfl ?_)
  all_goals (first | refine za3 rfl rfl (zat rfl rfl rfl) (za2 rfl rfl rfl) (fun h67 => ?_) (fun h67 => ?_) | refine za4 rfl ?_)
  all_goals refine zac rfl (zac rfl ?_)
  all_goals (first | refine zbz tf43_2 rfl ?_ | refine za4 rfl ?_)
  all_goals (first | refine zbu ta3 rfl ?_ | refine za4 rfl ?_)
  all_goals (first | refine za3 rfl rfl (zat rfl rfl rfl) (zb0 rfl rfl rfl) (fun h72 => ?_) (fun h72 => ?_) | refine za4 rfl ?_)
  all_goals refine zac rfl (zad (zai ?_))
  all_goals (first | refine za5 rfl ?_ | refine zau rfl ?_)
  all_goals (repeat (first | refine zag ?_ | refine zar ?_))
  all_goals first
   |
    refine zab (zac rfl (zad ?_))
    repeat (first | refine zai ?_ | refine zas ?_)
    (refine za7 ?_; repeat (first | refine zbc ?_ | refine zbe ?_))
    exact zb6 (.inr rfl) rfl (congrArg eB (validS_f hlt (by rw [hs]; exact sftB_h (decide_eq_false xd))).symm)
   | skip
  have hhs : headS s = true := decide_eq_true xd
  refine zab (zac rfl (zad (zai (zas ?_))))
  refine zb1 (S := Nat) (fun j => [(0, eL eI d), (1, eL eSh l), (6, eI k), (7, .ref (eSh s).cells), (8, eI j)]) (fun _ => []) (fun j => j ≤ s.pd.length ∧ ∀ i, i < j → perB d.length s.pd i = true) (fun j => s.pd.length - j) 0 (zb8 [] xf trivial ⟨.lo _ (zan fun _ => .s _), .lo _ xa, .lo _ (.s _), .lo _ xc, .lo _ (.s _), trivial⟩) ⟨by omega, fun j hj => by omega⟩ (fun j hj => ?_)
  obtain ⟨hj, hper⟩ := hj
  refine zag (zag (zab (zac rfl (zbz tf43_0 rfl (zbu ta22 rfl (zaf rfl rfl (zaa rfl) (zao rfl ts22 rfl) (zaf rfl rfl (zaa rfl) (za2 rfl rfl rfl) (zad (zai ?_)))))))))
  refine zda (d := 76) rfl (fun hm3 => ?_)
  unfold maxLen at hm3
  refine aw_if rfl (fun h => ?_) (fun h => ?_)
  ·
   refine zar (zag (zas (zag ?_)))
   have hlt2 : j < s.pd.length := by omega
   refine zb2 hmix ?_
   refine zbx xi ?_
   refine qx_f tf43_0 rfl (qx_l ta22 rfl (qx_s rfl (zby rfl rfl (zaa rfl) (zal rfl ts22 ti3 rfl rfl rfl (zbb xd) rfl) (qx_l ta3 rfl ?_))))
   refine qx_opP rfl rfl (zaa rfl) (za2 rfl rfl rfl) (fun h86 => ?_) (fun h86 => ?_)
   all_goals refine qx_s rfl ?_
   all_goals (first | refine qx_f tf43_0 rfl ?_ | refine qx_z rfl ?_)
   all_goals (first | refine qx_l ta22 rfl ?_ | refine qx_z rfl ?_)
   all_goals (first | refine qx_s rfl ?_ | refine qx_z rfl ?_)
   all_goals (first | refine zby rfl rfl (zat rfl rfl rfl) (zal rfl ts22 ti3 rfl rfl rfl (zbb (by omega)) rfl) ?_ | refine qx_z rfl ?_)
   all_goals (first | refine qx_l ta3 rfl ?_ | refine qx_z rfl ?_)
   all_goals (first | refine qx_s rfl ?_ | refine qx_z rfl ?_)
   all_goals (first | refine zby rfl rfl (zat rfl rfl rfl) (zao rfl ts22 rfl) ?_ | refine qx_z rfl ?_)
   all_goals (first | refine qx_opP rfl rfl (zat rfl rfl rfl) (zcp rfl rfl rfl) (fun h95 => ?_) (fun h95 => ?_) | refine qx_z rfl ?_)
   all_goals refine qx_s rfl (qx_s rfl ?_)
   all_goals (first | refine qx_s rfl ?_ | refine qx_z rfl ?_)
   all_goals (first | refine qx_opP rfl rfl (zat rfl rfl rfl) (zb0 rfl rfl rfl) (fun h99 => ?_) (fun h99 => ?_) | refine qx_z rfl ?_)
   all_goals (first | refine qx_s rfl ?_ | refine qx_z rfl ?_)
   all_goals (first | refine qx_f tf43_0 rfl ?_ | refine qx_z rfl ?_ | refine zdw rfl rfl (zbi rfl rfl rfl) ?_)
   all_goals (first | refine qx_l ta22 rfl ?_ | refine qx_z rfl ?_ | refine zdw rfl rfl (zbi rfl rfl rfl) ?_)
   all_goals (first | refine qx_s rfl ?_ | refine qx_z rfl ?_ | refine zdw rfl rfl (zbi rfl rfl rfl) ?_)
   all_goals (first | refine zby rfl rfl (zat rfl rfl rfl) (zdx rfl rfl rfl (IntWalk.i64_in _ (by omega))) ?_ | refine qx_z rfl ?_ | refine zdw rfl rfl (zbi rfl rfl rfl) ?_)
   all_goals (first | refine zby rfl rfl (zat rfl rfl rfl) (zal rfl ts22 ti3 rfl rfl (by omega) (zbb (k := j - 1) (by omega)) rfl) ?_ | refine qx_z rfl ?_ | refine zdw rfl rfl (zbi rfl rfl rfl) ?_)
   all_goals (first | refine qx_l ta3 rfl ?_ | refine qx_z rfl ?_ | refine zdw rfl rfl (zbi rfl rfl rfl) ?_)
   all_goals (first | refine qx_f tf43_0 rfl ?_ | refine qx_z rfl ?_ | refine zdw rfl rfl (zbi rfl rfl rfl) ?_)
   all_goals (first | refine qx_l ta22 rfl ?_ | refine qx_z rfl ?_ | refine zdw rfl rfl (zbi rfl rfl rfl) ?_)
   all_goals (first | refine qx_s rfl ?_ | refine qx_z rfl ?_ | refine zdw rfl rfl (zbi rfl rfl rfl) ?_)
   all_goals (first | refine zby rfl rfl (zat rfl rfl rfl) (zal rfl ts22 ti3 rfl rfl rfl (zbb (by omega)) rfl) ?_ | refine qx_z rfl ?_ | refine zdw rfl rfl (zbi rfl rfl rfl) ?_)
   all_goals (first | refine qx_l ta3 rfl ?_ | refine qx_z rfl ?_ | refine zdw rfl rfl (zbi rfl rfl rfl) ?_)
   all_goals (first | refine qx_opP rfl rfl (zat rfl rfl rfl) (zcp rfl rfl rfl) (fun h112 => ?_) (fun h112 => ?_) | refine qx_z rfl ?_ | refine zdw rfl rfl (zbi rfl rfl rfl) ?_)
   all_goals (first | refine qx_s rfl ?_ | refine qx_z rfl ?_)
   all_goals refine qx_s rfl ?_
   all_goals refine zdg ?_
   all_goals refine zai ?_
   all_goals (first | refine za5 rfl ?_ | refine zau rfl ?_)
   all_goals (repeat (first | refine zag ?_ | refine zai ?_ | refine zar ?_ | refine zbl ?_))
   all_goals first
    |
     refine zab (zac rfl (zad (zai ?_)))
     (refine za7 ?_; repeat (first | refine zbc ?_ | refine zbe ?_))
     exact zb6 (.inr rfl) rfl (congrArg eB (validS_f hlt (by rw [hs]; exact sftB_f hlt2 (decide_eq_false xd))).symm)
    |
     refine zab (zac rfl (zaf rfl rfl (zaa rfl) (zax rfl rfl rfl (IntWalk.i64_in _ xd)) (zac rfl (zad (zai ?_)))))
     refine ⟨j + 1, ⟨by omega, fun i hi => ?_⟩, by omega, zb8 [] xf trivial ⟨.lo _ (zan fun _ => .s _), .lo _ xa, .lo _ (.s _), .lo _ xc, .lo _ (.s _), trivial⟩⟩
     by_cases e : i = j
     ·
      subst e; exact decide_eq_true xd
     ·
      exact hper i xd
  ·
   (refine zb9 ?_; repeat (first | refine zcr ?_ | refine zbt ?_ | refine zbk rfl ?_ | refine zbl ?_ | refine zai ?_ | refine zag ?_ | refine zar ?_ | refine zas ?_))
   refine zab (zac rfl (zaf rfl rfl (zaa rfl) (zax rfl rfl rfl (IntWalk.i64_in _ xd)) (zac rfl (zad (zai ?_)))))
   refine ⟨k + 1, ⟨by omega, fun i hi => ?_⟩, by omega, zb8 [] xf trivial ⟨.lo _ (zan fun _ => .s _), .lo _ xa, .lo _ (.s _), trivial⟩⟩
   by_cases e : i = k
   ·
    subst e; rw [hs]; exact sftB_t hhs (fun i hi => hper i xd)
   ·
    exact hall i xd
 ·
  (refine zb9 ?_; repeat (first | refine zcr ?_ | refine zbt ?_ | refine zbk rfl ?_ | refine zbl ?_ | refine zai ?_ | refine zag ?_ | refine zar ?_ | refine zas ?_))
  refine zab (zac rfl (zad (zai ?_)))
  (refine za7 ?_; repeat (first | refine zbc ?_ | refine zbe ?_))
  exact zb6 (.inr rfl) rfl (congrArg eB (validS_t hh (fun j hj => hall j xd)).symm)
def cntB (l : List Sft) (c : List Int) : Bool := decide (c.length = l.length) && (List.range c.length).all fun k => decide (0 ≤ gti c k ∧ gti c k ≤ (gti l k).most)
theorem cntB_l {l : List Sft} {c : List Int} (h : c.length ≠ l.length) : cntB l c = false := by unfold cntB; rw [decide_eq_false h]; rfl
theorem cntB_f {l : List Sft} {c : List Int} {k : Nat} (hk : k < c.length) (h : ¬ (0 ≤ gti c k ∧ gti c k ≤ (gti l k).most)) : cntB l c = false := by
 unfold cntB; rw [rg_f hk (decide_eq_false h), Bool.and_false]
theorem cntB_t {l : List Sft} {c : List Int} (h : c.length = l.length) (h2 : ∀ k, k < c.length → 0 ≤ gti c k ∧ gti c k ≤ (gti l k).most) : cntB l c = true := by
 unfold cntB; rw [decide_eq_true h, rg_t (fun j hj => decide_eq_true (h2 j hj))]; rfl
theorem cntB_iff {l : List Sft} {c : List Int} (h : cntB l c = true) : c.length = l.length ∧ ∀ k, k < l.length → 0 ≤ gti c k ∧ gti c k ≤ (gti l k).most := by
 unfold cntB at h
 rw [Bool.and_eq_true, decide_eq_true_eq] at h
 refine ⟨h.1, fun k hk => ?_⟩
 have := List.all_eq_true.1 h.2 k (by rw [List.mem_range]; omega)
 rwa [decide_eq_true_eq] at this
set_option maxHeartbeats 1000000 in
theorem counts_pf (l : List Sft) (c : List Int) : Pure P 27 [eL eSh l, eL eI c] (eB (cntB l c)) := by
 refine zcl (by rw [IsP.eq (P := P)]; exact Tryz.func27) rfl rfl rfl rfl rfl xa (.s _) (by simp only [argF]; rfl) ?_
 refine zag ?_
 refine zda (d := 1) rfl (fun hm1 => ?_)
 unfold maxLen at hm1
 refine zab (zac rfl (zad (zag (zag (zab (zac rfl (zaf rfl rfl (zaa rfl) (zao rfl ts22 rfl) (zac rfl (zaf rfl rfl (zaa rfl) (zao rfl ts23 rfl) ?_)))))))))
 refine za3 rfl rfl (zaa rfl) (zbp rfl rfl rfl) (fun h11 => ?_) (fun h11 => ?_)
 all_goals refine zad (zai ?_)
 all_goals (first | refine za5 rfl ?_ | refine zau rfl ?_)
 all_goals (repeat (first | refine zag ?_ | refine zar ?_))
 ·
  refine zab (zac rfl (zad (zai ?_)))
  (refine za7 ?_; repeat (first | refine zbc ?_ | refine zbe ?_))
  exact zb6 (.inr rfl) rfl (congrArg eB (cntB_l xd).symm)
 ·
  have hl : c.length = l.length := by omega
  refine zab (zac rfl (zaf rfl rfl (zaa rfl) (zao rfl ts22 rfl) (zac rfl (zad (zai (zas ?_))))))
  refine zb1 (S := Nat) (fun k => [(0, eL eSh l), (1, eL eI c), (12, eL eI c), (13, eI c.length), (14, eI k)]) (fun _ => []) (fun k => k ≤ c.length ∧ ∀ j, j < k → 0 ≤ gti c j ∧ gti c j ≤ (gti l j).most) (fun k => c.length - k) 0 (zb8 [] xf trivial ⟨.lo _ xa, .lo _ (zan fun _ => .s _), .lo _ (zan fun _ => .s _), .lo _ (.s _), .lo _ (.s _), trivial⟩) ⟨by omega, fun j hj => by omega⟩ (fun k hk => ?_)
  obtain ⟨hk, hall⟩ := hk
  refine zag (zab ?_)
  refine za3 rfl rfl (zaa rfl) (za2 rfl rfl rfl) (fun h15 => ?_) (fun h15 => ?_)
  all_goals refine zad (zag ?_)
  all_goals (first | refine za5 rfl ?_ | refine zau rfl ?_)
  all_goals (repeat (first | refine zag ?_ | refine zar ?_ | refine zas ?_))
  ·
   have hlt : k < c.length := by omega
   have hlt2 : k < l.length := by omega
   refine zab (zac rfl (zaf rfl rfl (zaa rfl) (zal rfl ts22 ti3 rfl rfl rfl (zbb xd) rfl) (zbu ta3 rfl (zac rfl (zac rfl (zad (zag (zab (zac rfl ?_)))))))))
   refine za3 rfl rfl (zaa rfl) (za2 rfl rfl rfl) (fun h20 => ?_) (fun h20 => ?_)
   all_goals refine zac rfl ?_
   all_goals (first | refine zac rfl ?_ | refine za4 rfl ?_)
   all_goals (first | refine zac rfl ?_ | refine za4 rfl ?_)
   all_goals (first | refine zac rfl ?_ | refine za4 rfl ?_)
   all_goals (first | refine zaf rfl rfl (zat rfl rfl rfl) (zal rfl ts23 ti43 rfl rfl rfl (zbb (by omega)) rfl) ?_ | refine za4 rfl ?_)
   all_goals (first | refine zbz tf43_2 rfl ?_ | refine za4 rfl ?_)
   all_goals (first | refine zbu ta3 rfl ?_ | refine za4 rfl ?_)
   all_goals (first | refine za3 rfl rfl (zat rfl rfl rfl) (zb0 rfl rfl rfl) (fun h28 => ?_) (fun h28 => ?_) | refine za4 rfl ?_)
   all_goals refine zac rfl (zad (zai ?_))
   all_goals (first | refine za5 rfl ?_ | refine zau rfl ?_)
   all_goals (repeat (first | refine zag ?_ | refine zai ?_ | refine zar ?_ | refine zbl ?_))
   all_goals first
    |
     refine zab (zac rfl (zad (zai ?_)))
     (refine za7 ?_; repeat (first | refine zbc ?_ | refine zbe ?_))
     exact zb6 (.inr rfl) rfl (congrArg eB (cntB_f hlt xd).symm)
    |
     refine zab (zaf rfl rfl (zaa rfl) (zax rfl rfl rfl (IntWalk.i64_in _ xd)) (zac rfl (zad (zai ?_))))
     refine ⟨k + 1, ⟨by omega, fun i hi => ?_⟩, by omega, zb8 [] xf trivial ⟨.lo _ xa, .lo _ (zan fun _ => .s _), .lo _ (zan fun _ => .s _), .lo _ (.s _), .lo _ (.s _), trivial⟩⟩
     by_cases e : i = k
     ·
      subst e; omega
     ·
      exact hall i xd
  ·
   (refine zb9 ?_; repeat (first | refine zcr ?_ | refine zbt ?_ | refine zbk rfl ?_ | refine zbl ?_ | refine zai ?_ | refine zag ?_ | refine zar ?_ | refine zas ?_))
   refine zab (zac rfl (zad (zai ?_)))
   (refine za7 ?_; repeat (first | refine zbc ?_ | refine zbe ?_))
   exact zb6 (.inr rfl) rfl (congrArg eB (cntB_t hl (fun j hj => hall j xd)).symm)
set_option maxHeartbeats 1000000 in
theorem rCounts_pf (l : List Sft) (c : List Int) : Pure P 24 [eL eSh l, eL eI c] (eB (cntB l c)) := by
 refine zcl (by rw [IsP.eq (P := P)]; exact Tryz.func24) rfl rfl rfl rfl rfl xa (.s _) (by simp only [argF]; rfl) ?_
 refine zag ?_
 refine zda (d := 1) rfl (fun hm1 => ?_)
 unfold maxLen at hm1
 refine zab (zac rfl (zad (zag (zag (zab (zac rfl (zaf rfl rfl (zaa rfl) (zao rfl ts22 rfl) (zac rfl (zaf rfl rfl (zaa rfl) (zao rfl ts23 rfl) ?_)))))))))
 refine za3 rfl rfl (zaa rfl) (zbp rfl rfl rfl) (fun h10 => ?_) (fun h10 => ?_)
 all_goals refine zad (zai ?_)
 all_goals (first | refine za5 rfl ?_ | refine zau rfl ?_)
 all_goals (repeat (first | refine zag ?_ | refine zar ?_))
 ·
  refine zab (zac rfl (zad (zai ?_)))
  (refine za7 ?_; repeat (first | refine zbc ?_ | refine zbe ?_))
  exact zb6 (.inr rfl) rfl (congrArg eB (cntB_l xd).symm)
 ·
  have hl : c.length = l.length := by omega
  refine zab (zac rfl (zad (zai (zas ?_))))
  refine zb1 (S := Nat) (fun k => [(0, eL eSh l), (1, eL eI c), (5, eI k)]) (fun _ => []) (fun k => k ≤ c.length ∧ ∀ j, j < k → 0 ≤ gti c j ∧ gti c j ≤ (gti l j).most) (fun k => c.length - k) 0 (zb8 [] xf trivial ⟨.lo _ xa, .lo _ (zan fun _ => .s _), .lo _ (.s _), trivial⟩) ⟨by omega, fun j hj => by omega⟩ (fun k hk => ?_)
  obtain ⟨hk, hall⟩ := hk
  refine zag (zag (zab (zac rfl (zac rfl (zaf rfl rfl (zaa rfl) (zao rfl ts23 rfl) ?_)))))
  refine za3 rfl rfl (zaa rfl) (za2 rfl rfl rfl) (fun h14 => ?_) (fun h14 => ?_)
  all_goals refine zad (zai ?_)
  all_goals (first | refine za5 rfl ?_ | refine zau rfl ?_)
  all_goals (repeat (first | refine zag ?_ | refine zar ?_ | refine zas ?_))
  ·
   have hlt : k < c.length := by omega
   have hlt2 : k < l.length := by omega
   refine zb2 hmix ?_
   refine zbx xi ?_
   refine qx_s rfl (qx_s rfl (zby rfl rfl (zaa rfl) (zal rfl ts22 ti3 rfl rfl rfl (zbb xd) rfl) (qx_l ta3 rfl ?_)))
   refine qx_opP rfl rfl (zaa rfl) (za2 rfl rfl rfl) (fun h21 => ?_) (fun h21 => ?_)
   all_goals refine qx_s rfl ?_
   all_goals (first | refine qx_s rfl ?_ | refine qx_z rfl ?_)
   all_goals (first | refine qx_s rfl ?_ | refine qx_z rfl ?_)
   all_goals (first | refine zby rfl rfl (zat rfl rfl rfl) (zal rfl ts22 ti3 rfl rfl rfl (zbb (by omega)) rfl) ?_ | refine qx_z rfl ?_)
   all_goals (first | refine qx_l ta3 rfl ?_ | refine qx_z rfl ?_)
   all_goals (first | refine qx_s rfl ?_ | refine qx_z rfl ?_)
   all_goals (first | refine qx_s rfl ?_ | refine qx_z rfl ?_)
   all_goals (first | refine zby rfl rfl (zat rfl rfl rfl) (zal rfl ts23 ti43 rfl rfl rfl (zbb (by omega)) rfl) ?_ | refine qx_z rfl ?_)
   all_goals (first | refine qx_f tf43_2 rfl ?_ | refine qx_z rfl ?_)
   all_goals (first | refine qx_l ta3 rfl ?_ | refine qx_z rfl ?_)
   all_goals (first | refine qx_opP rfl rfl (zat rfl rfl rfl) (zb0 rfl rfl rfl) (fun h32 => ?_) (fun h32 => ?_) | refine qx_z rfl ?_)
   all_goals refine qx_s rfl ?_
   all_goals refine zdg ?_
   all_goals refine zai ?_
   all_goals (first | refine za5 rfl ?_ | refine zau rfl ?_)
   all_goals (repeat (first | refine zag ?_ | refine zai ?_ | refine zar ?_ | refine zbl ?_))
   all_goals first
    |
     refine zab (zac rfl (zad (zai ?_)))
     (refine za7 ?_; repeat (first | refine zbc ?_ | refine zbe ?_))
     exact zb6 (.inr rfl) rfl (congrArg eB (cntB_f hlt xd).symm)
    |
     refine zab (zac rfl (zaf rfl rfl (zaa rfl) (zax rfl rfl rfl (IntWalk.i64_in _ xd)) (zac rfl (zad (zai ?_)))))
     refine ⟨k + 1, ⟨by omega, fun i hi => ?_⟩, by omega, zb8 [] xf trivial ⟨.lo _ xa, .lo _ (zan fun _ => .s _), .lo _ (.s _), trivial⟩⟩
     by_cases e : i = k
     ·
      subst e; omega
     ·
      exact hall i xd
  ·
   (refine zb9 ?_; repeat (first | refine zcr ?_ | refine zbt ?_ | refine zbk rfl ?_ | refine zbl ?_ | refine zai ?_ | refine zag ?_ | refine zar ?_ | refine zas ?_))
   refine zab (zac rfl (zad (zai ?_)))
   (refine za7 ?_; repeat (first | refine zbc ?_ | refine zbe ?_))
   exact zb6 (.inr rfl) rfl (congrArg eB (cntB_t hl (fun j hj => hall j xd)).symm)
def inB (l : List Int) (p : Int) : Bool := l.any fun x => decide (x = p)
theorem inB_t {l : List Int} {p : Int} {k : Nat} (hk : k < l.length) (h : gti l k = p) : inB l p = true := by
 unfold inB; rw [List.any_eq_true]; exact ⟨_, zds hk, decide_eq_true h⟩
theorem inB_f {l : List Int} {p : Int} (h : ∀ k, k < l.length → gti l k ≠ p) : inB l p = false := by
 unfold inB
 rw [List.any_eq_false]
 intro a ha
 obtain ⟨j, hj, rfl⟩ := List.mem_iff_getElem.1 ha
 have h2 := zdh hj
 rw [List.getElem?_eq_getElem hj] at h2
 rw [Option.some.inj h2, decide_eq_true_eq]
 exact h j hj
theorem in_pf (s : Sft) (p : Int) : Pure P 38 [eSh s, eI p] (eB (inB s.pd p)) := by
 refine zcl (by rw [IsP.eq (P := P)]; exact Tryz.func38) rfl rfl rfl rfl rfl xa (.s _) (by simp only [argF]; rfl) ?_
 refine zag (zab (zaf rfl rfl (zaa rfl) (zb3 rfl rfl rfl rfl) ?_))
 refine za6 (zbm (id := 0) rfl) (za6 (zcb (d := 2) rfl rfl rfl) ?_)
 refine zac rfl (zad (zag (zag (zab (zac rfl (zad (zai (zas ?_))))))))
 refine zb1 (S := Nat) (fun k => [(1, eI p), (2, .ref (eSh s).cells), (5, eI k)]) (fun _ => []) (fun k => k ≤ s.pd.length ∧ ∀ j, j < k → gti s.pd j ≠ p) (fun k => s.pd.length - k) 0 (zb8 [] xf trivial ⟨.lo _ (.s _), .lo _ xc, .lo _ (.s _), trivial⟩) ⟨by omega, fun j hj => by omega⟩ (fun k hk => ?_)
 obtain ⟨hk, hall⟩ := hk
 refine zag (zag (zab (zac rfl (zbz tf43_0 rfl (zbu ta22 rfl (zaf rfl rfl (zaa rfl) (zao rfl ts22 rfl) (zaf rfl rfl (zaa rfl) (za2 rfl rfl rfl) (zad (zai ?_)))))))))
 refine zda (d := 8) rfl (fun hm3 => ?_)
 unfold maxLen at hm3
 refine aw_if rfl (fun h => ?_) (fun h => ?_)
 ·
  refine zar (zag (zas (zag ?_)))
  have hlt : k < s.pd.length := by omega
  refine zab (zbz tf43_0 rfl (zbu ta22 rfl (zac rfl (zaf rfl rfl (zaa rfl) (zal rfl ts22 ti3 rfl rfl rfl (zbb xd) rfl) (zbu ta3 rfl (zac rfl ?_))))))
  refine za3 rfl rfl (zaa rfl) (zbn rfl rfl rfl) (fun h19 => ?_) (fun h19 => ?_)
  all_goals refine zad (zai ?_)
  all_goals (first | refine za5 rfl ?_ | refine zau rfl ?_)
  all_goals (repeat (first | refine zag ?_ | refine zai ?_ | refine zar ?_ | refine zbl ?_))
  ·
   refine zab (zac rfl (zad (zai ?_)))
   (refine za7 ?_; repeat (first | refine zbc ?_ | refine zbe ?_))
   exact zb6 (.inr rfl) rfl (congrArg eB (inB_t hlt h19).symm)
  ·
   refine zab (zac rfl (zaf rfl rfl (zaa rfl) (zax rfl rfl rfl (IntWalk.i64_in _ xd)) (zac rfl (zad (zai ?_)))))
   refine ⟨k + 1, ⟨by omega, fun i hi => ?_⟩, by omega, zb8 [] xf trivial ⟨.lo _ (.s _), .lo _ xc, .lo _ (.s _), trivial⟩⟩
   by_cases e : i = k
   ·
    subst e; exact h19
   ·
    exact hall i xd
 ·
  (refine zb9 ?_; repeat (first | refine zcr ?_ | refine zbt ?_ | refine zbk rfl ?_ | refine zbl ?_ | refine zai ?_ | refine zag ?_ | refine zar ?_ | refine zas ?_))
  refine zab (zac rfl (zad (zai ?_)))
  (refine za7 ?_; repeat (first | refine zbc ?_ | refine zbe ?_))
  exact zb6 (.inr rfl) rfl (congrArg eB (inB_f (fun j hj => hall j xd)).symm)
end Go.Proofs.YtllkbjcemecmjaaGreat.Aw
end
section
namespace Go.Proofs.YtllkbjcemecmjaaGreat.Aw
open Go.RowKit Go.Proofs
variable {P : Program} [IsP P]
def cvP (l : List Sft) (c : List Int) : Nat → Nat → Int
 | 0, _ => 0
 | n + 1, p => cvP l c n p + if inB (gti l n).pd p = true then gti c n else 0
def okC (l : List Sft) (c : List Int) : Prop := c.length = l.length ∧ l.length ≤ 12 ∧ ∀ k, k < l.length → 0 ≤ gti c k ∧ gti c k ≤ 20
theorem cvP_bd {l : List Sft} {c : List Int} (h : okC l c) (p : Nat) : ∀ n, n ≤ l.length → 0 ≤ cvP l c n p ∧ cvP l c n p ≤ 20 * n
 | 0, _ => by simp [cvP]
 | n + 1, hn => by
  have ih := cvP_bd h p n xd
  have h2 := h.2.2 n xd
  unfold cvP
  split <;> omega
def shF (d : List Int) (l : List Sft) (c : List Int) : Nat → Nat → Int
 | 0, _ => -1
 | n + 1, k => if cvP l c l.length k < gti d k then (k : Int) else shF d l c n (k + 1)
def shE (d : List Int) (l : List Sft) (c : List Int) : Int := shF d l c d.length 0
def hasF (l : List Sft) (c : List Int) (i j : Nat) (p : Nat) : Int := cvP l c i p + if inB ((gti l i).pd.take j) p = true then gti c i else 0
def hasL (n : Nat) (l : List Sft) (c : List Int) (i j : Nat) : List Int := (List.range n).map (hasF l c i j)
theorem hasL_get {n : Nat} {l : List Sft} {c : List Int} {i j p : Nat} (h : p < n) : ((hasL n l c i j).map eI)[p]? = some (eI (hasF l c i j p)) := by
 unfold hasL
 rw [List.map_map, List.getElem?_map, List.getElem?_range h]; rfl
theorem inB_nil (p : Int) : inB [] p = false := rfl
theorem inB_iff {l : List Int} {p : Int} : inB l p = true ↔ p ∈ l := by
 unfold inB
 rw [List.any_eq_true]
 constructor
 ·
  rintro ⟨x, h1, h2⟩; rw [decide_eq_true_eq] at h2; exact h2 ▸ h1
 ·
  exact fun h => ⟨p, h, decide_eq_true rfl⟩
theorem zcq {α : Type} [Inhabited α] {l : List α} {k : Nat} (h : k < l.length) : l.take (k + 1) = l.take k ++ [gti l k] := by
 rw [List.take_add_one, zdh h]; rfl
theorem inB_step {l : List Int} {j : Nat} (h : j < l.length) (p : Int) : inB (l.take (j + 1)) p = true ↔ inB (l.take j) p = true ∨ gti l j = p := by
 rw [inB_iff, inB_iff, zcq h, List.mem_append, List.mem_singleton]
 constructor
 ·
  rintro (h | h); exact .inl h; exact .inr h.symm
 ·
  rintro (h | h); exact .inl h; exact .inr h.symm
theorem asc {l : List Int} (h : ∀ k, k < l.length → 0 < k → gti l (k - 1) < gti l k) : ∀ b a, a < b → b < l.length → gti l a < gti l b
 | 0, a, hab, hb => by omega
 | b + 1, a, hab, hb => by
  have h1 := h (b + 1) hb xd
  rw [Nat.add_sub_cancel] at h1
  by_cases e : a = b
  ·
   subst e; exact h1
  ·
   have := asc h b a xd xd; omega
theorem inB_new {l : List Int} (h : ∀ k, k < l.length → 0 < k → gti l (k - 1) < gti l k) {j : Nat} (hj : j < l.length) : inB (l.take j) (gti l j) = false := by
 rw [Bool.eq_false_iff, Ne, inB_iff]
 intro hm
 obtain ⟨i, hi, he⟩ := List.mem_iff_getElem.1 hm
 have hi2 : i < j := by simp at hi; omega
 have h1 := asc h j i hi2 hj
 have h2 := zdh (l := l) (k := i) xd
 rw [List.getElem_take] at he
 rw [List.getElem?_eq_getElem xd] at h2
 have := Option.some.inj h2
 omega
theorem has_set {n : Nat} {l : List Sft} {c : List Int} {i j p : Nat} (hj : j < (gti l i).pd.length) (hp : gti (gti l i).pd j = (p : Int)) (hpn : p < n) (hnew : inB ((gti l i).pd.take j) p = false) : ((hasL n l c i j).map eI).set p (eI (hasF l c i j p + gti c i)) = (hasL n l c i (j + 1)).map eI := by
 refine List.ext_getElem? fun q => ?_
 rw [List.getElem?_set]
 by_cases hqn : q < n
 ·
  rw [hasL_get hqn]
  split
  ·
   rename_i e
   subst e
   rw [if_pos (by simp [hasL]; exact hqn), hasL_get hqn]
   congr 2
   unfold hasF
   rw [if_neg (by rw [hnew]; simp), if_pos ((inB_step hj p).2 (.inr hp))]
   omega
  ·
   rename_i e
   rw [hasL_get hqn]
   congr 2
   unfold hasF
   congr 1
   by_cases h1 : inB ((gti l i).pd.take j) q = true
   ·
    rw [if_pos h1, if_pos ((inB_step hj q).2 (.inl h1))]
   ·
    rw [if_neg h1, if_neg (fun h2 => by
     rcases (inB_step hj q).1 h2 with h3 | h3
     ·
      exact h1 h3
     ·
      omega)]
 ·
  have e1 : ((hasL n l c i (j + 1)).map eI)[q]? = none := List.getElem?_eq_none (by simp [hasL]; omega)
  have e2 : ((hasL n l c i j).map eI)[q]? = none := List.getElem?_eq_none (by simp [hasL]; omega)
  rw [e1, e2]
  split
  ·
   rename_i e; omega
  ·
   rfl
theorem has_zero (n : Nat) (l : List Sft) (c : List Int) : List.replicate n (eI 0) = (hasL n l c 0 0).map eI := by
 refine List.ext_getElem? fun q => ?_
 by_cases hqn : q < n
 ·
  rw [hasL_get hqn, List.getElem?_replicate, if_pos hqn]; rfl
 ·
  rw [List.getElem?_eq_none (by simp; omega), List.getElem?_eq_none (by simp [hasL]; omega)]
theorem has_next (n : Nat) (l : List Sft) (c : List Int) (i : Nat) : hasL n l c i (gti l i).pd.length = hasL n l c (i + 1) 0 := by
 unfold hasL
 congr 1
 funext p
 unfold hasF
 rw [List.take_length, List.take_zero, inB_nil]
 simp [cvP]
theorem hasF_bd {l : List Sft} {c : List Int} (h : okC l c) {i : Nat} (hi : i < l.length) (j p : Nat) : 0 ≤ hasF l c i j p ∧ hasF l c i j p ≤ 20 * (i + 1) := by
 have h1 := cvP_bd h p i xd
 have h2 := h.2.2 i hi
 unfold hasF
 split <;> omega
theorem hasF_zero (l : List Sft) (c : List Int) (p : Nat) (i : Nat) : hasF l c i 0 p = cvP l c i p := by
 unfold hasF; rw [List.take_zero, inB_nil, if_neg xo, Int.add_zero]
set_option maxHeartbeats 2000000 in
theorem short_pf (d : List Int) (l : List Sft) (c : List Int) (hv : zce d l = true) (hc : okC l c) : Pure P 17 [eL eI d, eL eSh l, eL eI c] (eI (shE d l c)) := by
 obtain ⟨⟨q1, q2, q3⟩, qd, ql⟩ := zb4 hv
 have hcl := hc.1
 refine zcl (by rw [IsP.eq (P := P)]; exact Tryz.func17) rfl rfl rfl rfl rfl xa (.s _) (by simp only [argF]; rfl) ?_
 refine zag (zab (zac rfl (zad (zag (zab (zac rfl (zaf rfl rfl (zaa rfl) (zao rfl ts22 rfl) (zaf rfl rfl (zaa rfl) (does_make rfl ts22 ti3 rfl rfl xf rfl rfl rfl rfl xd xd xd) (zac rfl (zad (zag (zag (zab (zac rfl (zaf rfl rfl (zaa rfl) (zao rfl ts23 rfl) (zac rfl (zad (zai (zas ?_)))))))))))))))))))
 refine zb1 (S := Nat) (fun i => [(0, eL eI d), (1, eL eSh l), (2, eL eI c), (7, .own 0 1 d.length), (17, eL eSh l), (18, eI l.length), (19, eI i)]) (fun i => [.row 1 ((hasL d.length l c i 0).map eI)]) (fun i => i ≤ l.length) (fun i => l.length - i) 0 (zb8 [0] xf ⟨⟨_, rfl, .rowE (zav fun _ => (Lo.s _).cells) (has_zero d.length l c)⟩, trivial⟩ ⟨.lo _ (zan fun _ => .s _), .lo _ xa, .lo _ (zan fun _ => .s _), .own 0 0 1 _ _ rfl rfl, .lo _ xa, .lo _ (.s _), .lo _ (.s _), trivial⟩) (Nat.zero_le _) (fun i hi => ?_)
 refine zag (zab ?_)
 refine za3 rfl rfl (zaa rfl) (za2 rfl rfl rfl) (fun h20 => ?_) (fun h20 => ?_)
 all_goals refine zad (zag ?_)
 all_goals (first | refine za5 rfl ?_ | refine zau rfl ?_)
 all_goals (repeat (first | refine zag ?_ | refine zar ?_ | refine zas ?_))
 ·
  have hlt : i < l.length := by omega
  obtain ⟨s, hs⟩ : ∃ s, gti l i = s := ⟨_, rfl⟩
  have hix : (l.map eSh)[i]? = some (eSh s) := by rw [← hs]; exact zbb hlt
  have hsl := (ql i hlt).2
  rw [hs] at hsl
  refine zab (zac rfl (zaf rfl rfl (zaa rfl) (zal rfl ts23 ti43 rfl rfl rfl hix rfl) (zcx ta43 ti43 rfl (zaf rfl rfl (zaa rfl) (za1 rfl ti43 rfl rfl) (zac rfl (zba rfl (zaa rfl) (zaj rfl ti43 rfl rfl rfl rfl rfl rfl xf xf) (zad (zag ?_))))))))
  refine zbg (zbm (id := 1) rfl) ?_
  refine zbg (zcb (d := 9) rfl rfl rfl) ?_
  refine zab (zbz tf43_0 rfl (zbu ta22 rfl (zaf rfl rfl (zaa rfl) (zao rfl ts22 rfl) (zac rfl (zad (zai (zas ?_)))))))
  refine zda (d := 25) rfl (fun hm3 => ?_)
  unfold maxLen at hm3
  refine zb1 (S := Nat) (fun j => [(0, eL eI d), (1, eL eSh l), (2, eL eI c), (7, .own 0 1 d.length), (17, eL eSh l), (18, eI l.length), (19, eI i), (8, eI i), (25, eL eI s.pd), (26, eI s.pd.length), (27, eI j)]) (fun j => [.row 1 ((hasL d.length l c i j).map eI)]) (fun j => j ≤ s.pd.length) (fun j => s.pd.length - j) 0 (zb8 [0] xf ⟨⟨_, rfl, .rowE (zav fun _ => (Lo.s _).cells) rfl⟩, trivial⟩ ⟨.lo _ (zan fun _ => .s _), .lo _ xa, .lo _ (zan fun _ => .s _), .own 0 0 1 _ _ rfl rfl, .lo _ xa, .lo _ (.s _), .lo _ (.s _), .lo _ (.s _), .lo _ (zan fun _ => .s _), .lo _ (.s _), .lo _ (.s _), trivial⟩) (Nat.zero_le _) (fun j hj => ?_)
  refine zag (zab ?_)
  refine za3 rfl rfl (zaa rfl) (za2 rfl rfl rfl) (fun h28 => ?_) (fun h28 => ?_)
  all_goals refine zad (zag ?_)
  all_goals (first | refine za5 rfl ?_ | refine zau rfl ?_)
  all_goals (repeat (first | refine zag ?_ | refine zar ?_ | refine zas ?_))
  ·
   have hlt2 : j < s.pd.length := by omega
   obtain ⟨g1, g2, g3⟩ := hsl j hlt2
   obtain ⟨p, hp⟩ : ∃ p : Nat, gti s.pd j = (p : Int) := ⟨(gti s.pd j).toNat, by omega⟩
   have hpn : p < d.length := by omega
   have hnew : inB ((gti l i).pd.take j) p = false := by
    rw [hs, ← hp]; exact inB_new (fun k hk h0 => (hsl k hk).2.2 h0) hlt2
   have hget := hasL_get (l := l) (c := c) (i := i) (j := j) hpn
   have hset := has_set (c := c) (by rw [hs]; exact hlt2) (by rw [hs]; exact hp) hpn hnew
   have hbd := hasF_bd hc hlt j p
   have hcb := hc.2.2 i hlt
   refine zab (zaf rfl rfl (zaa rfl) (zal rfl ts22 ti3 rfl rfl rfl (zbb xd) rfl) (zbu ta3 rfl (zac rfl (zad (zai ?_)))))
   refine zb2 hmix ?_
   refine adraw_lastT rfl xi ?_
   refine zbx xi ?_
   simp only [List.dropLast]
   refine qx_s rfl (qx_s rfl (zby rfl rfl (zaa rfl) (za0 rfl ts22 ti3 rfl rfl hp hpn) (zby rfl rfl (zaa rfl) (zaq rfl ta3 rfl rfl rfl hget rfl) (qx_s rfl (qx_s rfl (zby rfl rfl (zaa rfl) (zal rfl ts22 ti3 rfl rfl rfl (zbb xd) rfl) (qx_l ta3 rfl (zby rfl rfl (zaa rfl) (zax rfl rfl rfl (IntWalk.i64_in _ xd)) (zby rfl rfl (zaa rfl) (za0 rfl ts22 ti3 rfl rfl hp hpn) ?_)))))))))
   refine zdg ?_
   refine zai (zba rfl (zaa rfl) (zaj rfl ti3 rfl rfl rfl hget rfl rfl xf xf) (zad (zbl (zai (zab (zaf rfl rfl (zaa rfl) (zax rfl rfl rfl (IntWalk.i64_in _ xd)) (zac rfl (zad (zai ?_)))))))))
   exact ⟨j + 1, by omega, by omega, zb8 [0] xf ⟨⟨_, rfl, .rowE (zav fun _ => (Lo.s _).cells) hset⟩, trivial⟩ ⟨.lo _ (zan fun _ => .s _), .lo _ xa, .lo _ (zan fun _ => .s _), .own 0 0 1 _ _ rfl rfl, .lo _ xa, .lo _ (.s _), .lo _ (.s _), .lo _ (.s _), .lo _ (zan fun _ => .s _), .lo _ (.s _), .lo _ (.s _), trivial⟩⟩
  ·
   have e : j = s.pd.length := by omega
   subst e
   (refine zb9 ?_; repeat (first | refine zcr ?_ | refine zbt ?_ | refine zbk rfl ?_ | refine zbl ?_ | refine zai ?_ | refine zag ?_ | refine zar ?_ | refine zas ?_))
   refine zab (zaf rfl rfl (zaa rfl) (zax rfl rfl rfl (IntWalk.i64_in _ xd)) (zac rfl (zad (zai ?_))))
   have hnx := has_next d.length l c i
   rw [hs] at hnx
   exact ⟨i + 1, by omega, by omega, zb8 [0] xf ⟨⟨_, rfl, .rowE (zav fun _ => (Lo.s _).cells) (by rw [hnx])⟩, trivial⟩ ⟨.lo _ (zan fun _ => .s _), .lo _ xa, .lo _ (zan fun _ => .s _), .own 0 0 1 _ _ rfl rfl, .lo _ xa, .lo _ (.s _), .lo _ (.s _), trivial⟩⟩
 ·
  have e : i = l.length := by omega
  subst e
  have HI : shE d l c = shF d l c d.length 0 := rfl
  generalize shE d l c = R at HI ⊢
  (refine zb9 ?_; repeat (first | refine zcr ?_ | refine zbt ?_ | refine zbk rfl ?_ | refine zbl ?_ | refine zai ?_ | refine zag ?_ | refine zar ?_ | refine zas ?_))
  refine zab (zac rfl (zaf rfl rfl (zaa rfl) (zao rfl ts22 rfl) (zac rfl (zad (zai (zas ?_))))))
  refine zb1 (S := Nat) (fun k => [(7, .own 0 1 d.length), (43, eL eI d), (44, eI d.length), (45, eI k)]) (fun k => [.row 1 ((hasL d.length l c l.length 0).map eI)]) (fun k => k ≤ d.length ∧ R = shF d l c (d.length - k) k) (fun k => d.length - k) 0 (zb8 [0] xf ⟨⟨_, rfl, .rowE (zav fun _ => (Lo.s _).cells) rfl⟩, trivial⟩ ⟨.own 0 0 1 _ _ rfl rfl, .lo _ (zan fun _ => .s _), .lo _ (.s _), .lo _ (.s _), trivial⟩) ⟨Nat.zero_le _, HI⟩ (fun k hk => ?_)
  obtain ⟨hk, HI⟩ := hk
  refine zag (zab ?_)
  refine za3 rfl rfl (zaa rfl) (za2 rfl rfl rfl) (fun h46 => ?_) (fun h46 => ?_)
  all_goals refine zad (zag ?_)
  all_goals (first | refine za5 rfl ?_ | refine zau rfl ?_)
  all_goals (repeat (first | refine zag ?_ | refine zar ?_ | refine zas ?_))
  ·
   have hlt : k < d.length := by omega
   have hget := hasL_get (l := l) (c := c) (i := l.length) (j := 0) hlt
   rw [hasF_zero] at hget
   rw [show d.length - k = (d.length - (k + 1)) + 1 by omega, shF] at HI
   refine zab (zac rfl (zaf rfl rfl (zaa rfl) (zal rfl ts22 ti3 rfl rfl rfl (zbb xd) rfl) (zbu ta3 rfl (zac rfl (zac rfl (zad (zag (zab (zac rfl (zac rfl (zaf rfl rfl (zaa rfl) (za0 rfl ts22 ti3 rfl rfl rfl hlt) (zaf rfl rfl (zaa rfl) (zaq rfl ta3 rfl rfl rfl hget rfl) (zac rfl ?_)))))))))))))
   refine za3 rfl rfl (zaa rfl) (za2 rfl rfl rfl) (fun h55 => ?_) (fun h55 => ?_)
   all_goals refine zad (zai ?_)
   all_goals (first | refine za5 rfl ?_ | refine zau rfl ?_)
   all_goals (repeat (first | refine zag ?_ | refine zai ?_ | refine zar ?_ | refine zbl ?_))
   ·
    rw [if_pos xd] at HI
    refine zab (zac rfl (zac rfl (zad (zai ?_))))
    (refine za7 ?_; repeat (first | refine zbc ?_ | refine zbe ?_))
    exact zb6 (.inr rfl) rfl (congrArg eI HI.symm)
   ·
    rw [if_neg xd] at HI
    refine zab (zaf rfl rfl (zaa rfl) (zax rfl rfl rfl (IntWalk.i64_in _ xd)) (zac rfl (zad (zai ?_))))
    exact ⟨k + 1, ⟨by omega, HI⟩, by omega, zb8 [0] xf ⟨⟨_, rfl, .rowE (zav fun _ => (Lo.s _).cells) rfl⟩, trivial⟩ ⟨.own 0 0 1 _ _ rfl rfl, .lo _ (zan fun _ => .s _), .lo _ (.s _), .lo _ (.s _), trivial⟩⟩
  ·
   rw [show d.length - k = 0 by omega, shF] at HI
   (refine zb9 ?_; repeat (first | refine zcr ?_ | refine zbt ?_ | refine zbk rfl ?_ | refine zbl ?_ | refine zai ?_ | refine zag ?_ | refine zar ?_ | refine zas ?_))
   refine zab (zac rfl (zad (zai ?_)))
   (refine za7 ?_; repeat (first | refine zbc ?_ | refine zbe ?_))
   exact zb6 (.inr rfl) rfl (congrArg eI HI.symm)
set_option maxHeartbeats 2000000 in
theorem rShort_pf (d : List Int) (l : List Sft) (c : List Int) (hd : d.length ≤ 24) (hc : okC l c) : Pure P 22 [eL eI d, eL eSh l, eL eI c] (eI (shE d l c)) := by
 have hcl := hc.1
 have hl12 := hc.2.1
 have HI : shE d l c = shF d l c d.length 0 := rfl
 generalize shE d l c = R at HI ⊢
 refine zcl (by rw [IsP.eq (P := P)]; exact Tryz.func22) rfl rfl rfl rfl rfl xa (.s _) (by simp only [argF]; rfl) ?_
 refine zag (zab (zac rfl (zad (zag (zag (zab (zac rfl (zad (zai (zas ?_))))))))))
 refine zb1 (S := Nat) (fun k => [(0, eL eI d), (1, eL eSh l), (2, eL eI c), (7, eI k)]) (fun _ => []) (fun k => k ≤ d.length ∧ R = shF d l c (d.length - k) k) (fun k => d.length - k) 0 (zb8 [] xf trivial ⟨.lo _ (zan fun _ => .s _), .lo _ xa, .lo _ (zan fun _ => .s _), .lo _ (.s _), trivial⟩) ⟨Nat.zero_le _, HI⟩ (fun k hk => ?_)
 obtain ⟨hk, HI⟩ := hk
 refine zag (zag (zab (zac rfl (zac rfl (zaf rfl rfl (zaa rfl) (zao rfl ts22 rfl) ?_)))))
 refine za3 rfl rfl (zaa rfl) (za2 rfl rfl rfl) (fun h13 => ?_) (fun h13 => ?_)
 all_goals refine zad (zai ?_)
 all_goals (first | refine za5 rfl ?_ | refine zau rfl ?_)
 all_goals (repeat (first | refine zag ?_ | refine zar ?_ | refine zas ?_))
 ·
  have hlt : k < d.length := by omega
  rw [show d.length - k = (d.length - (k + 1)) + 1 by omega, shF] at HI
  refine zab (zac rfl (zad (zag (zag (zab (zac rfl (zad (zai (zas ?_)))))))))
  refine zb1 (S := Nat) (fun i => [(0, eL eI d), (1, eL eSh l), (2, eL eI c), (7, eI k), (8, eI (cvP l c i k)), (9, eI i)]) (fun _ => []) (fun i => i ≤ l.length) (fun i => l.length - i) 0 (zb8 [] xf trivial ⟨.lo _ (zan fun _ => .s _), .lo _ xa, .lo _ (zan fun _ => .s _), .lo _ (.s _), .lo _ (.s _), .lo _ (.s _), trivial⟩) (Nat.zero_le _) (fun i hi => ?_)
  refine zag (zag ?_)
  have hbd := cvP_bd hc k i hi
  refine zab (zac rfl (zac rfl (zaf rfl rfl (zaa rfl) (zao rfl ts23 rfl) ?_)))
  refine za3 rfl rfl (zaa rfl) (za2 rfl rfl rfl) (fun h19 => ?_) (fun h19 => ?_)
  all_goals refine zad (zai ?_)
  all_goals (first | refine za5 rfl ?_ | refine zau rfl ?_)
  all_goals (repeat (first | refine zag ?_ | refine zar ?_ | refine zas ?_))
  ·
   have hlt2 : i < l.length := by omega
   have hcb := hc.2.2 i hlt2
   have hnx : cvP l c (i + 1) k = cvP l c i k + if inB (gti l i).pd k = true then gti c i else 0 := rfl
   have hin := in_pf (P := P) (gti l i) k
   refine zab (zac rfl (zac rfl (zaf rfl rfl (zaa rfl) (zal rfl ts23 ti43 rfl rfl rfl (zbb xd) rfl) (zcx ta43 ti43 rfl (zac rfl ?_)))))
   refine zcn rfl rfl (zaa rfl) (zam rfl rfl (hin) (zae rfl (zae rfl zap))) (fun h27 => ?_) (fun h27 => ?_)
   all_goals refine zad (zai ?_)
   all_goals (first | refine za5 rfl ?_ | refine zau rfl ?_)
   all_goals (repeat (first | refine zai ?_ | refine zar ?_ | refine zbl ?_))
   ·
    rw [if_pos h27] at hnx
    refine zab (zac rfl (zac rfl (zac rfl (zaf rfl rfl (zaa rfl) (zal rfl ts22 ti3 rfl rfl rfl (zbb xd) rfl) (zbu ta3 rfl (zaf rfl rfl (zaa rfl) (zax rfl rfl rfl (IntWalk.i64_in _ xd)) (zac rfl (zad (zbl (zai (zab (zac rfl (zaf rfl rfl (zaa rfl) (zax rfl rfl rfl (IntWalk.i64_in _ xd)) (zac rfl (zad (zai ?_))))))))))))))))
    rw [← hnx]
    exact ⟨i + 1, by omega, by omega, zb8 [] xf trivial ⟨.lo _ (zan fun _ => .s _), .lo _ xa, .lo _ (zan fun _ => .s _), .lo _ (.s _), .lo _ (.s _), .lo _ (.s _), trivial⟩⟩
   ·
    rw [if_neg (by rw [h27]; simp), Int.add_zero] at hnx
    refine zab (zac rfl (zaf rfl rfl (zaa rfl) (zax rfl rfl rfl (IntWalk.i64_in _ xd)) (zac rfl (zad (zai ?_)))))
    rw [← hnx]
    exact ⟨i + 1, by omega, by omega, zb8 [] xf trivial ⟨.lo _ (zan fun _ => .s _), .lo _ xa, .lo _ (zan fun _ => .s _), .lo _ (.s _), .lo _ (.s _), .lo _ (.s _), trivial⟩⟩
  ·
   have e : i = l.length := by omega
   subst e
   (refine zb9 ?_; repeat (first | refine zcr ?_ | refine zbt ?_ | refine zbk rfl ?_ | refine zbl ?_ | refine zai ?_ | refine zag ?_ | refine zar ?_ | refine zas ?_))
   refine zab (zac rfl (zac rfl (zac rfl (zaf rfl rfl (zaa rfl) (zal rfl ts22 ti3 rfl rfl rfl (zbb xd) rfl) (zbu ta3 rfl ?_)))))
   refine za3 rfl rfl (zaa rfl) (za2 rfl rfl rfl) (fun h39 => ?_) (fun h39 => ?_)
   all_goals refine zad (zai ?_)
   all_goals (first | refine za5 rfl ?_ | refine zau rfl ?_)
   all_goals (repeat (first | refine zag ?_ | refine zai ?_ | refine zar ?_ | refine zbl ?_))
   ·
    rw [if_pos xd] at HI
    refine zab (zac rfl (zac rfl (zad (zai ?_))))
    (refine za7 ?_; repeat (first | refine zbc ?_ | refine zbe ?_))
    exact zb6 (.inr rfl) rfl (congrArg eI HI.symm)
   ·
    rw [if_neg xd] at HI
    refine zab (zac rfl (zaf rfl rfl (zaa rfl) (zax rfl rfl rfl (IntWalk.i64_in _ xd)) (zac rfl (zad (zai ?_)))))
    exact ⟨k + 1, ⟨by omega, HI⟩, by omega, zb8 [] xf trivial ⟨.lo _ (zan fun _ => .s _), .lo _ xa, .lo _ (zan fun _ => .s _), .lo _ (.s _), trivial⟩⟩
 ·
  rw [show d.length - k = 0 by omega, shF] at HI
  (refine zb9 ?_; repeat (first | refine zcr ?_ | refine zbt ?_ | refine zbk rfl ?_ | refine zbl ?_ | refine zai ?_ | refine zag ?_ | refine zar ?_ | refine zas ?_))
  refine zab (zac rfl (zad (zai ?_)))
  (refine za7 ?_; repeat (first | refine zbc ?_ | refine zbe ?_))
  exact zb6 (.inr rfl) rfl (congrArg eI HI.symm)
end Go.Proofs.YtllkbjcemecmjaaGreat.Aw
end
section
namespace Go.Proofs.YtllkbjcemecmjaaGreat.Aw
open Go.RowKit
def RnL (ρ : List Nat) (l l' : List AV) : Prop := l.length = l'.length ∧ ∀ (j : Nat) x y, l[j]? = some x → l'[j]? = some y → Rn ρ x y
theorem RnL.nil {ρ : List Nat} : RnL ρ [] [] := ⟨rfl, by simp⟩
theorem RnL.cons {ρ : List Nat} {x y : AV} {l l' : List AV} (h : Rn ρ x y) (t : RnL ρ l l') : RnL ρ (x :: l) (y :: l') := by
 refine ⟨by simp [t.1], fun j a b ha hb => ?_⟩
 cases j with
 | zero => simp at ha hb; subst ha hb; exact h
 | succ j => exact t.2 j a b (by simpa using ha) (by simpa using hb)
theorem zc5 {ρ : List Nat} {sz : Nat} {cs cs' : List AV} (h : RnL ρ cs cs') : ObRn ρ (.row sz [.agg cs]) (.row sz [.agg cs']) := .rowR sz _ _ (.agg cs cs' h.1 h.2) h.2 h.1
section
variable {N : Nat} {F F' : Frm} {σ σ' : List Ob}
theorem reread_rel {G : Cx} {id sz : Nat} {cs cs' : List AV} (hr : Rel G σ) (hs : σ[id]? = some (.row sz cs)) (h0 : cs = [] → cs' = []) (h : ∀ b f, RowAt G b sz cs f → RowAt G b sz cs' f) : Rel G (σ.set id (.row sz cs')) := by
 have hid : id < σ.length := (List.getElem?_eq_some_iff.1 hs).1
 refine ⟨hr.below, hr.le, hr.st, fun i ob hob => ?_, fun i j b hi hj hm hm' => ?_, fun i hi => hr.fresh i (by simpa using hi)⟩
 ·
  by_cases hi : id = i
  ·
   subst hi
   rw [List.getElem?_set_self hid] at hob
   cases hob
   have h1 := hr.obs id _ hs
   simp only [ObOk] at h1 ⊢
   cases hx : G.mu id with
   | none => rw [hx] at h1; exact h1
   | some x =>
    rw [hx] at h1
    cases x with
    | none => exact h0 h1
    | some b => exact ⟨h b _ h1.1, h1.2⟩
  ·
   rw [List.getElem?_set_ne hi] at hob; exact hr.obs i ob hob
 ·
  have old : ∀ i, alive (σ.set id (.row sz cs')) i → alive σ i := by
   rintro i ⟨sz1, cs1, hi⟩
   by_cases h2 : id = i
   ·
    subst h2; exact ⟨sz, cs, hs⟩
   ·
    rw [List.getElem?_set_ne h2] at hi; exact ⟨sz1, cs1, hi⟩
  exact hr.inj i j b (old i hi) (old j hj) hm hm'
theorem wk_ownC {id sz sz2 : Nat} {e e' : AV} {pre post : List AV} (hs : σ[id]? = some (.row sz [e])) (h1 : e.cells = pre ++ .s (.slice none 0 0) :: post) (h2 : e'.cells = pre ++ .own σ.length sz2 0 :: post) :
  Weak N F σ F (σ.set id (.row sz [e']) ++ [.row sz2 []]) := fun G a h => by
 have he := nil_ext h.rel
 have hr := nil_rel h.rel sz2
 have hid : id < σ.length := (List.getElem?_eq_some_iff.1 hs).1
 refine ⟨G.new σ.length G.w none, rfl, he.step, ?_, h.fr.ext he, h.df, h.nt⟩
 have hset : σ.set id (Ob.row sz [e']) ++ [Ob.row sz2 []] = (σ ++ [Ob.row sz2 []]).set id (Ob.row sz [e']) := by rw [List.set_append_left _ _ hid]
 rw [hset]
 refine reread_rel hr (by rw [List.getElem?_append_left hid]; exact hs) (fun h => by cases h) ?_
 rintro b f ⟨cur, t, fr, g1, g2, g3, g4⟩
 refine ⟨cur, t, fr, g1, g2, g3, fun k y hy => ?_⟩
 cases k with
 | succ k => simp at hy
 | zero =>
  simp at hy
  subst hy
  obtain ⟨k1, k2, k3⟩ := g4 0 e rfl
  rw [h1] at k1 k2 k3
  rw [h2]
  refine ⟨by simpa using k1, fun c hc => ?_, fun j c hc => ?_⟩
  ·
   simp only [List.mem_append, List.mem_cons] at hc
   rcases hc with hc | rfl | hc
   ·
    exact k2 c (by simp [hc])
   ·
    rfl
   ·
    exact k2 c (by simp [hc])
  ·
   by_cases hj : j = pre.length
   ·
    subst hj
    simp at hc
    subst hc
    obtain ⟨v, h6, h7⟩ := k3 pre.length (.s (.slice none 0 0)) xo
    refine ⟨v, h6, ?_⟩
    cases h7
    exact .own0 σ.length sz2 none (fun a ha => by cases ha) (by simp [Cx.new])
   ·
    have e : (pre ++ AV.s (.slice none 0 0) :: post)[j]? = some c := by
     rw [← hc]
     by_cases hlt : j < pre.length
     ·
      rw [List.getElem?_append_left hlt, List.getElem?_append_left hlt]
     ·
      rw [List.getElem?_append_right xd, List.getElem?_append_right xd]
      obtain ⟨i, hi⟩ : ∃ i, j - pre.length = i + 1 := ⟨j - pre.length - 1, by omega⟩
      rw [hi]; rfl
    exact k3 j c e
end
section
variable {P : Program} {o : Oper} {F : Frm} {σ : List Ob}
theorem does_fin {sz n : Nat} {l : List AV} (h : Does P o F [] (.own 0 sz n) [.row sz l]) (hn : n = l.length) (hop0 : ∀ y ∈ o.op.operands, Lo 0 (F.eval y)) (hlo : Lo 0 (.sl l)) : Does P o F σ (.sl l) σ := by
 intro G a next Q hr hop hk
 obtain ⟨G0, hG0⟩ : ∃ G0 : Cx, G0 = { base := G.w.heap.size, w0 := G.w, w := G.w, mu := fun _ => none, St := G.St } := ⟨_, rfl⟩
 have hr0 : Rel G0 [] := by
  subst hG0
  exact ⟨⟨Below.refl _ _, hr.below.now, hr.below.now.lt⟩, Nat.le_refl _, fun b o h => h.elim (fun h => hr.st b o (.inl h)) False.elim, fun id ob h => by simp at h, fun i j b hi _ _ _ => by obtain ⟨_, _, h⟩ := hi; simp at h, fun _ _ => rfl⟩
 have hw : G.w = G0.w := by subst hG0; rfl
 rw [hw]
 refine h G0 a next Q hr0 (fun y hy => (hop y hy).low (hop0 y hy) (by subst hG0; exact fun _ _ h => h) (by subst hG0; exact fun _ _ _ => rfl) (fun id y h => by omega) (fun h => by omega)) (fun v G1 he hr1 hrep => ?_)
 obtain ⟨he2, hr2⟩ := froz_ok hr1 (id := 0) (sz := sz) (cs := l) rfl
 have hrep2 := rep_fz hr2 (id := 0) (sz := sz) (cs := l) rfl hn (hrep.ext he2)
 have hb0 : G1.base = G.w.heap.size := by rw [he.base]; subst hG0; rfl
 have hw0 : (G1.froz 0).w0 = G.w := by show G1.w0 = _; rw [he.w0]; subst hG0; rfl
 have hbel : Below G.w.heap.size G.w (G1.froz 0).w := by have := hr2.below; rw [show (G1.froz 0).base = G.w.heap.size from hb0, hw0] at this; exact this.toBelow
 have hSt : G0.St = G.St := by subst hG0; rfl
 obtain ⟨h4, h5⟩ := after_call (G1 := G1.froz 0) hr rfl hbel (fun b o h => he2.st _ _ (he.st _ _ (by rw [hSt]; exact h))) (fun b o h => by
  rcases he2.stN b o h with h1 | h1
  ·
   rcases he.stN b o h1 with h2 | h2
   ·
    rw [hSt] at h2; exact .inl h2
   ·
    right; have e : G0.base = G.w.heap.size := by subst hG0; rfl
    omega
  ·
   right; omega) (fun b o h => hr2.st b o (.inl h))
 exact hk v { G with w := (G1.froz 0).w, St := (G1.froz 0).St } h4 h5 (hrep2.low hlo (fun _ _ h => h) (fun _ _ _ => rfl) (fun id y h => by omega) (fun h => by omega))
theorem lit1_sF {t e : TypeId} {y : Operand} {z : Value} {bt : Nat} {v : Value} (ho : o.op = .buildSlice t 1 #[(0, y)]) (ht : zcd P t = some e) (hi : zb5 P e = some (some z, 1, bt))
  (h1 : (ofValue z).cells.all AV.one = true) (hn : (ofValue z).cells.length = 1) (hy : F.eval y = .s v) (hx : (AV.s v).one = true) : Does P o F σ (.sl [.s v]) σ :=
 does_fin (lit1_s ho ht hi h1 hn hy hx) rfl (fun u hu => by simp [ho, Op.operands] at hu; subst hu; rw [hy]; exact .s _) (.sl _ (zah (.s _) zak))
theorem lit1_slF {t e : TypeId} {y : Operand} {z : Value} {bt : Nat} {l : List AV} (ho : o.op = .buildSlice t 1 #[(0, y)]) (ht : zcd P t = some e) (hi : zb5 P e = some (some z, 1, bt))
  (h1 : (ofValue z).cells.all AV.one = true) (hn : (ofValue z).cells.length = 1) (hy : F.eval y = .sl l) (hx : (AV.sl l).one = true) (hl : Lo 0 (.sl l)) : Does P o F σ (.sl [.sl l]) σ :=
 does_fin (lit1_sl ho ht hi h1 hn hy hx) rfl (fun u hu => by simp [ho, Op.operands] at hu; subst hu; rw [hy]; exact hl) (.sl _ (zah hl zak))
theorem zco {t e : TypeId} {y : Operand} {z : Value} {n bt : Nat} {cs : List AV} (ho : o.op = .buildSlice t 1 #[(0, y)]) (ht : zcd P t = some e) (hi : zb5 P e = some (some z, n, bt))
  (h1 : (ofValue z).cells.all AV.one = true) (hn : (ofValue z).cells.length = n) (h2 : 2 ≤ n) (hsm : n ≤ 16777216) (hy : F.eval y = .agg cs) (hx : cs.all AV.one = true) (hl : cs.length = n) (hlo : Lo 0 (.agg cs)) : Does P o F σ (.sl [.agg cs]) σ :=
 does_fin (does_litA ho ht hi h1 hn h2 hsm hy hx hl) rfl (fun u hu => by simp [ho, Op.operands] at hu; subst hu; rw [hy]; exact hlo) (.sl _ (zah hlo zak))
end
section
variable {P : Program} {F : Frm} {σ : List Ob}
end
end Go.Proofs.YtllkbjcemecmjaaGreat.Aw
end
section
namespace Go.Proofs.YtllkbjcemecmjaaGreat.Aw
open Go.RowKit Go.Proofs
variable {P : Program} [IsP P]
def zcs (l : List Sft) : List Int := l.map Sft.most
theorem mostL_len (l : List Sft) : (zcs l).length = l.length := by simp [zcs]
theorem mostL_gti {l : List Sft} {k : Nat} (h : k < l.length) : gti (zcs l) k = (gti l k).most := by
 have h1 : (zcs l)[k]? = some (gti l k).most := by
  unfold zcs
  rw [List.getElem?_map, zdh h]; rfl
 unfold gti at *
 rw [h1]; rfl
set_option maxHeartbeats 1000000 in
theorem most_pf (l : List Sft) (hl : l.length ≤ 12) : Pure P 18 [eL eSh l] (eL eI (zcs l)) := by
 refine zcl (by rw [IsP.eq (P := P)]; exact Tryz.func18) rfl rfl rfl rfl rfl xa (zan fun _ => .s _) (by simp only [argF]; rfl) ?_
 refine zag (zab (zac rfl (zad (zag (zab (zaf rfl rfl (zaa rfl) (does_lit0 rfl rfl ts22 ti3) (zac rfl (zad (zag (zag (zab (zac rfl (zaf rfl rfl (zaa rfl) (zao rfl ts23 rfl) (zac rfl (zad (zai (zas ?_)))))))))))))))))
 refine zbg (wk_own (d := 3) 1 rfl (.inl rfl)) ?_
 refine zb1 (S := Nat) (fun k => [(7, eL eSh l), (8, eI l.length), (9, eI k), (3, .own 0 1 k)]) (fun k => [.row 1 (((zcs l).take k).map eI)]) (fun k => k ≤ l.length) (fun k => l.length - k) 0 (zb8 [0] xf ⟨⟨_, rfl, .rowE (zaz) rfl⟩, trivial⟩ ⟨.lo _ xa, .lo _ (.s _), .lo _ (.s _), .own 0 0 1 _ _ rfl rfl, trivial⟩) (Nat.zero_le _) (fun k hk => ?_)
 have hcl := mostL_len l
 refine zag (zab ?_)
 refine za3 rfl rfl (zaa rfl) (za2 rfl rfl rfl) (fun h10 => ?_) (fun h10 => ?_)
 all_goals refine zad (zag ?_)
 all_goals (first | refine za5 rfl ?_ | refine zau rfl ?_)
 all_goals (repeat (first | refine zag ?_ | refine zar ?_ | refine zas ?_))
 ·
  have hlt : k < l.length := by omega
  have htk : (((zcs l).take k).map eI).length = k := by simp; omega
  have hrow : ((zcs l).take (k + 1)).map eI = ((zcs l).take k).map eI ++ [eI (gti l k).most] := by
   rw [zcq xd, List.map_append, mostL_gti hlt]; rfl
  refine zab (zaf rfl rfl (zaa rfl) (zal rfl ts23 ti43 rfl rfl rfl (zbb xd) rfl) (zcx ta43 ti43 rfl (zaf rfl rfl (zaa rfl) (za1 rfl ti43 rfl rfl) (zba rfl (zaa rfl) (zaj rfl ti43 rfl rfl rfl rfl rfl rfl xf xf) (zad (zai ?_))))))
  refine zbg (zbm (id := 1) rfl) ?_
  refine zbg (zcb (d := 5) rfl rfl rfl) ?_
  refine zab (zac rfl (zbz tf43_2 rfl (zbu ta3 rfl (zaf rfl rfl (zaa rfl) (lit1_sF rfl ts22 ti3 rfl rfl rfl rfl) ?_))))
  refine zaf rfl rfl (zaa rfl) (zbq rfl ts22 ti3 rfl xf rfl rfl xk rfl xe xg xg) ?_
  refine zac rfl (zad (zbl (zai (zab (zaf rfl rfl (zaa rfl) (zax rfl rfl rfl (IntWalk.i64_in _ xd)) (zac rfl (zad (zai ?_))))))))
  exact ⟨k + 1, by omega, by omega, zb8 [2] xf ⟨⟨_, rfl, .rowE (zav fun _ => (Lo.s _).cells) (Eq.trans (b := ((zcs l).take k).map eI ++ [eI (gti l k).most]) rfl hrow.symm)⟩, trivial⟩ ⟨.lo _ xa, .lo _ (.s _), .lo _ (.s _), .own 2 0 1 _ _ rfl (by simp; omega), trivial⟩⟩
 ·
  (refine zb9 ?_; repeat (first | refine zcr ?_ | refine zbt ?_ | refine zbk rfl ?_ | refine zbl ?_ | refine zai ?_ | refine zag ?_ | refine zar ?_ | refine zas ?_))
  refine zab (zac rfl (zac rfl (zad (zai ?_))))
  (refine za7 ?_; repeat (first | refine zbc ?_ | refine zbe ?_))
  have e : (zcs l).take k = zcs l := List.take_of_length_le xd
  refine post1f (.inr rfl) rfl ?_
  rw [e]
  exact .own _ _ _ _ _ rfl rfl (by simp; omega)
set_option maxHeartbeats 1000000 in
theorem greatest_pf (l : List Sft) (hl : l.length ≤ 12) : Pure P 26 [eL eSh l] (eL eI (zcs l)) := by
 refine zcl (by rw [IsP.eq (P := P)]; exact Tryz.func26) rfl rfl rfl rfl rfl xa (zan fun _ => .s _) (by simp only [argF]; rfl) ?_
 refine zag (zab (zac rfl (zad (zag (zab (zac rfl (zad (zag (zag (zab (zac rfl (zad (zai (zas ?_))))))))))))))
 refine zbg (wk_own (d := 3) 1 rfl (.inr rfl)) ?_
 refine zb1 (S := Nat) (fun k => [(0, eL eSh l), (4, eI k), (3, .own 0 1 k)]) (fun k => [.row 1 (((zcs l).take k).map eI)]) (fun k => k ≤ l.length) (fun k => l.length - k) 0 (zb8 [0] xf ⟨⟨_, rfl, .rowE (zaz) rfl⟩, trivial⟩ ⟨.lo _ xa, .lo _ (.s _), .own 0 0 1 _ _ rfl rfl, trivial⟩) (Nat.zero_le _) (fun k hk => ?_)
 have hcl := mostL_len l
 refine zag (zag (zab (zac rfl (zac rfl (zaf rfl rfl (zaa rfl) (zao rfl ts23 rfl) ?_)))))
 refine za3 rfl rfl (zaa rfl) (za2 rfl rfl rfl) (fun h8 => ?_) (fun h8 => ?_)
 all_goals refine zad (zai ?_)
 all_goals (first | refine za5 rfl ?_ | refine zau rfl ?_)
 all_goals (repeat (first | refine zag ?_ | refine zar ?_ | refine zas ?_))
 ·
  have hlt : k < l.length := by omega
  have htk : (((zcs l).take k).map eI).length = k := by simp; omega
  have hrow : ((zcs l).take (k + 1)).map eI = ((zcs l).take k).map eI ++ [eI (gti l k).most] := by
   rw [zcq xd, List.map_append, mostL_gti hlt]; rfl
  refine zab (zac rfl (zac rfl (zac rfl (zaf rfl rfl (zaa rfl) (zal rfl ts23 ti43 rfl rfl rfl (zbb xd) rfl) (zbz tf43_2 rfl (zbu ta3 rfl (zaf rfl rfl (zaa rfl) (lit1_sF rfl ts22 ti3 rfl rfl rfl rfl) ?_)))))))
  refine zaf rfl rfl (zaa rfl) (zbq rfl ts22 ti3 rfl xf rfl rfl xk rfl xe xg xg) ?_
  refine zac rfl (zad (zbl (zai (zab (zac rfl (zaf rfl rfl (zaa rfl) (zax rfl rfl rfl (IntWalk.i64_in _ xd)) (zac rfl (zad (zai ?_)))))))))
  exact ⟨k + 1, by omega, by omega, zb8 [1] xf ⟨⟨_, rfl, .rowE (zav fun _ => (Lo.s _).cells) (Eq.trans (b := ((zcs l).take k).map eI ++ [eI (gti l k).most]) rfl hrow.symm)⟩, trivial⟩ ⟨.lo _ xa, .lo _ (.s _), .own 1 0 1 _ _ rfl (by simp; omega), trivial⟩⟩
 ·
  (refine zb9 ?_; repeat (first | refine zcr ?_ | refine zbt ?_ | refine zbk rfl ?_ | refine zbl ?_ | refine zai ?_ | refine zag ?_ | refine zar ?_ | refine zas ?_))
  refine zab (zac rfl (zac rfl (zad (zai ?_))))
  (refine za7 ?_; repeat (first | refine zbc ?_ | refine zbe ?_))
  have e : (zcs l).take k = zcs l := List.take_of_length_le xd
  refine post1f (.inr rfl) rfl ?_
  rw [e]
  exact .own _ _ _ _ _ rfl rfl (by simp; omega)
theorem okC_of {d : List Int} {l : List Sft} {c : List Int} (hv : zce d l = true) (hc : cntB l c = true) : okC l c := by
 obtain ⟨⟨_, _, q3⟩, _, ql⟩ := zb4 hv
 obtain ⟨h1, h2⟩ := cntB_iff hc
 exact ⟨h1, q3, fun k hk => by have := h2 k hk; have := (ql k hk).1; omega⟩
structure Pln where
 c : List Int
 cost : Int
def ePl (p : Pln) : AV := .agg [eL eI p.c, eI p.cost]
def prcP (l : List Sft) (c : List Int) : Nat → Int
 | 0 => 0
 | n + 1 => prcP l c n + (gti l n).cost * gti c n
theorem mul_bd {a b : Int} (h1 : 0 ≤ a) (h2 : a ≤ 1000) (h3 : 0 ≤ b) (h4 : b ≤ 20) : 0 ≤ a * b ∧ a * b ≤ 20000 :=
 ⟨Int.mul_nonneg h1 h3, by have := Int.mul_le_mul h2 h4 h3 (by omega : (0 : Int) ≤ 1000); omega⟩
theorem prcP_bd {d : List Int} {l : List Sft} {c : List Int} (hv : zce d l = true) (h : okC l c) : ∀ n, n ≤ l.length → 0 ≤ prcP l c n ∧ prcP l c n ≤ 20000 * n
 | 0, _ => by simp [prcP]
 | n + 1, hn => by
  have ih := prcP_bd hv h n xd
  have h2 := h.2.2 n xd
  have h3 := ((zb4 hv).2.2 n xd).1
  have := mul_bd h3.2.1 h3.2.2.1 h2.1 h2.2
  unfold prcP
  omega
set_option maxHeartbeats 1000000 in
theorem price_pf (d : List Int) (l : List Sft) (c : List Int) (hv : zce d l = true) (hc : okC l c) : Pure P 28 [eL eSh l, eL eI c] (eI (prcP l c l.length)) := by
 obtain ⟨⟨q1, q2, q3⟩, qd, ql⟩ := zb4 hv
 have hcl := hc.1
 refine zcl (by rw [IsP.eq (P := P)]; exact Tryz.func28) rfl rfl rfl rfl rfl xa (.s _) (by simp only [argF]; rfl) ?_
 refine zag (zab (zac rfl (zad (zag (zab (zac rfl (zad (zag (zag (zab (zac rfl (zaf rfl rfl (zaa rfl) (zao rfl ts23 rfl) (zac rfl (zad (zai (zas ?_))))))))))))))))
 refine zb1 (S := Nat) (fun k => [(1, eL eI c), (8, eL eSh l), (9, eI l.length), (10, eI k), (5, eI (prcP l c k))]) (fun _ => []) (fun k => k ≤ l.length) (fun k => l.length - k) 0 (zb8 [] xf trivial ⟨.lo _ (zan fun _ => .s _), .lo _ xa, .lo _ (.s _), .lo _ (.s _), .lo _ (.s _), trivial⟩) (Nat.zero_le _) (fun k hk => ?_)
 refine zag ?_
 have hbd := prcP_bd hv hc k hk
 refine zab ?_
 refine za3 rfl rfl (zaa rfl) (za2 rfl rfl rfl) (fun h11 => ?_) (fun h11 => ?_)
 all_goals refine zad (zag ?_)
 all_goals (first | refine za5 rfl ?_ | refine zau rfl ?_)
 all_goals (repeat (first | refine zag ?_ | refine zar ?_ | refine zas ?_))
 ·
  have hlt : k < l.length := by omega
  have hb1 := (ql k hlt).1
  have hb2 := hc.2.2 k hlt
  have hb := mul_bd hb1.2.1 hb1.2.2.1 hb2.1 hb2.2
  have hnx : prcP l c (k + 1) = prcP l c k + (gti l k).cost * gti c k := rfl
  refine zab (zac rfl (zaf rfl rfl (zaa rfl) (zal rfl ts23 ti43 rfl rfl rfl (zbb xd) rfl) (zcx ta43 ti43 rfl (zaf rfl rfl (zaa rfl) (za1 rfl ti43 rfl rfl) (zac rfl (zba rfl (zaa rfl) (zaj rfl ti43 rfl rfl rfl rfl rfl rfl xf xf) (zad (zai ?_))))))))
  refine zbg (zbm (id := 0) rfl) ?_
  refine zbg (zcb (d := 7) rfl rfl rfl) ?_
  refine zb2 hmix ?_
  refine zbx xi ?_
  refine qx_s rfl (qx_f tf43_1 rfl (qx_l ta3 rfl (qx_s rfl (qx_s rfl (zby rfl rfl (zaa rfl) (zal rfl ts22 ti3 rfl rfl rfl (zbb xd) rfl) (qx_l ta3 rfl (zby rfl rfl (zaa rfl) (does_mul rfl rfl rfl (IntWalk.i64_in _ xd)) (zby rfl rfl (zaa rfl) (zax rfl rfl rfl (IntWalk.i64_in _ xd)) (qx_s rfl ?_)))))))))
  refine zdg ?_
  refine zbl (zai (zab (zaf rfl rfl (zaa rfl) (zax rfl rfl rfl (IntWalk.i64_in _ xd)) (zac rfl (zad (zai ?_))))))
  rw [← hnx]
  exact ⟨k + 1, by omega, by omega, zb8 [] xf trivial ⟨.lo _ (zan fun _ => .s _), .lo _ xa, .lo _ (.s _), .lo _ (.s _), .lo _ (.s _), trivial⟩⟩
 ·
  have e : k = l.length := by omega
  subst e
  (refine zb9 ?_; repeat (first | refine zcr ?_ | refine zbt ?_ | refine zbk rfl ?_ | refine zbl ?_ | refine zai ?_ | refine zag ?_ | refine zar ?_ | refine zas ?_))
  refine zab (zac rfl (zac rfl (zad (zai ?_))))
  (refine za7 ?_; repeat (first | refine zbc ?_ | refine zbe ?_))
  exact zb6 (.inr rfl) rfl rfl
end Go.Proofs.YtllkbjcemecmjaaGreat.Aw
end
section
namespace Go.Proofs.YtllkbjcemecmjaaGreat.Aw
open Go.RowKit
def Chg (s s' : Sto) (W : List Nat) : Prop := ∀ id, id ∉ W → s'.abs[id]? = s.abs[id]?
theorem Chg.refl (s : Sto) : Chg s s [] := fun _ _ => rfl
theorem Chg.trans {a b c : Sto} {V W : List Nat} (h : Chg a b V) (k : Chg b c W) : Chg a c (V ++ W) := fun id hid => by
 simp only [List.mem_append, not_or] at hid
 exact (k id hid.2).trans (h id hid.1)
section
variable {P : Program} {o : Oper} {F : Frm} {σ : List Ob}
theorem does_slice_own {t e : TypeId} {x y : Operand} {z : Option Value} {n bt : Nat} {id sz m : Nat} {k : IntKind} {i : Int} {h : Nat} (ho : o.op = .slice t x none (some y) none) (ht : zcd P t = some e) (hi : zb5 P e = some (z, n, bt)) (hx : F.eval x = .own id sz m) (hy : F.eval y = .s (.int k i)) (hk : i = (h : Int)) (hl : h ≤ m) : Does P o F σ (.own id sz h) σ :=
 zch fun G ρ hr hop => by
  have g1 := hop x (by simp [ho, Op.operands])
  have g2 := hop y (by simp [ho, Op.operands])
  rw [hx] at g1
  rw [hy] at g2
  have e2 := rep_s g2
  obtain ⟨q1, q2⟩ := elem_of ht
  subst hk
  generalize hv : ρ x = u at g1
  have key : ∀ A len cap, h ≤ cap → (Instr.sliceAt t (.slice A len cap) none (some (.int k (h : Int))) none).run P G.w = .ok (sliced A 0 h cap n) G.w := fun A len cap hc => by
   have h2 := run_slice_h (P := P) G.w t A len cap q2 k (h : Int) xd xd
   simp only [run_sliceAt_slice (P := P) G.w t _ _ _ _ q2, h2, q1, zcw hi, Result.andThen_ok, Int.toNat_natCast]
  cases g1 with
  | own0 _ _ A hA hm =>
   obtain rfl : h = 0 := by omega
   refine ⟨sliced A 0 0 0 n, by simp only [execOp, ho, Option.map_some, Option.map_none, hv, e2, Sem.run_bind, key A 0 0 (Nat.zero_le _), Result.andThen_ok, Sem.run_pure], ?_⟩
   simp only [sliced, if_true, Nat.sub_self]
   exact .own0 id sz A hA hm
  | own _ _ _ b cap hm hn hc hb =>
   refine ⟨sliced (some ⟨b, 0, none⟩) 0 h cap n, by simp only [execOp, ho, Option.map_some, Option.map_none, hv, e2, Sem.run_bind, key _ m cap xd, Result.andThen_ok, Sem.run_pure], ?_⟩
   have : sliced (some ⟨b, 0, none⟩) 0 h cap n = .slice (some ⟨b, 0, none⟩) h cap := by simp [sliced, Addr.add]
   rw [this]
   exact .own id sz h b cap hm xd hc hb
theorem does_froz {d id sz n : Nat} {cs : List AV} {r : AV} {σ' : List Ob} (hx : F.get d = .own id sz n) (hs : σ[id]? = some (.row sz cs)) (hn : n = cs.length) (h : Does P o ((d, .sl cs) :: F) (σ.set id (.fz sz cs)) r σ') : Does P o F σ r σ' := by
 intro G a next Q hr hop hnx
 obtain ⟨he, hr2⟩ := froz_ok hr hs
 refine h (G.froz id) a next Q hr2 (fun y hy => ?_) (fun v G' e r' hv => hnx v G' (he.trans e) r' hv)
 have h1 := (hop y hy).ext he
 cases y with
 | tmp t =>
  by_cases ht : d = t
  ·
   subst ht
   have h2 : Frm.eval ((d, .sl cs) :: F) (.tmp d) = .sl cs := get_here
   rw [h2]
   have h3 : F.eval (.tmp d) = .own id sz n := hx
   rw [h3] at h1
   exact rep_fz hr2 (by rw [List.getElem?_set_self (List.getElem?_eq_some_iff.1 hs).1]) hn h1
  ·
   have h2 : Frm.eval ((d, .sl cs) :: F) (.tmp t) = F.eval (.tmp t) := by
    show Frm.get _ t = F.get t
    have : Nat.beq d t = false := by
     cases hb : Nat.beq d t with
     | false => rfl
     | true => exact absurd (Nat.eq_of_beq_eq_true hb) ht
    simp only [Frm.get, this, cond_false]
   rw [h2]; exact h1
 | _ => exact h1
end
structure CallE (P : Program) (f : FuncId) (args : List AV) (σ : List Ob) (r : AV) (σ' : List Ob) : Prop where
 ent : Enters P f
 call : ∀ (G : Cx) (vargs : Array Value), Rel G σ → vargs.size = args.length → (∀ (j : Nat) v x, vargs[j]? = some v → args[j]? = some x → Rep G v x) →
  Calls P f vargs G.w fun e w' => ∃ v G', e = .returned v ∧ G'.w = w' ∧ G.Ext G' ∧ Rel G' σ' ∧ Rep G' v r
section
variable {P : Program} {o : Oper} {F : Frm} {σ σ' : List Ob} {f : FuncId} {args : List AV} {r : AV}
theorem zbs {fo : Operand} {ar : Array Operand} {ts : Array TypeId} {caps : List AV} (ho : o.op = .call { callee := .value fo, args := ar, argTypes := ts }) (hf : F.eval fo = .fn f caps) (hp : CallE P f args σ r σ') (ha : ar.toList.map F.eval ++ caps = args) : Does P o F σ r σ' := by
 intro G a next Q hr hop hn
 obtain ⟨cap, h1, h2, h3⟩ := call_args ho hop hf
 rw [ha] at h2 h3
 unfold Oper.wp
 rw [call_enter ho a.eval h1 hp.ent G.w, Oper.upon_enter]
 refine (hp.call G _ hr h2 h3).mono ?_
 rintro e w' ⟨v, G', rfl, rfl, he, hr', hv⟩
 exact hn v G' he hr' hv
theorem callE_fn {fn : Func} {c : Code} (hf : P.funcs[f]? = some fn) (hname : (fn.name == "runtime.NumGoroutine") = false) (hb : fn.body = some c) (hn : args.length ≤ fn.ntmps)
  (h : EWp P fn.ntmps c (argF 0 args) σ (fun e F' σ1 => (e = .normal ∨ e = .ret) ∧ σ1 = σ' ∧ ∃ xs, ResL P F' σ1 fn.results.toList xs ∧ oneOf xs = r)) : CallE P f args σ r σ' := by
 refine ⟨enters_of hf hname hb, fun G vargs hrel hsz hrep => ?_⟩
 refine calls_of_wp hf hb ?_
 have hfo : FOk G { tmps := vargs ++ Array.replicate (fn.ntmps - vargs.size) undef, defers := [] } (argF 0 args) := by
  intro d
  rw [argF_get]
  simp only [Nat.zero_le, if_true, Nat.sub_zero]
  by_cases hd : d < args.length
  ·
   have h1 : (vargs ++ Array.replicate (fn.ntmps - vargs.size) undef).getD d undef = vargs[d]'(by omega) := by
    rw [Array.getD_eq_getD_getElem?, Array.getElem?_append_left xd]
    simp [show d < vargs.size by omega]
   rw [h1]
   have h2 : args.getD d .any = args[d] := by simp [List.getD, hd]
   rw [h2]
   exact hrep d _ _ (by simp [show d < vargs.size by omega]) (by simp [hd])
  ·
   have h2 : args.getD d .any = .any := by simp [List.getD, hd]
   rw [h2]; exact .any _
 have hs8 : S8 fn.ntmps G { tmps := vargs ++ Array.replicate (fn.ntmps - vargs.size) undef, defers := [] } (argF 0 args) σ := ⟨hrel, hfo, rfl, by simp; omega⟩
 refine Code.wp_mono (fun e a w q => ?_) (h G _ hs8)
 obtain ⟨G', F', σ1, rfl, h2, h3, he, rfl, xs, h4, rfl⟩ := q
 obtain ⟨v, h6, h7⟩ := results_run (fn := fn) h3.rel h3.fr h4
 have post : ∃ v' G'', Ending.returned v = .returned v' ∧ G''.w = G'.w ∧ G.Ext G'' ∧ Rel G'' σ1 ∧ Rep G'' v' (oneOf xs) := ⟨v, G', rfl, rfl, h2, h3.rel, h7⟩
 rcases he with rfl | rfl
 ·
  exact ⟨h3.df, v, h6, post⟩
 ·
  exact ⟨h3.df, v, h6, post⟩
def ObLo (k : Nat) : Ob → Prop
 | .row _ cs | .fz _ cs => ∀ c ∈ cs, Lo k c
 | _ => True
theorem lo_of_cells {k : Nat} {x : AV} (h : ∀ c ∈ x.cells, Lo k c) : Lo k x := by
 by_cases hx : ∃ cs, x = .agg cs
 ·
  obtain ⟨cs, rfl⟩ := hx; exact .agg cs h
 ·
  have : x.cells = [x] := by cases x <;> first | rfl | (exact absurd ⟨_, rfl⟩ hx)
  exact h x (by rw [this]; simp)
theorem rep_lo {G : Cx} {k : Nat} (hk : ∀ id, k ≤ id → G.mu id = none) {v : Value} {x : AV} (h : Rep G v x) : Lo k x := by
 have key : ∀ id b, G.mu id = some b → id < k := fun id b hb => by
  rcases Nat.lt_or_ge id k with h | h
  ·
   exact h
  ·
   rw [hk id h] at hb; cases hb
 induction h with
 | any v => exact .any
 | s v => exact .s v
 | agg vs cs hl h1 _ ih =>
  refine .agg cs fun c hc => ?_
  obtain ⟨j, hj, rfl⟩ := List.mem_iff_getElem.1 hc
  exact ih j _ _ (Array.getElem?_eq_getElem xd) (List.getElem?_eq_getElem hj)
 | emp A hA => exact .emp
 | slnil A cap => exact .sl [] xo
 | sl b o cap sz l val hc hm h1 h2 _ ih =>
  refine .sl l fun e he => lo_of_cells fun c hcc => ?_
  obtain ⟨i, hi, rfl⟩ := List.mem_iff_getElem.1 he
  obtain ⟨j, hj, rfl⟩ := List.mem_iff_getElem.1 hcc
  exact ih i _ j _ (List.getElem?_eq_getElem hi) (List.getElem?_eq_getElem hj)
 | ref b o cs val h1 h2 _ ih =>
  refine .ref cs fun c hc => ?_
  obtain ⟨j, hj, rfl⟩ := List.mem_iff_getElem.1 hc
  exact ih j _ (List.getElem?_eq_getElem hj)
 | own0 id sz A hA hm => exact .own _ _ _ (key _ _ hm)
 | own id sz n b cap hm hn hc hb => exact .own _ _ _ (key _ _ hm)
 | ptr id sz k j b hm => exact .ptr _ _ _ _ (key _ _ hm)
 | fn f vs cs hl _ ih =>
  refine .fn f cs fun c hc => ?_
  obtain ⟨j, hj, rfl⟩ := List.mem_iff_getElem.1 hc
  exact ih j _ _ (Array.getElem?_eq_getElem xd) (List.getElem?_eq_getElem hj)
 | tup vs cs hl _ ih =>
  refine .tup cs fun c hc => ?_
  obtain ⟨j, hj, rfl⟩ := List.mem_iff_getElem.1 hc
  exact ih j _ _ (Array.getElem?_eq_getElem xd) (List.getElem?_eq_getElem hj)
 | mp id b hm => exact .mp _ (key _ _ hm)
 | sub id sz o n b cap A hm hA _ => exact .sub _ _ _ _ (key _ _ hm)
theorem rel_lo {G : Cx} (hr : Rel G σ) {id : Nat} {ob : Ob} (hs : σ[id]? = some ob) : ObLo σ.length ob := by
 have h1 := hr.obs id ob hs
 have row : ∀ b sz cs fr, RowAt G b sz cs fr → ∀ c ∈ cs, Lo σ.length c := by
  rintro b sz cs fr ⟨cur, t, q, h2, h3, h4, h5⟩ e he
  obtain ⟨i, hi, rfl⟩ := List.mem_iff_getElem.1 he
  obtain ⟨_, _, h6⟩ := h5 i _ (List.getElem?_eq_getElem hi)
  refine lo_of_cells fun c hc => ?_
  obtain ⟨j, hj, rfl⟩ := List.mem_iff_getElem.1 hc
  obtain ⟨v, _, h7⟩ := h6 j _ (List.getElem?_eq_getElem hj)
  exact rep_lo hr.fresh h7
 cases ob with
 | row sz cs =>
  simp only [ObOk] at h1
  cases hx : G.mu id with
  | none => rw [hx] at h1; exact h1.elim
  | some x =>
   rw [hx] at h1
   cases x with
   | none => simp only at h1; subst h1; intro c hc; simp at hc
   | some b => exact row b sz cs _ h1.1
 | fz sz cs =>
  simp only [ObOk] at h1
  cases hx : G.mu id with
  | none => rw [hx] at h1; exact h1.elim
  | some x =>
   rw [hx] at h1
   cases x with
   | none => simp only at h1; subst h1; intro c hc; simp at hc
   | some b => exact row b sz cs _ h1.1
 | _ => trivial
def Cx.cut (G : Cx) (k : Nat) : Cx := { G with mu := fun i => if i < k then G.mu i else none }
theorem cut_rel {G : Cx} {k : Nat} (hr : Rel G σ) (hk : k ≤ σ.length) (hl : ∀ ob ∈ σ.take k, ObLo k ob) : Rel (G.cut k) (σ.take k) := by
 have hlow : ∀ v x, Rep G v x → Lo k x → Rep (G.cut k) v x := fun v x h hx => h.low hx (fun _ _ h => h) (fun _ _ _ => rfl) (fun id y hid hy => by simp [Cx.cut, hid, hy]) (fun _ => zcc.refl _)
 have hmu : ∀ id b, (G.cut k).mu id = some b → G.mu id = some b := fun id b h => by
  simp only [Cx.cut] at h
  split at h
  ·
   exact h
  ·
   cases h
 refine ⟨hr.below, hr.le, hr.st, fun id ob hob => ?_, fun i j b hi hj hmi hmj => ?_, fun id hid => ?_⟩
 ·
  have hmem := hl ob (List.mem_of_getElem? hob)
  rw [List.getElem?_take] at hob
  split at hob
  ·
   rename_i hid
   have h1 := hr.obs id ob hob
   have e : (G.cut k).mu id = G.mu id := by simp [Cx.cut, hid]
   have row : ∀ b sz cs fr, (∀ c ∈ cs, Lo k c) → RowAt G b sz cs fr → RowAt (G.cut k) b sz cs fr := by
    rintro b sz cs fr hlo ⟨cur, t, q, h2, h3, h4, h5⟩
    refine ⟨cur, t, q, h2, h3, h4, fun i x hx => ⟨(h5 i x hx).1, (h5 i x hx).2.1, fun j c hc => ?_⟩⟩
    obtain ⟨v, h6, h7⟩ := (h5 i x hx).2.2 j c hc
    exact ⟨v, h6, hlow v c h7 ((hlo x (List.mem_of_getElem? hx)).cells c (List.mem_of_getElem? hc))⟩
   cases ob with
   | dead => exact fun b hb => h1 b (by rw [← e]; exact hb)
   | row sz cs =>
    have hlo : ∀ c ∈ cs, Lo k c := hmem
    simp only [ObOk] at h1 ⊢
    rw [e]
    cases hx : G.mu id with
    | none => rw [hx] at h1; exact h1
    | some x =>
     rw [hx] at h1
     cases x with
     | none => exact h1
     | some b => exact ⟨row b sz cs _ hlo h1.1, h1.2⟩
   | fz sz cs =>
    have hlo : ∀ c ∈ cs, Lo k c := hmem
    simp only [ObOk] at h1 ⊢
    rw [e]
    cases hx : G.mu id with
    | none => rw [hx] at h1; exact h1
    | some x =>
     rw [hx] at h1
     cases x with
     | none => exact h1
     | some b => exact ⟨row b sz cs _ hlo h1.1, h1.2⟩
   | mp X =>
    obtain ⟨b, g1, g2, g3, g4, g5⟩ := h1
    exact ⟨b, e.trans g1, g2, g3, g4, fun j hj => g5 j (hmu j _ hj)⟩
  ·
   cases hob
 ·
  have al : ∀ i, alive (σ.take k) i → alive σ i := by
   rintro i ⟨sz, cs, h⟩
   rw [List.getElem?_take] at h
   split at h
   ·
    exact ⟨sz, cs, h⟩
   ·
    cases h
  exact hr.inj i j b (al i hi) (al j hj) (hmu i _ hmi) (hmu j _ hmj)
 ·
  rw [List.length_take, Nat.min_eq_left hk] at hid
  simp only [Cx.cut]
  rw [if_neg xd]
theorem CallE.cut (h : CallE P f args σ r σ') (hk : σ.length ≤ σ'.length) {W : List Nat} (hW : ∀ id, id ∉ W → σ'[id]? = σ[id]?) (hl : ∀ id ∈ W, id < σ.length → ∀ ob, σ'[id]? = some ob → ObLo σ.length ob) (hr : Lo σ.length r) : CallE P f args σ r (σ'.take σ.length) :=
 ⟨h.ent, fun G vargs hrel hsz hrep => (h.call G vargs hrel hsz hrep).mono (by
  rintro e w' ⟨v, G', rfl, rfl, he, hr', hv⟩
  have hl' : ∀ ob ∈ σ'.take σ.length, ObLo σ.length ob := fun ob hob => by
   obtain ⟨id, hid, rfl⟩ := List.mem_iff_getElem.1 hob
   have hlt : id < σ.length := by rw [List.length_take] at hid; omega
   have hget : σ'[id]? = some (σ'.take σ.length)[id] := by
    have := List.getElem?_eq_getElem hid
    rw [List.getElem?_take, if_pos hlt] at this
    exact this
   by_cases hm : id ∈ W
   ·
    exact hl id hm hlt _ hget
   ·
    rw [hW id hm] at hget
    exact rel_lo hrel hget
  refine ⟨v, G'.cut σ.length, rfl, rfl, ⟨he.base, he.w0, he.st, he.cell, fun id x hx => ?_, he.size, he.rows, he.stN, he.pr, he.prN⟩, cut_rel hr' hk hl', ?_⟩
  ·
   have hid : id < σ.length := by
    rcases Nat.lt_or_ge id σ.length with h1 | h1
    ·
     exact h1
    ·
     rw [hrel.fresh id h1] at hx; cases hx
   simp only [Cx.cut, if_pos hid]
   exact he.mu id x hx
  ·
   exact hv.low hr (fun _ _ h => h) (fun _ _ _ => rfl) (fun id y hid hy => by simp [Cx.cut, hid, hy]) (fun _ => zcc.refl _))⟩
def Cx.keep (G : Cx) (k m : Nat) : Cx := { G with mu := fun i => if i < k then G.mu i else if i = k then G.mu m else none }
theorem keep_rel {G : Cx} {k m : Nat} {ob0 : Ob} (hr : Rel G σ) (hk : k ≤ m) (hm : σ[m]? = some ob0) (hl : ∀ ob ∈ σ.take k, ObLo k ob) (hl0 : ObLo k ob0) : Rel (G.keep k m) (σ.take k ++ [ob0]) := by
 have hmlt : m < σ.length := (List.getElem?_eq_some_iff.1 hm).1
 have htk : (σ.take k).length = k := by rw [List.length_take]; omega
 have hlow : ∀ v x, Rep G v x → Lo k x → Rep (G.keep k m) v x := fun v x h hx => h.low hx (fun _ _ h => h) (fun _ _ _ => rfl) (fun id y hid hy => by simp [Cx.keep, hid, hy]) (fun _ => zcc.refl _)
 have hmu : ∀ i x, (G.keep k m).mu i = some x → i ≤ k ∧ G.mu (if i < k then i else m) = some x := fun i x h => by
  simp only [Cx.keep] at h
  split at h
  ·
   rename_i h1; exact ⟨by omega, by rw [if_pos h1]; exact h⟩
  ·
   rename_i h1
   split at h
   ·
    rename_i h2; exact ⟨by omega, by rw [if_neg h1]; exact h⟩
   ·
    cases h
 have horig : ∀ i ob, (σ.take k ++ [ob0])[i]? = some ob → i ≤ k ∧ σ[if i < k then i else m]? = some ob ∧ (G.keep k m).mu i = G.mu (if i < k then i else m) ∧ ObLo k ob := fun i ob h => by
  rcases Nat.lt_trichotomy i k with h1 | h1 | h1
  ·
   rw [List.getElem?_append_left xd, List.getElem?_take, if_pos h1] at h
   refine ⟨by omega, by rw [if_pos h1]; exact h, by simp [Cx.keep, h1], hl ob ?_⟩
   have : (σ.take k)[i]? = some ob := by rw [List.getElem?_take, if_pos h1]; exact h
   exact List.mem_of_getElem? this
  ·
   subst h1
   rw [List.getElem?_append_right xd, htk, Nat.sub_self] at h
   simp at h; subst h
   exact ⟨by omega, by rw [if_neg xd]; exact hm, by simp [Cx.keep], hl0⟩
  ·
   rw [List.getElem?_eq_none (by simp; omega)] at h; cases h
 have hinj : ∀ i j, i ≤ k → j ≤ k → (if i < k then i else m) = (if j < k then j else m) → i = j := fun i j hi hj h => by
  split at h <;> split at h <;> omega
 refine ⟨hr.below, hr.le, hr.st, fun id ob hob => ?_, fun i j b hi hj hmi hmj => ?_, fun id hid => ?_⟩
 ·
  obtain ⟨hik, hs, e, hlo⟩ := horig id ob hob
  have h1 := hr.obs _ ob hs
  generalize (if id < k then id else m) = o at hs e h1
  have row : ∀ b sz cs fr, (∀ c ∈ cs, Lo k c) → RowAt G b sz cs fr → RowAt (G.keep k m) b sz cs fr := by
   rintro b sz cs fr hlo ⟨cur, t, q, h2, h3, h4, h5⟩
   refine ⟨cur, t, q, h2, h3, h4, fun i x hx => ⟨(h5 i x hx).1, (h5 i x hx).2.1, fun j c hc => ?_⟩⟩
   obtain ⟨v, h6, h7⟩ := (h5 i x hx).2.2 j c hc
   exact ⟨v, h6, hlow v c h7 ((hlo x (List.mem_of_getElem? hx)).cells c (List.mem_of_getElem? hc))⟩
  cases ob with
  | dead => exact fun b hb => h1 b (by rw [← e]; exact hb)
  | row sz cs =>
   simp only [ObOk] at h1 ⊢
   rw [e]
   cases hx : G.mu o with
   | none => rw [hx] at h1; exact h1
   | some x =>
    rw [hx] at h1
    cases x with
    | none => exact h1
    | some b => exact ⟨row b sz cs _ hlo h1.1, h1.2⟩
  | fz sz cs =>
   simp only [ObOk] at h1 ⊢
   rw [e]
   cases hx : G.mu o with
   | none => rw [hx] at h1; exact h1
   | some x =>
    rw [hx] at h1
    cases x with
    | none => exact h1
    | some b => exact ⟨row b sz cs _ hlo h1.1, h1.2⟩
  | mp X =>
   obtain ⟨b, g1, g2, g3, g4, g5⟩ := h1
   refine ⟨b, e.trans g1, g2, g3, g4, fun j hj => ?_⟩
   obtain ⟨hj1, hj2⟩ := hmu j _ hj
   obtain ⟨hi1, hi2⟩ := hmu id _ (e.trans g1)
   exact hinj j id hj1 hi1 ((g5 _ hj2).trans (g5 _ hi2).symm)
 ·
  have al : ∀ i, alive (σ.take k ++ [ob0]) i → i ≤ k ∧ alive σ (if i < k then i else m) := by
   rintro i ⟨sz, cs, h⟩
   obtain ⟨h1, h2, _⟩ := horig i _ h
   exact ⟨h1, sz, cs, h2⟩
  exact hinj i j (al i hi).1 (al j hj).1 (hr.inj _ _ b (al i hi).2 (al j hj).2 (hmu i _ hmi).2 (hmu j _ hmj).2)
 ·
  rw [List.length_append, htk] at hid
  simp only [List.length_singleton] at hid
  simp only [Cx.keep]
  rw [if_neg xd, if_neg xd]
theorem CallE.keep {m sz n : Nat} {ob0 : Ob} (h : CallE P f args σ (.own m sz n) σ') (hk : σ.length ≤ m) (hm : σ'[m]? = some ob0) {W : List Nat} (hW : ∀ id, id ∉ W → σ'[id]? = σ[id]?) (hl : ∀ id ∈ W, id < σ.length → ∀ ob, σ'[id]? = some ob → ObLo σ.length ob) (hr : ObLo σ.length ob0) : CallE P f args σ (.own σ.length sz n) (σ'.take σ.length ++ [ob0]) :=
 ⟨h.ent, fun G vargs hrel hsz hrep => (h.call G vargs hrel hsz hrep).mono (by
  rintro e w' ⟨v, G', rfl, rfl, he, hr', hv⟩
  have hl' : ∀ ob ∈ σ'.take σ.length, ObLo σ.length ob := fun ob hob => by
   obtain ⟨id, hid, rfl⟩ := List.mem_iff_getElem.1 hob
   have hlt : id < σ.length := by rw [List.length_take] at hid; omega
   have hget : σ'[id]? = some (σ'.take σ.length)[id] := by
    have := List.getElem?_eq_getElem hid
    rw [List.getElem?_take, if_pos hlt] at this
    exact this
   by_cases hm : id ∈ W
   ·
    exact hl id hm hlt _ hget
   ·
    rw [hW id hm] at hget
    exact rel_lo hrel hget
  refine ⟨v, G'.keep σ.length m, rfl, rfl, ⟨he.base, he.w0, he.st, he.cell, fun id x hx => ?_, he.size, he.rows, he.stN, he.pr, he.prN⟩, keep_rel hr' hk hm hl' hr, ?_⟩
  ·
   have hid : id < σ.length := by
    rcases Nat.lt_or_ge id σ.length with h1 | h1
    ·
     exact h1
    ·
     rw [hrel.fresh id h1] at hx; cases hx
   simp only [Cx.keep, if_pos hid]
   exact he.mu id x hx
  ·
   have e : (G'.keep σ.length m).mu σ.length = G'.mu m := by simp [Cx.keep]
   cases hv with
   | own0 _ _ A hA hm2 => exact .own0 _ _ A hA (e.trans hm2)
   | own _ _ _ b cap hm2 hn hc hb => exact .own _ _ _ b cap (e.trans hm2) hn hc hb)⟩
end
end Go.Proofs.YtllkbjcemecmjaaGreat.Aw
end
section
namespace Go.Proofs.YtllkbjcemecmjaaGreat.Aw
open Go.RowKit
inductive Nm (q : Nat → Prop) : AV → Prop
 | any : Nm q .any
 | s (v : Value) : Nm q (.s v)
 | agg (cs : List AV) (h : ∀ c ∈ cs, Nm q c) : Nm q (.agg cs)
 | emp : Nm q .emp
 | sl (l : List AV) (h : ∀ c ∈ l, Nm q c) : Nm q (.sl l)
 | ref (cs : List AV) (h : ∀ c ∈ cs, Nm q c) : Nm q (.ref cs)
 | own (id sz n : Nat) (h : q id) : Nm q (.own id sz n)
 | ptr (id sz i j : Nat) (h : q id) : Nm q (.ptr id sz i j)
 | fn (f : FuncId) (cs : List AV) (h : ∀ c ∈ cs, Nm q c) : Nm q (.fn f cs)
 | tup (l : List AV) (h : ∀ c ∈ l, Nm q c) : Nm q (.tup l)
 | mp (id : Nat) (h : q id) : Nm q (.mp id)
 | sub (id sz o n : Nat) (h : q id) : Nm q (.sub id sz o n)
theorem Nm.cells {q : Nat → Prop} {x : AV} (h : Nm q x) : ∀ c ∈ x.cells, Nm q c := by
 cases h with
 | agg cs h => exact h
 | any => intro c hc; simp [AV.cells] at hc; subst hc; exact .any
 | s v => intro c hc; simp [AV.cells] at hc; subst hc; exact .s v
 | emp => intro c hc; simp [AV.cells] at hc; subst hc; exact .emp
 | sl l h => intro c hc; simp [AV.cells] at hc; subst hc; exact .sl l h
 | ref l h => intro c hc; simp [AV.cells] at hc; subst hc; exact .ref l h
 | own a b c h => intro c hc; simp [AV.cells] at hc; subst hc; exact .own _ _ _ h
 | ptr a b c d h => intro c hc; simp [AV.cells] at hc; subst hc; exact .ptr _ _ _ _ h
 | fn f l h => intro c hc; simp [AV.cells] at hc; subst hc; exact .fn f l h
 | tup l h => intro c hc; simp [AV.cells] at hc; subst hc; exact .tup l h
 | mp a h => intro c hc; simp [AV.cells] at hc; subst hc; exact .mp _ h
 | sub a b c d h => intro c hc; simp [AV.cells] at hc; subst hc; exact .sub _ _ _ _ h
def sameBut (G G' : Cx) : Prop := G'.base = G.base ∧ G'.w0 = G.w0 ∧ G'.w = G.w ∧ G'.St = G.St ∧ G'.Pr = G.Pr
theorem Rep.nm {G G' : Cx} {q : Nat → Prop} {v : Value} {x : AV} (h : Rep G v x) (hx : Nm q x) (hs : sameBut G G') (hmu : ∀ id y, q id → G.mu id = some y → G'.mu id = some y) : Rep G' v x := by
 obtain ⟨_, _, hw, hst, _⟩ := hs
 induction h with
 | any v => exact .any v
 | s v => exact .s v
 | agg vs cs hl h1 _ ih => cases hx with | agg _ hx => exact .agg vs cs hl h1 (fun j v c a b => ih j v c a b (hx c (List.mem_of_getElem? b)))
 | emp A hA => exact .emp A hA
 | slnil A cap => exact .slnil A cap
 | sl b o cap sz l val hcp hm h1 h2 _ ih => cases hx with | sl _ hx => exact .sl b o cap sz l val hcp hm h1 (fun k x j c hk hj => by rw [hst, hw]; exact h2 k x j c hk hj) (fun k x j c hk hj => ih k x j c hk hj ((hx x (List.mem_of_getElem? hk)).cells c (List.mem_of_getElem? hj)))
 | ref b o cs val h1 h2 _ ih => cases hx with | ref _ hx => exact .ref b o cs val h1 (fun j c hj => by rw [hst, hw]; exact h2 j c hj) (fun j c hj => ih j c hj (hx c (List.mem_of_getElem? hj)))
 | own0 id sz A hA hm => cases hx with | own _ _ _ hx => exact .own0 id sz A hA (hmu _ _ hx hm)
 | own id sz n b cap hm hn hcp hb => cases hx with | own _ _ _ hx => exact .own id sz n b cap (hmu _ _ hx hm) hn hcp (by rw [hw]; exact hb)
 | ptr id sz i j b hm => cases hx with | ptr _ _ _ _ hx => exact .ptr id sz i j b (hmu _ _ hx hm)
 | fn f vs cs hl _ ih => cases hx with | fn _ _ hx => exact .fn f vs cs hl (fun j v c a b => ih j v c a b (hx c (List.mem_of_getElem? b)))
 | tup vs l hl _ ih => cases hx with | tup _ hx => exact .tup vs l hl (fun j v c a b => ih j v c a b (hx c (List.mem_of_getElem? b)))
 | mp id b hm => cases hx with | mp _ hx => exact .mp id b (hmu _ _ hx hm)
 | sub id sz o n b cap A hm hA hc => cases hx with | sub _ _ _ _ hx => exact .sub id sz o n b cap A (hmu _ _ hx hm) hA (by rw [hw]; exact hc)
def ObNm (q : Nat → Prop) : Ob → Prop
 | .row _ cs | .fz _ cs => ∀ c ∈ cs, Nm q c
 | .mp _ => False
 | _ => True
theorem hole_rel {G G' : Cx} {τ σ : List Ob} {q : Nat → Prop} (π : Nat → Nat) (hr : Rel G τ) (hs : sameBut G G') (hmu : ∀ id y, q id → G.mu id = some y → G'.mu id = some y)
  (hob : ∀ id ob, σ[id]? = some ob → (ob = .dead ∧ G'.mu id = none) ∨ (τ[π id]? = some ob ∧ G'.mu id = G.mu (π id) ∧ ObNm q ob))
  (hπ : ∀ i j, alive σ i → alive σ j → π i = π j → i = j) (hf : ∀ id, σ.length ≤ id → G'.mu id = none) : Rel G' σ := by
 obtain ⟨e1, e2, e3, e4, e6⟩ := hs
 have e5 : G'.SP = G.SP := by funext b o; simp only [Cx.SP, e4, e6]
 have al : ∀ i, alive σ i → alive τ (π i) ∧ G'.mu i = G.mu (π i) := by
  rintro i ⟨sz, cs, h⟩
  rcases hob i _ h with ⟨h1, _⟩ | ⟨h1, h2, _⟩
  ·
   cases h1
  ·
   exact ⟨⟨sz, cs, h1⟩, h2⟩
 refine ⟨by rw [e1, e2, e3]; exact hr.below, by rw [e1, e2]; exact hr.le, by rw [e3, e5]; exact hr.st, fun id ob ho => ?_, fun i j b hi hj hmi hmj => ?_, hf⟩
 ·
  rcases hob id ob ho with ⟨rfl, h1⟩ | ⟨h1, h2, h3⟩
  ·
   intro b hb
   rw [h1] at hb; cases hb
  ·
   have h4 := hr.obs _ ob h1
   have row : ∀ b sz cs fr, (∀ c ∈ cs, Nm q c) → RowAt G b sz cs fr → RowAt G' b sz cs fr := by
    rintro b sz cs fr hlo ⟨cur, t, f, g2, g3, g4, g5⟩
    refine ⟨cur, t, f, by rw [e3]; exact g2, g3, g4, fun i x hx => ⟨(g5 i x hx).1, (g5 i x hx).2.1, fun j c hc => ?_⟩⟩
    obtain ⟨v, g6, g7⟩ := (g5 i x hx).2.2 j c hc
    exact ⟨v, g6, g7.nm ((hlo x (List.mem_of_getElem? hx)).cells c (List.mem_of_getElem? hc)) ⟨e1, e2, e3, e4, e6⟩ hmu⟩
   cases ob with
   | dead => intro b hb; rw [e3]; exact h4 b (by rw [← h2]; exact hb)
   | row sz cs =>
    have hlo : ∀ c ∈ cs, Nm q c := h3
    simp only [ObOk] at h4 ⊢
    rw [h2]
    cases hx : G.mu (π id) with
    | none => rw [hx] at h4; exact h4
    | some x =>
     rw [hx] at h4
     cases x with
     | none => exact h4
     | some b => exact ⟨row b sz cs _ hlo h4.1, by rw [e1]; exact h4.2.1, by rw [e5]; exact h4.2.2⟩
   | fz sz cs =>
    have hlo : ∀ c ∈ cs, Nm q c := h3
    simp only [ObOk] at h4 ⊢
    rw [h2]
    cases hx : G.mu (π id) with
    | none => rw [hx] at h4; exact h4
    | some x =>
     rw [hx] at h4
     cases x with
     | none => exact h4
     | some b => exact ⟨row b sz cs _ hlo h4.1, by rw [e4]; exact h4.2⟩
   | mp X => exact h3.elim
 ·
  obtain ⟨a1, m1⟩ := al i hi
  obtain ⟨a2, m2⟩ := al j hj
  exact hπ i j hi hj (hr.inj _ _ b a1 a2 (by rw [← m1]; exact hmi) (by rw [← m2]; exact hmj))
def Hol (hs : List Nat) (G : Cx) : Prop := ∀ id ∈ hs, G.mu id = none
def DoesH (P : Program) (o : Oper) (F : Frm) (σ : List Ob) (hs : List Nat) (x : AV) (σ' : List Ob) (hs' : List Nat) : Prop :=
 ∀ (G : Cx) (a : Act) (next : Act → World → Prop) (Q : Exit → Act → World → Prop), Rel G σ → Hol hs G → (∀ y ∈ o.op.operands, Rep G (a.eval y) (F.eval y)) →
  (∀ v G', G.Ext G' → Rel G' σ' → Hol hs' G' → Rep G' v x → next (a.put o.dst v) G'.w) → o.wp P a G.w next Q
section
variable {P : Program} {o : Oper} {F : Frm} {σ σ' : List Ob} {hs : List Nat} {x x' : AV}
theorem DoesH.congr {F' : Frm} {ops : Array Oper} {hs' : List Nat} (h : DoesH P o F σ hs x σ' hs') (he : ∀ t ∈ o.looksAt ops, F.get t = F'.get t) : DoesH P o F' σ hs x σ' hs' := fun G a next Q hr hh hop hn =>
 h G a next Q hr hh (fun y hy => by rw [eval_congr he y hy]; exact hop y hy) hn
theorem doesH_keep (h : Does P o F σ x σ') (hx : Nm (· ∉ hs) x) (ho : ∀ id ob, σ'[id]? = some ob → (id ∈ hs → ob = .dead) ∧ (id ∉ hs → ObNm (· ∉ hs) ob)) : DoesH P o F σ hs x σ' hs := fun G a next Q hr hh hop hn =>
 h G a next Q hr hop fun v G' he hr' hv => by
  let G2 : Cx := { G' with mu := fun i => if i ∈ hs then none else G'.mu i }
  have hmu : ∀ id y, id ∉ hs → G'.mu id = some y → G2.mu id = some y := fun id y h1 h2 => by
   show (if id ∈ hs then none else G'.mu id) = some y
   rw [if_neg h1]; exact h2
  refine hn v G2 ⟨he.base, he.w0, he.st, he.cell, fun id y hy => ?_, he.size, he.rows, he.stN, he.pr, he.prN⟩ (hole_rel (fun i => i) hr' ⟨rfl, rfl, rfl, rfl, rfl⟩ hmu (fun id ob hob => ?_) (fun i j _ _ e => e) (fun id hid => ?_)) (fun id hid => if_pos hid) (hv.nm hx ⟨rfl, rfl, rfl, rfl, rfl⟩ hmu)
  ·
   refine hmu id y (fun hid => ?_) (he.mu id y hy)
   rw [hh id hid] at hy; cases hy
  ·
   by_cases hid : id ∈ hs
   ·
    exact .inl ⟨(ho id ob hob).1 hid, if_pos hid⟩
   ·
    exact .inr ⟨hob, if_neg hid, (ho id ob hob).2 hid⟩
  ·
   show (if id ∈ hs then none else G'.mu id) = none
   rw [hr'.fresh id hid]; split <;> rfl
theorem nm_of_cells {q : Nat → Prop} {x : AV} (h : ∀ c ∈ x.cells, Nm q c) : Nm q x := by
 by_cases hx : ∃ cs, x = .agg cs
 ·
  obtain ⟨cs, rfl⟩ := hx; exact .agg cs h
 ·
  have : x.cells = [x] := by cases x <;> first | rfl | (exact absurd ⟨_, rfl⟩ hx)
  exact h x (by rw [this]; simp)
theorem rep_nmq {G : Cx} {q : Nat → Prop} (key : ∀ id b, G.mu id = some b → q id) {v : Value} {x : AV} (h : Rep G v x) : Nm q x := by
 induction h with
 | any v => exact .any
 | s v => exact .s v
 | agg vs cs hl h1 _ ih =>
  refine .agg cs fun c hc => ?_
  obtain ⟨j, hj, rfl⟩ := List.mem_iff_getElem.1 hc
  exact ih j _ _ (Array.getElem?_eq_getElem xd) (List.getElem?_eq_getElem hj)
 | emp A hA => exact .emp
 | slnil A cap => exact .sl [] xo
 | sl b o cap sz l val hc hm h1 h2 _ ih =>
  refine .sl l fun e he => nm_of_cells fun c hcc => ?_
  obtain ⟨i, hi, rfl⟩ := List.mem_iff_getElem.1 he
  obtain ⟨j, hj, rfl⟩ := List.mem_iff_getElem.1 hcc
  exact ih i _ j _ (List.getElem?_eq_getElem hi) (List.getElem?_eq_getElem hj)
 | ref b o cs val h1 h2 _ ih =>
  refine .ref cs fun c hc => ?_
  obtain ⟨j, hj, rfl⟩ := List.mem_iff_getElem.1 hc
  exact ih j _ (List.getElem?_eq_getElem hj)
 | own0 id sz A hA hm => exact .own _ _ _ (key _ _ hm)
 | own id sz n b cap hm hn hc hb => exact .own _ _ _ (key _ _ hm)
 | ptr id sz k j b hm => exact .ptr _ _ _ _ (key _ _ hm)
 | fn f vs cs hl _ ih =>
  refine .fn f cs fun c hc => ?_
  obtain ⟨j, hj, rfl⟩ := List.mem_iff_getElem.1 hc
  exact ih j _ _ (Array.getElem?_eq_getElem xd) (List.getElem?_eq_getElem hj)
 | tup vs cs hl _ ih =>
  refine .tup cs fun c hc => ?_
  obtain ⟨j, hj, rfl⟩ := List.mem_iff_getElem.1 hc
  exact ih j _ _ (Array.getElem?_eq_getElem xd) (List.getElem?_eq_getElem hj)
 | mp id b hm => exact .mp _ (key _ _ hm)
 | sub id sz o n b cap A hm hA _ => exact .sub _ _ _ _ (key _ _ hm)
def isMp : Ob → Bool
 | .mp _ => true
 | _ => false
theorem rel_nmq {G : Cx} {q : Nat → Prop} (hr : Rel G σ) (key : ∀ id b, G.mu id = some b → q id) {id : Nat} {ob : Ob} (hob : σ[id]? = some ob) (hm : isMp ob = false) : ObNm q ob := by
 have h1 := hr.obs id ob hob
 have row : ∀ b sz cs fr, RowAt G b sz cs fr → ∀ c ∈ cs, Nm q c := by
  rintro b sz cs fr ⟨cur, t, q', h2, h3, h4, h5⟩ e he
  obtain ⟨i, hi, rfl⟩ := List.mem_iff_getElem.1 he
  obtain ⟨_, _, h6⟩ := h5 i _ (List.getElem?_eq_getElem hi)
  refine nm_of_cells fun c hc => ?_
  obtain ⟨j, hj, rfl⟩ := List.mem_iff_getElem.1 hc
  obtain ⟨v, _, h7⟩ := h6 j _ (List.getElem?_eq_getElem hj)
  exact rep_nmq key h7
 cases ob with
 | row sz cs =>
  simp only [ObOk] at h1
  cases hx : G.mu id with
  | none => rw [hx] at h1; exact h1.elim
  | some x =>
   rw [hx] at h1
   cases x with
   | none => simp only at h1; subst h1; intro c hc; simp at hc
   | some b => exact row b sz cs _ h1.1
 | fz sz cs =>
  simp only [ObOk] at h1
  cases hx : G.mu id with
  | none => rw [hx] at h1; exact h1.elim
  | some x =>
   rw [hx] at h1
   cases x with
   | none => simp only at h1; subst h1; intro c hc; simp at hc
   | some b => exact row b sz cs _ h1.1
 | dead => trivial
 | mp X => cases hm
theorem Hol.key {G : Cx} (hh : Hol hs G) : ∀ id b, G.mu id = some b → id ∉ hs := fun id b hb hid => by rw [hh id hid] at hb; cases hb
theorem rel_hol {G : Cx} (hr : Rel G σ) (hh : Hol hs G) {id : Nat} {ob : Ob} (hob : σ[id]? = some ob) (hm : isMp ob = false) : ObNm (· ∉ hs) ob := rel_nmq hr hh.key hob hm
theorem doesH_keep2 (h : Does P o F σ x σ') (hx : Nm (· ∉ hs) x) (W : List Nat) (hW : ∀ id, id ∉ W → σ'[id]? = σ[id]?) (hd : ∀ id ∈ hs, σ[id]? = some .dead) (hWd : ∀ id ∈ W, id ∉ hs)
  (hWo : ∀ id ∈ W, ∀ ob : Ob, σ'[id]? = some ob → ObNm (· ∉ hs) ob) (hmp : ∀ (id : Nat) (ob : Ob), σ[id]? = some ob → isMp ob = false) : DoesH P o F σ hs x σ' hs := fun G a next Q hr hh hop hn =>
by
 have ho : ∀ (id : Nat) (ob : Ob), σ'[id]? = some ob → (id ∈ hs → ob = .dead) ∧ (id ∉ hs → ObNm (· ∉ hs) ob) := fun id ob hob => by
  refine ⟨fun hid => ?_, fun hid => ?_⟩
  ·
   rw [hW id (fun hw => hWd id hw hid), hd id hid] at hob
   exact (Option.some.inj hob).symm
  ·
   by_cases hw : id ∈ W
   ·
    exact hWo id hw ob hob
   ·
    rw [hW id hw] at hob
    exact rel_hol hr hh hob (hmp id ob hob)
 exact doesH_keep h hx ho G a next Q hr hh hop hn
inductive RnTo (l h : Nat) : AV → AV → Prop
 | ptr (sz k j : Nat) : RnTo l h (.ptr l sz k j) (.ptr h sz k j)
 | own (sz n : Nat) : RnTo l h (.own l sz n) (.own h sz n)
theorem doesH_push {ob : Ob} {h : Nat} (hd : Does P o F σ x (σ ++ [ob])) (hh0 : h ∈ hs) (hlt : h < σ.length) (hsd : ∀ id ∈ hs, σ[id]? = some .dead) (hx : RnTo σ.length h x x') (hob : ObNm (fun i => i ∉ hs ∧ i < σ.length) ob)
  (ho : ∀ id ob, σ[id]? = some ob → id ∉ hs → ObNm (fun i => i ∉ hs ∧ i < σ.length) ob) : DoesH P o F σ hs x' (σ.set h ob) (hs.filter fun i => !Nat.beq i h) := fun G a next Q hr hh hop hn =>
 hd G a next Q hr hop fun v G' he hr' hv => by
  let G2 : Cx := { G' with mu := fun i => if i = h then G'.mu σ.length else if i ∈ hs ∨ σ.length ≤ i then none else G'.mu i }
  have g0 : G2.mu h = G'.mu σ.length := if_pos rfl
  have g1 : ∀ id, id ≠ h → (id ∈ hs ∨ σ.length ≤ id) → G2.mu id = none := fun id h1 h2 => by
   show (if id = h then G'.mu σ.length else if id ∈ hs ∨ σ.length ≤ id then none else G'.mu id) = none
   rw [if_neg h1, if_pos h2]
  have g2 : ∀ id, id ∉ hs → id < σ.length → G2.mu id = G'.mu id := fun id h1 h2 => by
   show (if id = h then G'.mu σ.length else if id ∈ hs ∨ σ.length ≤ id then none else G'.mu id) = G'.mu id
   have h4 : id ≠ h := fun e => h1 (by rw [e]; exact hh0)
   have h5 : ¬ (id ∈ hs ∨ σ.length ≤ id) := by rintro (h3 | h3); exact h1 h3; omega
   rw [if_neg h4, if_neg h5]
  have hmu : ∀ id y, (id ∉ hs ∧ id < σ.length) → G'.mu id = some y → G2.mu id = some y := fun id y h1 h2 => (g2 id h1.1 h1.2).trans h2
  have hset : ∀ i, i ≠ h → (σ.set h ob)[i]? = σ[i]? := fun i hi => List.getElem?_set_ne (Ne.symm hi)
  refine hn v G2 ⟨he.base, he.w0, he.st, he.cell, fun id y hy => ?_, he.size, he.rows, he.stN, he.pr, he.prN⟩ (hole_rel (fun i => if i = h then σ.length else i) hr' ⟨rfl, rfl, rfl, rfl, rfl⟩ hmu (fun id ob' hob' => ?_) (fun i j hi hj e => ?_) (fun id hid => ?_)) (fun id hid => ?_) ?_
  ·
   refine hmu id y ⟨fun hid => ?_, ?_⟩ (he.mu id y hy)
   ·
    rw [hh id hid] at hy; cases hy
   ·
    rcases Nat.lt_or_ge id σ.length with h1 | h1
    ·
     exact h1
    ·
     rw [hr.fresh id h1] at hy; cases hy
  ·
   by_cases hid : id = h
   ·
    subst hid
    rw [List.getElem?_set_self hlt] at hob'
    cases hob'
    right
    rw [if_pos rfl]
    exact ⟨by simp, g0, hob⟩
   ·
    rw [hset id hid] at hob'
    have hl : id < σ.length := (List.getElem?_eq_some_iff.1 hob').1
    by_cases h2 : id ∈ hs
    ·
     left
     rw [hsd id h2] at hob'
     exact ⟨(Option.some.inj hob').symm, g1 id hid (.inl h2)⟩
    ·
     right
     rw [if_neg hid]
     exact ⟨by rw [List.getElem?_append_left hl]; exact hob', g2 id h2 hl, ho id ob' hob' h2⟩
  ·
   have hl : ∀ i, alive (σ.set h ob) i → i < σ.length := by
    rintro i ⟨sz, cs, h1⟩
    have := (List.getElem?_eq_some_iff.1 h1).1
    simpa using this
   have a1 := hl i hi
   have a2 := hl j hj
   by_cases h1 : i = h
   ·
    by_cases h2 : j = h
    ·
     rw [h1, h2]
    ·
     rw [if_pos h1, if_neg h2] at e; omega
   ·
    by_cases h2 : j = h
    ·
     rw [if_neg h1, if_pos h2] at e; omega
    ·
     rw [if_neg h1, if_neg h2] at e; exact e
  ·
   rw [List.length_set] at hid
   exact g1 id xd (.inr hid)
  ·
   rw [List.mem_filter] at hid
   refine g1 id (fun e => ?_) (.inl hid.1)
   subst e
   have := hid.2
   simp at this
  ·
   cases hx with
   | ptr sz k j => cases hv with | ptr _ _ _ _ b hm => exact .ptr _ _ _ _ b (g0.trans hm)
   | own sz n =>
    cases hv with
    | own0 _ _ A hA hm => exact .own0 _ _ A hA (g0.trans hm)
    | own _ _ _ b cap hm h1 h2 h3 => exact .own _ _ _ b cap (g0.trans hm) h1 h2 h3
theorem doesH_push2 {ob : Ob} {h : Nat} (hd : Does P o F σ x (σ ++ [ob])) (hh0 : h ∈ hs) (hlt : h < σ.length) (hsd : ∀ id ∈ hs, σ[id]? = some .dead) (hx : RnTo σ.length h x x') (hob : ObNm (fun i => i ∉ hs ∧ i < σ.length) ob)
  (hmp : ∀ (id : Nat) (ob : Ob), σ[id]? = some ob → isMp ob = false) : DoesH P o F σ hs x' (σ.set h ob) (hs.filter fun i => !Nat.beq i h) := fun G a next Q hr hh hop hn => by
 have key : ∀ id b, G.mu id = some b → id ∉ hs ∧ id < σ.length := fun id b hb => ⟨hh.key id b hb, by
  rcases Nat.lt_or_ge id σ.length with h1 | h1
  ·
   exact h1
  ·
   rw [hr.fresh id h1] at hb; cases hb⟩
 exact doesH_push hd hh0 hlt hsd hx hob (fun id ob' h1 _ => rel_nmq hr key h1 (hmp id ob' h1)) G a next Q hr hh hop hn
theorem Nm.mono {q q' : Nat → Prop} (hq : ∀ i, q i → q' i) {x : AV} (h : Nm q x) : Nm q' x := by
 induction h with
 | any => exact .any
 | s v => exact .s v
 | agg cs _ ih => exact .agg cs ih
 | emp => exact .emp
 | sl l _ ih => exact .sl l ih
 | ref l _ ih => exact .ref l ih
 | own a b c h => exact .own _ _ _ (hq _ h)
 | ptr a b c d h => exact .ptr _ _ _ _ (hq _ h)
 | fn f l _ ih => exact .fn f l ih
 | tup l _ ih => exact .tup l ih
 | mp a h => exact .mp _ (hq _ h)
 | sub a b c d h => exact .sub _ _ _ _ (hq _ h)
theorem ObNm.mono {q q' : Nat → Prop} (hq : ∀ i, q i → q' i) {ob : Ob} (h : ObNm q ob) : ObNm q' ob := by
 cases ob with
 | row n cs => exact fun c hc => (h c hc).mono hq
 | fz n cs => exact fun c hc => (h c hc).mono hq
 | mp X => exact h
 | dead => trivial
mutual
def nmB (q : Nat → Bool) : AV → Bool
 | .any | .s _ | .emp => true
 | .agg l | .sl l | .ref l | .fn _ l | .tup l => nmsB q l
 | .own id _ _ | .ptr id _ _ _ | .mp id | .sub id _ _ _ => q id
def nmsB (q : Nat → Bool) : List AV → Bool
 | [] => true
 | x :: l => nmB q x && nmsB q l
end
mutual
theorem nmB_of {q : Nat → Bool} : ∀ (x : AV), nmB q x = true → Nm (fun i => q i = true) x
 | .any, _ => .any
 | .s v, _ => .s v
 | .emp, _ => .emp
 | .agg l, h => .agg l (nmsB_of l (by simpa [nmB] using h))
 | .sl l, h => .sl l (nmsB_of l (by simpa [nmB] using h))
 | .ref l, h => .ref l (nmsB_of l (by simpa [nmB] using h))
 | .fn f l, h => .fn f l (nmsB_of l (by simpa [nmB] using h))
 | .tup l, h => .tup l (nmsB_of l (by simpa [nmB] using h))
 | .own id a b, h => .own id a b (by simpa [nmB] using h)
 | .ptr id a b c, h => .ptr id a b c (by simpa [nmB] using h)
 | .mp id, h => .mp id (by simpa [nmB] using h)
 | .sub id a b c, h => .sub id a b c (by simpa [nmB] using h)
theorem nmsB_of {q : Nat → Bool} : ∀ (l : List AV), nmsB q l = true → ∀ c ∈ l, Nm (fun i => q i = true) c
 | [], _ => by simp
 | x :: l, h => by
  simp only [nmsB, Bool.and_eq_true] at h
  have h1 := nmB_of x h.1
  have h2 := nmsB_of l h.2
  intro c hc
  rcases List.mem_cons.1 hc with e | hc
  ·
   rw [e]; exact h1
  ·
   exact h2 c hc
end
end
end Go.Proofs.YtllkbjcemecmjaaGreat.Aw
end
section
namespace Go.Proofs.YtllkbjcemecmjaaGreat.Aw
open Go.RowKit
def TAtH (P : Program) (N : Nat) (l : List Oper) (E : List Nat) (T : List Nat → List Ob) (H : List Nat → List Nat) (o : Oper) (i : Nat) (F : Frm) (p : Nat × AV) : Prop :=
 (i ∉ E ∧ ((Runs l.toArray F o true ∧ ∃ x, p = ent N o x ∧ ∀ q : Nat → Bool, DoesH P o F (T (E.filter q)) (H (E.filter q)) x (T (E.filter q)) (H (E.filter q))) ∨ (Runs l.toArray F o false ∧ p = ent N o (.s undef)))) ∨
 (Runs l.toArray F o true ∧ ∀ q : Nat → Bool, closedB (masks l []) E (E.filter q) = true → readyB (masks l []) E (E.filter q) i = true → ∃ x, p = ent N o x ∧ DoesH P o F (T (E.filter q)) (H (E.filter q)) x (T (insE E (E.filter q) i)) (H (insE E (E.filter q) i)))
section
variable {P : Program} {N : Nat} {l : List Oper} {F F' : Frm} {σ : List Ob} {out : List (Nat × AV)} {Q : Exit → Frm → List Ob → Prop}
theorem etree_hole {σ' : List Ob} {E : List Nat} {T : List Nat → List Ob} {H : List Nat → List Nat} (hqs : sOk l N = true) (hself : ∀ i, ((masks l []).getD i 0).testBit i = true → False) (hEl : ∀ j ∈ E, j < l.length) (hlen : l.length = out.length) (hF' : F' = out.reverse ++ F) (hTE : T E = σ')
  (hat : ∀ (i : Nat) o, l[i]? = some o → dOk N o = true ∧ ∃ p, out[i]? = some p ∧ (∃ x, p = ent N o x) ∧ TAtH P N l E T H o i ((out.take i).reverse ++ F) p) (hQ : Q .normal F' σ') (G0 : Cx) :
  ∀ (fuel : Nat) (L : Array Bool) (G : Cx) (a : Act), G0.Ext G → L.size = l.length → left L.toList = fuel → Closed l (fun j => L.getD j false = true) → Rep G (a.tmps.getD N undef) (F.get N) → Hol (H (E.filter fun j => L.getD j false)) G → S8 N G a (fr (fun j => L.getD j false) 0 out F) (T (E.filter fun j => L.getD j false)) → wpAny P .any l.toArray (liftE N G0 Q) fuel L a G.w := by
 unfold sOk at hqs
 simp only [Bool.and_eq_true] at hqs
 obtain ⟨hq, hlk⟩ := hqs
 have hlk' : ∀ (i : Nat) o, l[i]? = some o → ∀ t ∈ o.looksAt l.toArray, t < N := fun i o ho t ht => by
  have h1 := List.all_eq_true.1 hlk o (List.mem_of_getElem? ho)
  have h2 := List.all_eq_true.1 h1 t ht
  simpa [Nat.blt_eq] using h2
 unfold qOk at hq
 have hq' : ∀ j oj, l[j]? = some oj → (∀ e ∈ oj.after.toList, Region.binds .any e = true → e.on < j) ∧ ∀ i oi, i < j → l[i]? = some oi → clash l.toArray oi oj = true → ((masks l []).getD j 0).testBit i = true := by
  intro j oj hj
  have h1 := List.all_eq_true.1 hq j (by simpa using (List.getElem?_eq_some_iff.1 hj).1)
  rw [hj] at h1
  simp only [Bool.and_eq_true, List.all_eq_true] at h1
  refine ⟨fun e he hb => ?_, fun i oi hij hi hc => ?_⟩
  ·
   have := h1.1 e he
   rw [hb] at this
   simpa [Nat.blt_eq] using this
  ·
   have := h1.2 i (by simpa using hij)
   rw [hi] at this
   simpa [hc] using this
 have hsound : ∀ (D : Nat → Prop), Closed l D → ∀ j i, ((masks l []).getD j 0).testBit i = true → D j → D i := fun D hD => masks_sound hD l [] (fun j o h => by simpa using h) (fun j i h => by simp at h)
 have hnone : ∀ (L : Array Bool), L.size = l.length → Region.ready .any l.toArray L = [] → ∀ j, j < l.length → L.getD j false = true := by
  intro L hL hr j
  induction j using Nat.strongRecOn with
  | _ j ih =>
   intro hj
   cases hc : L.getD j false with
   | true => rfl
   | false =>
    exfalso
    obtain ⟨o, ho⟩ : ∃ o, l[j]? = some o := ⟨_, List.getElem?_eq_getElem hj⟩
    have hm : j ∈ Region.ready .any l.toArray L := by
     refine mem_ready.2 ⟨?_, o, by simpa using ho, fun e he hb => ?_⟩
     ·
      have hlt : j < L.size := by omega
      simp [Array.getD_eq_getD_getElem?, hlt] at hc ⊢
      exact hc
     ·
      have hon := (hq' j o ho).1 e (by simpa using he) hb
      exact ih e.on hon xd
    rw [hr] at hm
    cases hm
 -- when all have come up
 have hend : ∀ (L : Array Bool) (G : Cx) (a : Act), G0.Ext G → L.size = l.length → Region.ready .any l.toArray L = [] → S8 N G a (fr (fun j => L.getD j false) 0 out F) (T (E.filter fun j => L.getD j false)) → (∀ j ∈ E, j < l.length) → liftE N G0 Q .normal a G.w := by
  intro L G a hst hL hr h8 hEl
  have e1 : E.filter (fun j => L.getD j false) = E := List.filter_eq_self.2 fun j hj => hnone L hL hr j (hEl j hj)
  rw [e1, hTE] at h8
  refine ⟨G, F', σ', rfl, hst, ⟨h8.rel, fun t => ?_, h8.df, h8.nt⟩, hQ⟩
  have h1 := h8.fr t
  have h2 : (fr (fun j => L.getD j false) 0 out F).get t = (fr (fun j => decide (j < 0 + out.length)) 0 out F).get t := fr_congr out 0 F F rfl (fun j p hp _ => by
   have hj : j < out.length := (List.getElem?_eq_some_iff.1 hp).1
   simp only [Nat.zero_add]
   rw [hnone L hL hr j xd]
   simp [hj])
  rw [h2, fr_pre, List.take_length, ← hF'] at h1
  exact h1
 intro fuel
 induction fuel with
 | zero =>
  intro L G a hst hL hlf hcl _ hH h8
  have hr : Region.ready .any l.toArray L = [] := by
   rw [List.eq_nil_iff_forall_not_mem]
   intro i hi
   obtain ⟨h1, o, ho, _⟩ := mem_ready.1 hi
   have hlt : i < L.size := by rw [hL]; simpa using (Array.getElem?_eq_some_iff.1 ho).1
   have : 0 < left L.toList := left_pos i (by simp [Array.getD_eq_getD_getElem?, hlt] at h1 ⊢; exact h1)
   omega
  exact ⟨hr, hend L G a hst hL hr h8 hEl⟩
 | succ fuel ih =>
  intro L G a hst hL hlf hcl hNr hH h8
  refine ⟨fun hr => hend L G a hst hL hr h8 hEl, fun i hi => ?_⟩
  obtain ⟨h1, o, ho, hall⟩ := mem_ready.1 hi
  have hli : l[i]? = some o := by simpa using ho
  have hlt : i < L.size := by rw [hL]; exact (List.getElem?_eq_some_iff.1 hli).1
  have hfalse : L.getD i false = false := by simp [Array.getD_eq_getD_getElem?, hlt] at h1 ⊢; exact h1
  obtain ⟨g2, p0, g1, ⟨x0, hx0⟩, g4⟩ := hat i o hli
  -- the others that touch its slots: those before it have come up, those behind it have not
  have hcl' : Closed l (fun j => j = i ∨ L.getD j false = true) := by
   intro j oj hj hD e he hb
   rcases hD with rfl | hD
   ·
    rw [hli] at hj; cases hj
    exact .inr (hall e (by simpa using he) hb)
   ·
    exact .inr (hcl j oj hj hD e he hb)
  have hord : ∀ j oj, l[j]? = some oj → j ≠ i → (j < i → clash l.toArray oj o = true → L.getD j false = true) ∧ (i < j → clash l.toArray o oj = true → L.getD j false = false) := by
   intro j oj hj hne
   refine ⟨fun hji hc => ?_, fun hij hc => ?_⟩
   ·
    rcases hsound _ hcl' i j ((hq' i o hli).2 j oj hji hj hc) (.inl rfl) with h | h
    ·
     exact absurd h hne
    ·
     exact h
   ·
    cases hx : L.getD j false with
    | false => rfl
    | true =>
     have := hsound _ hcl j i ((hq' j oj hj).2 i o hij hli hc) hx
     rw [hfalse] at this
     cases this
  have hsel : ∀ t, t ∈ o.looksAt l.toArray → Frm.get ((out.take i).reverse ++ F) t = (fr (fun j => L.getD j false) 0 out F).get t := by
   intro t ht
   rw [← fr_pre out 0 i F]
   refine (fr_congr out 0 F F rfl (fun j p hp hpt => ?_)).symm
   simp only [Nat.zero_add]
   have hj : j < l.length := by rw [hlen]; exact (List.getElem?_eq_some_iff.1 hp).1
   obtain ⟨_, p', k1, ⟨x', rfl⟩, _⟩ := hat j _ (List.getElem?_eq_getElem hj)
   rw [k1] at hp
   cases hp
   have htN := hlk' i o hli t ht
   have k2 : l[j].dst = some t := ent_at hpt htN
   by_cases hji : j = i
   ·
    subst hji; rw [hfalse]; simp
   ·
    rcases Nat.lt_or_gt_of_ne hji with h | h
    ·
     rw [(hord j _ (List.getElem?_eq_getElem hj) hji).1 h (clash_of.1 k2 ht)]; simp [h]
    ·
     rw [(hord j _ (List.getElem?_eq_getElem hj) hji).2 h (clash_of.2.2 k2 ht)]; simp; omega
  -- what is known behind it
  have hnext : ∀ (x : AV), p0 = ent N o x → ∀ (G' : Cx) (v : Value), G.Ext G' → Rel G' (T (E.filter fun j => (L.setIfInBounds i true).getD j false)) → Hol (H (E.filter fun j => (L.setIfInBounds i true).getD j false)) G' → Rep G' v x → wpAny P .any l.toArray (liftE N G0 Q) fuel (L.setIfInBounds i true) (a.put o.dst v) G'.w := by
   intro x hx G' v he hr' hH' hv
   rw [hx] at g1
   refine ih _ G' _ (hst.trans he) (by simpa using hL) ?_ ?_ ?_ hH' ⟨hr', fun t => ?_, by cases o.dst <;> exact h8.df, by cases o.dst <;> simp [Act.put, h8.nt]⟩
   ·
    have := left_set L.toList i (by simp [Array.getD_eq_getD_getElem?, hlt] at hfalse ⊢; exact hfalse)
    rw [Array.toList_setIfInBounds]; omega
   ·
    intro j oj hj hD e he2 hb
    have key : ∀ k, (L.setIfInBounds i true).getD k false = true ↔ (k = i ∨ L.getD k false = true) := fun k => by
     by_cases hk : i = k
     ·
      subst hk; simp [Array.getD_eq_getD_getElem?, hlt]
     ·
      simp [Array.getD_eq_getD_getElem?, Array.getElem?_setIfInBounds, hk, Ne.symm hk]
    rw [key] at hD ⊢
    exact hcl' j oj hj hD e he2 hb
   ·
    cases ho2 : o.dst with
    | none => exact hNr.ext he
    | some d =>
     have hd := dOk_lt g2 ho2
     have : d ≠ N := Nat.ne_of_lt hd
     have h1 : (a.put (some d) v).tmps.getD N undef = a.tmps.getD N undef := by simp [Act.put, Array.getD_eq_getD_getElem?, Array.getElem?_setIfInBounds, this]
     rw [h1]; exact hNr.ext he
   ·
    have hselL : ∀ k, k ≠ i → (L.setIfInBounds i true).getD k false = L.getD k false := fun k hk => by
     simp [Array.getD_eq_getD_getElem?, Array.getElem?_setIfInBounds, Ne.symm hk]
    by_cases hte : t = (ent N o x).1
    ·
     cases ho2 : o.dst with
     | none =>
      rw [ent_none ho2] at hte
      have hte : t = N := hte
      rw [hte]
      refine fr_rep out 0 F (hNr.ext he) (fun p hp hpt => ?_)
      obtain ⟨j, hj, rfl⟩ := List.mem_iff_getElem.1 hp
      obtain ⟨k2, p', k1, ⟨x', hx'⟩, _⟩ := hat j l[j] (List.getElem?_eq_getElem xd)
      have k3 : out[j] = ent N l[j] x' := by rw [List.getElem?_eq_getElem hj] at k1; exact (Option.some.inj k1).trans hx'
      rw [k3] at hpt ⊢
      rw [ent_top hpt k2]
      exact .any _
     | some d =>
      rw [zc0 ho2] at hte g1
      dsimp only at hte
      subst hte
      have h2 : (fr (fun j => (L.setIfInBounds i true).getD j false) 0 out F).get t = x := fr_last out 0 F i g1 (by simp [Array.getD_eq_getD_getElem?, hlt]) (fun j p hp hij hc hpt => by
       simp only [Nat.zero_add] at hc
       rw [hselL j xd] at hc
       have hj : j < l.length := by rw [hlen]; exact (List.getElem?_eq_some_iff.1 hp).1
       obtain ⟨_, p', k1, ⟨x', rfl⟩, _⟩ := hat j _ (List.getElem?_eq_getElem hj)
       rw [k1] at hp
       cases hp
       have htN := dOk_lt g2 ho2
       have k2 : l[j].dst = some t := ent_at hpt htN
       have := (hord j _ (List.getElem?_eq_getElem hj) xd).2 hij (clash_of.2.1 ho2 k2)
       rw [this] at hc
       cases hc)
      rw [h2]
      have : t < a.tmps.size := by rw [h8.nt]; exact dOk_lt g2 ho2
      simpa [Act.put, Array.getD_eq_getD_getElem?, this] using hv
    ·
     have h2 : (fr (fun j => (L.setIfInBounds i true).getD j false) 0 out F).get t = (fr (fun j => L.getD j false) 0 out F).get t := fr_congr out 0 F F rfl (fun j p hp hpt => by
      simp only [Nat.zero_add]
      refine hselL j (fun e => ?_)
      subst e
      rw [g1] at hp
      cases hp
      exact hte hpt.symm)
     rw [h2]
     have h3 := (h8.fr t).ext he
     cases ho2 : o.dst with
     | none => exact h3
     | some d =>
      rw [zc0 ho2] at hte
      have hte : t ≠ d := hte
      simpa [Act.put, Array.getD_eq_getD_getElem?, Array.getElem?_setIfInBounds, Ne.symm hte] using h3
  have hset : ∀ j, (L.setIfInBounds i true).getD j false = (L.getD j false || Nat.beq j i) := fun j => by
   by_cases hj : j = i
   ·
    subst hj; simp [Array.getD_eq_getD_getElem?, hlt]
   ·
    have hb : Nat.beq j i = false := by
     cases hh : Nat.beq j i with
     | false => rfl
     | true => exact absurd (Nat.eq_of_beq_eq_true hh) hj
    simp [Array.getD_eq_getD_getElem?, Array.getElem?_setIfInBounds, Ne.symm hj, hb]
  have hdn : E.filter (fun j => (L.setIfInBounds i true).getD j false) = insE E (E.filter fun j => L.getD j false) i := by
   unfold insE
   refine List.filter_congr fun j hj => ?_
   rw [hset]
   congr 1
   rw [Bool.eq_iff_iff]
   simp [hj]
  have hmem : ∀ j, (E.filter fun j => L.getD j false).contains j = true ↔ j ∈ E ∧ L.getD j false = true := fun j => by simp
  have hclD : closedB (masks l []) E (E.filter fun j => L.getD j false) = true := by
   refine List.all_eq_true.2 fun j hj => List.all_eq_true.2 fun k hk => ?_
   obtain ⟨hj1, hj2⟩ := List.mem_filter.1 hj
   cases hb : ((masks l []).getD j 0).testBit k with
   | false => rfl
   | true =>
    rw [Bool.not_true, Bool.false_or]
    exact (hmem k).2 ⟨hk, hsound _ hcl j k hb hj2⟩
  have hrdD : readyB (masks l []) E (E.filter fun j => L.getD j false) i = true := by
   unfold readyB
   simp only [Bool.and_eq_true]
   refine ⟨⟨?_, List.all_eq_true.2 fun k hk => ?_⟩, List.all_eq_true.2 fun j hj => ?_⟩
   ·
    cases hb : (E.filter fun j => L.getD j false).contains i with
    | false => rfl
    | true => have := ((hmem i).1 hb).2; rw [hfalse] at this; cases this
   ·
    cases hb : ((masks l []).getD i 0).testBit k with
    | false => rfl
    | true =>
     rw [Bool.not_true, Bool.false_or]
     rcases hsound _ hcl' i k hb (.inl rfl) with h | h
     ·
      exfalso
      subst h
      -- an operation does not wait for itself
      exact hself k hb
     ·
      exact (hmem k).2 ⟨hk, h⟩
   ·
    cases hb : ((masks l []).getD j 0).testBit i with
    | false => rfl
    | true =>
     have := hsound _ hcl j i hb (List.mem_filter.1 hj).2
     rw [hfalse] at this; cases this
  unfold wpOp
  simp only [ho]
  rcases g4 with ⟨hiE, ⟨k1, x, hx, k2⟩ | ⟨k1, hx⟩⟩ | ⟨k1, k2⟩
  ·
   rw [if_pos ((k1.congr hsel).wanted h8.fr)]
   left
   refine ((k2 fun j => L.getD j false).congr hsel) G a _ _ h8.rel hH (fun y _ => zc4 h8.fr y) (fun v G' he hr' hH' hv => ?_)
   refine hnext x hx G' v he ?_ ?_ hv <;>
   ·
    have e : E.filter (fun j => (L.setIfInBounds i true).getD j false) = E.filter fun j => L.getD j false := List.filter_congr fun j hj => by
     rw [hset]
     have : Nat.beq j i = false := by
      cases hh : Nat.beq j i with
      | false => rfl
      | true => exact absurd (Nat.eq_of_beq_eq_true hh ▸ hj) hiE
     rw [this, Bool.or_false]
    rw [e]; assumption
  ·
   rw [if_neg (by rw [(k1.congr hsel).wanted h8.fr]; simp)]
   refine hnext _ hx G undef (.refl G) ?_ ?_ (.s _) <;>
   ·
    have e : E.filter (fun j => (L.setIfInBounds i true).getD j false) = E.filter fun j => L.getD j false := List.filter_congr fun j hj => by
     rw [hset]
     have : Nat.beq j i = false := by
      cases hh : Nat.beq j i with
      | false => rfl
      | true => exact absurd (Nat.eq_of_beq_eq_true hh ▸ hj) hiE
     rw [this, Bool.or_false]
    rw [e]; first | exact h8.rel | exact hH
  ·
   rw [if_pos ((k1.congr hsel).wanted h8.fr)]
   left
   obtain ⟨x, hx, k3⟩ := k2 _ hclD hrdD
   refine (k3.congr hsel) G a _ _ h8.rel hH (fun y _ => zc4 h8.fr y) (fun v G' he hr' hH' hv => ?_)
   refine hnext x hx G' v he ?_ ?_ hv <;> (rw [hdn]; assumption)
theorem edraw_hole {σ' : List Ob} {E : List Nat} {T : List Nat → List Ob} {H : List Nat → List Nat} (hqs : sOk l N = true) (hself : ∀ i, ((masks l []).getD i 0).testBit i = true → False) (hEl : ∀ j ∈ E, j < l.length) (hlen : l.length = out.length) (hF' : F' = out.reverse ++ F) (K : Nat) (hT0 : T [] = σ ++ List.replicate K .dead) (hH0 : ∀ id ∈ H [], σ.length ≤ id) (hTE : T E = σ')
  (hat : ∀ (i : Nat) o, l[i]? = some o → dOk N o = true ∧ ∃ p, out[i]? = some p ∧ (∃ x, p = ent N o x) ∧ TAtH P N l E T H o i ((out.take i).reverse ++ F) p) (hQ : Q .normal F' σ') : EDraw P N l F σ Q := fun G a h8 => by
 have hno : ∀ j, (Array.replicate l.length false).getD j false = false := fun j => by
  simp only [Array.getD_eq_getD_getElem?, Array.getElem?_replicate]
  split <;> rfl
 have h3 : ∀ (out : List (Nat × AV)) (k : Nat) (F : Frm), fr (fun j => (Array.replicate l.length false).getD j false) k out F = F := by
  intro out
  induction out with
  | nil => intro k F; rfl
  | cons p out ih =>
   intro k F
   have := hno k
   simp only [fr, this, cond_false]
   exact ih _ _
 have h4 : E.filter (fun j => (Array.replicate l.length false).getD j false) = [] := by
  rw [List.filter_eq_nil_iff]
  intro j _
  rw [hno]; simp
 have al : ∀ i, alive (σ ++ List.replicate K Ob.dead) i → alive σ i := by
  rintro i ⟨sz, cs, h⟩
  by_cases hl : i < σ.length
  ·
   rw [List.getElem?_append_left hl] at h
   exact ⟨sz, cs, h⟩
  ·
   rw [List.getElem?_append_right xd] at h
   have := (List.mem_replicate.1 (List.mem_of_getElem? h)).2
   cases this
 refine etree_hole hqs hself hEl hlen hF' hTE hat hQ G l.length _ G a (.refl G) xo (by simp [left_rep]) ?_ (h8.fr N) ?_ ?_
 ·
  intro j o hj hD
  rw [hno] at hD
  cases hD
 ·
  rw [h4]; exact fun id hid => h8.rel.fresh id (hH0 id hid)
 ·
  rw [h3, h4, hT0]
  refine ⟨⟨h8.rel.below, h8.rel.le, h8.rel.st, fun id ob hob => ?_, fun i j b hi hj => h8.rel.inj i j b (al i hi) (al j hj), fun id hid => h8.rel.fresh id (by simp at hid; omega)⟩, h8.fr, h8.df, h8.nt⟩
  by_cases hl : id < σ.length
  ·
   rw [List.getElem?_append_left hl] at hob
   exact h8.rel.obs id ob hob
  ·
   rw [List.getElem?_append_right xd] at hob
   have : ob = .dead := (List.mem_replicate.1 (List.mem_of_getElem? hob)).2
   subst this
   intro b hb
   rw [h8.rel.fresh id xd] at hb; cases hb
end
end Go.Proofs.YtllkbjcemecmjaaGreat.Aw
end
