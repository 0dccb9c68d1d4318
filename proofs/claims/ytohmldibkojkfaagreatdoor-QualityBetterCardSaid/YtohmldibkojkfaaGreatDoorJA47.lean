import Derived.Test.YtohmldibkojkfaaGreatDoorJA44
import Derived.Test.YtohmldibkojkfaaGreatDoorJA45
set_option linter.unusedSimpArgs false
set_option linter.unusedVariables false
set_option linter.unusedSectionVars false
section
namespace Go.Proofs.YtohmldibkojkfaaGreatDoor
open Go.ChangeShapes Go.WideShapes Go.ChangeAt Go.RowKit
set_option maxRecDepth 100000 in
theorem zhv (os : Os) (started : os.Started) (H : Type) (enc : TypeId × Value → H) :
  ReturnsInHanded {} Tryz.checked os 4 .any (fun w args => (Rows.qualityBetterSpec.pre enc Tryz.prog Tryz.f4 Rows.qualityBetterRow.domain false w args ∧ laidMetH Tryz.prog Rows.qualityBetterRow.laid w) ∧ sizedMet enc Tryz.prog Tryz.f4 (OpenSpec.ofChange Rows.qualityBetterSpec) false w args) (Rows.qualityBetterSpec.post enc Tryz.prog Tryz.f4 false true false false) := by
 refine returnsInHanded_of_change_and (C := Tryz.checked) (X := fun w _ => laidMetH Tryz.prog Rows.qualityBetterRow.laid w) (fun _ _ _ hh h => h.of_heap hh) zsa started (by kernel_rfl) Tryz.func4
  (ChangeSpec.witness_shaped (enc := enc) (C := Tryz.checked) (os := os) (X := fun w _ => laidMetH Tryz.prog Rows.qualityBetterRow.laid w) false (World.laidAll Tryz.prog os Rows.qualityBetterRow.laid) #[.agg #[.int .i64 0, .slice none 0 0, .int .i64 0, .int .i64 0], .agg #[.int .i64 0, .slice none 0 0, .int .i64 0, .int .i64 0], .slice none 0 0, .agg #[.int .i64 0, .int .i64 0, .int .i64 0], .int .i64 0] 8 (World.laidAll_os _ _ _)
   (World.shaped_of_ZipB (by kernel_rfl) (by kernel_rfl)) (by kernel_rfl) (by kernel_rfl) (by kernel_rfl)
   (by rw [MakeChecks.laidMetH_plain _ _ _ (by kernel_rfl)]; exact laidMet_laidAll _ (by kernel_rfl) (by kernel_rfl))) ?_
 intro W base args ds gs before hval0 hW hcnd _ hL _
 have hval : ∀ (j : Nat) t v, Tryz.f4.params[j]? = some t → args[j]? = some v → Value.okWide Tryz.prog W .any base t v := hval0
 have hW' := hW
 obtain ⟨p, q, hA0, hV, rfl, hfz, hnd⟩ := hW
 have hA : DataW.TrodAll enc Tryz.prog W 0 (fun _ => true) true Tryz.f4.params.toList args.toList ds p := hA0
 rw [Tryz.params4] at hA hval
 obtain ⟨v0, v1, v2, v3, v4, d0, d1, d2, d3, d4, p0, p1, p2, p3, p4, rfl, rfl, rfl, h0, h1, h2, h3, h4⟩ := zon hA
 obtain ⟨rfl, rfl⟩ := trodVars_none hV
 obtain ⟨x0, hx0⟩ := Aw.open_net (hval 0 24 v0 rfl rfl) h0
 obtain ⟨x1, hx1⟩ := Aw.open_net (hval 1 24 v1 rfl rfl) h1
 obtain ⟨x2, hx2⟩ := Aw.open_variants (hval 2 25 v2 rfl rfl) h2
 obtain ⟨x3, hx3⟩ := Aw.open_costs (hval 3 27 v3 rfl rfl) h3
 obtain ⟨x4, hx4⟩ := Aw.open_int (hval 4 3 v4 rfl rfl) h4
 simp only [List.append_nil] at hW'
 refine (Aw.pure_lawT (Aw.qualityBetter_pf (P := Tryz.prog) x0 x1 x2 x3 x4) W (Aw.tab_of_laid hL) #[v0, v1, v2, v3, v4] rfl (fun j v x hv hx => ?_)).mono fun e W' ⟨he, hb⟩ => ?_
 ·
  match j, hv, hx with
  | 0, hv, hx => simp at hv hx; subst hv hx; exact hx0
  | 1, hv, hx => simp at hv hx; subst hv hx; exact hx1
  | 2, hv, hx => simp at hv hx; subst hv hx; exact hx2
  | 3, hv, hx => simp at hv hx; subst hv hx; exact hx3
  | 4, hv, hx => simp at hv hx; subst hv hx; exact hx4
  | j + 5, hv, hx => simp at hv
 subst he
 have hp : ∀ x ∈ p0 ++ p1 ++ p2 ++ p3 ++ p4, x.block < W.heap.size := fun x hx => hW'.lt x (by simpa using hx)
 have hg := zqh (Below.trod zfe (by kernel_rfl) (of_decide_eq_true (by kernel_rfl)) h0 hb (fun x hx => hp x (by simp [hx]))) (Below.trod zfe (by kernel_rfl) (of_decide_eq_true (by kernel_rfl)) h1 hb (fun x hx => hp x (by simp [hx]))) (Below.trod zfe (by kernel_rfl) (of_decide_eq_true (by kernel_rfl)) h2 hb (fun x hx => hp x (by simp [hx]))) (Below.trod zfe (by kernel_rfl) (of_decide_eq_true (by kernel_rfl)) h3 hb (fun x hx => hp x (by simp [hx]))) (Below.trod zfe (by kernel_rfl) (of_decide_eq_true (by kernel_rfl)) h4 hb (fun x hx => hp x (by simp [hx])))
 simp only [← List.append_assoc] at hg
 exact ⟨_, rfl, zsh (t := 4) hW' (by kernel_rfl) Tryz.underlying4 ⟨rfl, rfl, rfl⟩ rfl hg hb⟩
theorem zh9 : Rows.QualityBetterSaid :=
 OpenClaim.holds_of_wide 4 Tryz.f4 rfl rfl rfl rfl rfl rfl rfl ⟨rfl, rfl, rfl, rfl, rfl⟩ rfl rfl rfl rfl rfl (by kernel_rfl) Tryz.func4 (by kernel_rfl)
  (of_decide_eq_true (by kernel_rfl)) (by unfold Func.isWrapper; first | (rw [if_pos (by decide +kernel)]; kernel_rfl) | (rw [if_neg (by decide +kernel)]; exact ⟨rfl, rfl⟩))
  (fun os started H enc _ => zhv os started H enc)
theorem qualityBetter_card : Rows.QualityBetterCardSaid :=
 Claim7.holds_tied_plain_at .later [] [.data, .data, .data] true (true, "2694aff06bf84654b2924834adc5f4e5e026099b58d58d42b99ca98d33d152ad") true zh9 (fun _ h => by cases h) (by kernel_rfl) (fun _ h => by cases h) qualityBetter_row_tie rfl ⟨rfl, rfl⟩ (by kernel_rfl) rfl
  (fun f fn hf hfn => by
   obtain rfl : f = 4 := Option.some.inj ((show Tryz.prog.funcNamed "casebook/casebooklaw45.QualityBetter" = some 4 by kernel_rfl).symm.trans hf) |>.symm
   obtain rfl : fn = Tryz.f4 := (Option.some.inj (Tryz.func4.symm.trans hfn)).symm
   exact ⟨by kernel_rfl, fun j t ht => by
    rw [Tryz.params4] at ht
    have hm : t ∈ [24, 24, 25, 27, 3] := by simpa using Array.mem_of_getElem? ht
    have hall : ([24, 24, 25, 27, 3].all fun u => !Tryz.prog.wantsStandIn u) = true := by kernel_rfl
    exact (show Tryz.prog.wantsStandIn t = false by simpa using List.all_eq_true.1 hall t hm)⟩) (by kernel_rfl)
#print axioms qualityBetter_card
end Go.Proofs.YtohmldibkojkfaaGreatDoor
end
