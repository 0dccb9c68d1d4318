import Derived.Test.YtmhbfoaecebobaaJG11
section
namespace Go.Proofs.Ytmhbfoaecebobaa.Aw
set_option linter.unusedSimpArgs false
set_option linter.unusedVariables false
open Go Go.RowKit Go.Proofs Go.Maps Go.WideMaps
variable {P : Program} [IsP P]
abbrev pfN (n : Net) (w : List ByteArray) (most : Int) : Frm := [(2, eI most), (3, .ref (eN n).cells), (4, .ref [eL eS w]), (13, .fn 43 [.ref [eL eS w], .ref [eL eI (oneL n.places.toNat n.sink)]])]
abbrev pfF (n : Net) (w : List ByteArray) (most : Int) (q : List Nd) (i : Nat) : Frm := (14, .own 0 3 q.length) :: (15, .mp 1) :: (16, eI i) :: pfN n w most
abbrev pfS (P : Program) (q : List Nd) : List Ob := [.row 3 (q.map eNd), .mp ⟨P, 9, 4, q.length, seenQ q⟩]
set_option maxHeartbeats 4000000 in
theorem Fits_pf (n : Net) (w : List ByteArray) (most : Int) : Pure P 15 [eN n, eL eS w, eI most] (eFt (FitsE n w most)) := by
  have hwo := workflow_pf (P := P) n
  have hna := named_pf (P := P) w
  have hini := initial_pf (P := P) n
  have hfin := final_pf (P := P) n
  refine aw_fn (by rw [IsP.eq (P := P)]; exact Try.func15) rfl rfl rfl rfl rfl (by repeat' (first | exact Lo.s _ | exact Lo.emp | exact Lo.any | exact zap | exact zao | refine zah ?_ ?_ | refine zai ?_ ?_ | refine zaq ?_ | refine zan ?_ | refine Lo.cells ?_ | refine Lo.agg _ ?_ | refine Lo.ref _ ?_ | refine Lo.tup _ ?_ | refine Lo.fn _ _ ?_ | refine Lo.sl _ ?_ | intro _)) (by repeat' (first | exact Lo.s _ | exact Lo.emp | exact Lo.any | exact zap | exact zao | refine zah ?_ ?_ | refine zai ?_ ?_ | refine zaq ?_ | refine zan ?_ | refine Lo.cells ?_ | refine Lo.agg _ ?_ | refine Lo.ref _ ?_ | refine Lo.tup _ ?_ | refine Lo.fn _ _ ?_ | refine Lo.sl _ ?_ | intro _)) (by simp only [argF]; rfl) ?_
  repeat (first | refine zaf ?_ | refine zak ?_ | refine zad ?_ | refine zal ?_ | refine zac ?_)
  refine zae ?_
  refine zab rfl rfl (zaa rfl) (does_box rfl rfl rfl rfl) ?_
  refine za5 (wk_froz (id := 0) rfl) (za5 (wk_ref (d := 3) rfl rfl rfl) ?_)
  refine zab rfl rfl (zaa rfl) (does_box rfl rfl rfl rfl) ?_
  refine za5 (wk_froz (id := 1) rfl) (za5 (wk_ref (d := 4) rfl rfl rfl) ?_)
  refine zab rfl rfl (zaa rfl) (mv_s (.inr rfl) rfl) ?_
  refine zab rfl rfl (zaa rfl) (mv_s (.inr rfl) rfl) ?_
  refine zab rfl rfl (zaa rfl) (mv_s (.inr rfl) rfl) ?_
  refine zaj ?_
  repeat (first | refine zaf ?_ | refine zak ?_ | refine zad ?_ | refine zal ?_ | refine zac ?_)
  by_cases hw1 : wfB n = true ∧ allN w = true
  rotate_left
  · have hF : FitsE n w most = (false, [], 1) := by
      have h1 : wordsE n w = 1 := by
        unfold wordsE
        rw [if_pos]
        cases h1 : wfB n <;> cases h2 : allN w <;> simp_all
      unfold FitsE
      rw [if_pos (by rw [h1]; decide), h1]
    cases hwf : wfB n with
    | false =>
      rw [hwf] at hwo
      refine zae ?_
      refine zab rfl rfl (zaa rfl) (zas rfl ta24 ti24 rfl rfl) ?_
      refine zab rfl rfl (zaa rfl) (zav rfl rfl (hwo) (zar rfl za0)) ?_
      refine zab rfl rfl (zaa rfl) (does_not rfl rfl) ?_
      refine zab rfl rfl (zaa rfl) (mv_s (.inl rfl) rfl) ?_
      refine zaw rfl rfl (za4 rfl rfl rfl) ?_
      refine zaw rfl rfl (za4 rfl rfl rfl) ?_
      refine zaw rfl rfl (za4 rfl rfl rfl) ?_
      refine zab rfl rfl (zaa rfl) (pickT_s rfl rfl rfl) ?_
      refine zab rfl rfl (zaa rfl) (mv_s (.inr rfl) rfl) ?_
      refine zaj ?_
      repeat (first | refine zaf ?_ | refine zak ?_ | refine zad ?_ | refine zal ?_ | refine zac ?_)
      refine aw_true rfl ?_
      repeat (first | refine zaf ?_ | refine zak ?_ | refine zad ?_ | refine zal ?_ | refine zac ?_)
      refine zae ?_
      refine zab rfl rfl (zaa rfl) (mv_s (.inr rfl) rfl) ?_
      refine zab rfl rfl (zaa rfl) (mv_s (.inr rfl) rfl) ?_
      refine zab rfl rfl (zaa rfl) (mv_s (.inr rfl) rfl) ?_
      refine zaj ?_
      repeat (first | refine zaf ?_ | refine zak ?_ | refine zad ?_ | refine zal ?_ | refine zac ?_)
      (refine zbd ?_; repeat (first | refine ath_r ?_ | refine abl_r ?_))
      rw [hF]
      exact post3 (.inr rfl) rfl rfl rfl (.refl _) .nil (.refl _)
    | true =>
      have hna2 : allN w = false := by cases h : allN w with | false => rfl | true => exact absurd ⟨hwf, h⟩ hw1
      rw [hwf] at hwo
      rw [hna2] at hna
      refine zae ?_
      refine zab rfl rfl (zaa rfl) (zas rfl ta24 ti24 rfl rfl) ?_
      refine zab rfl rfl (zaa rfl) (zav rfl rfl (hwo) (zar rfl za0)) ?_
      refine zab rfl rfl (zaa rfl) (does_not rfl rfl) ?_
      refine zab rfl rfl (zaa rfl) (mv_s (.inl rfl) rfl) ?_
      refine zab rfl rfl (zau rfl rfl rfl) (zam rfl ta25 rfl) ?_
      refine zab rfl rfl (zau rfl rfl rfl) (zav rfl rfl (hna) (zar rfl za0)) ?_
      refine zab rfl rfl (zau rfl rfl rfl) (does_not rfl rfl) ?_
      refine zab rfl rfl (zaa rfl) (pickF_s rfl rfl rfl) ?_
      refine zab rfl rfl (zaa rfl) (mv_s (.inr rfl) rfl) ?_
      refine zaj ?_
      repeat (first | refine zaf ?_ | refine zak ?_ | refine zad ?_ | refine zal ?_ | refine zac ?_)
      refine aw_true rfl ?_
      repeat (first | refine zaf ?_ | refine zak ?_ | refine zad ?_ | refine zal ?_ | refine zac ?_)
      refine zae ?_
      refine zab rfl rfl (zaa rfl) (mv_s (.inr rfl) rfl) ?_
      refine zab rfl rfl (zaa rfl) (mv_s (.inr rfl) rfl) ?_
      refine zab rfl rfl (zaa rfl) (mv_s (.inr rfl) rfl) ?_
      refine zaj ?_
      repeat (first | refine zaf ?_ | refine zak ?_ | refine zad ?_ | refine zal ?_ | refine zac ?_)
      (refine zbd ?_; repeat (first | refine ath_r ?_ | refine abl_r ?_))
      rw [hF]
      exact post3 (.inr rfl) rfl rfl rfl (.refl _) .nil (.refl _)
  obtain ⟨hwf, hnames⟩ := hw1
  rw [hwf] at hwo
  rw [hnames] at hna
  refine zae ?_
  refine zab rfl rfl (zaa rfl) (zas rfl ta24 ti24 rfl rfl) ?_
  refine zab rfl rfl (zaa rfl) (zav rfl rfl (hwo) (zar rfl za0)) ?_
  refine zab rfl rfl (zaa rfl) (does_not rfl rfl) ?_
  refine zab rfl rfl (zaa rfl) (mv_s (.inl rfl) rfl) ?_
  refine zab rfl rfl (zau rfl rfl rfl) (zam rfl ta25 rfl) ?_
  refine zab rfl rfl (zau rfl rfl rfl) (zav rfl rfl (hna) (zar rfl za0)) ?_
  refine zab rfl rfl (zau rfl rfl rfl) (does_not rfl rfl) ?_
  refine zab rfl rfl (zaa rfl) (pickF_s rfl rfl rfl) ?_
  refine zab rfl rfl (zaa rfl) (mv_s (.inr rfl) rfl) ?_
  refine zaj ?_
  repeat (first | refine zaf ?_ | refine zak ?_ | refine zad ?_ | refine zal ?_ | refine zac ?_)
  refine za6 rfl ?_
  repeat (first | refine zaf ?_ | refine zak ?_ | refine zad ?_ | refine zal ?_ | refine zac ?_)
  refine aw_bdm (d := 1) rfl (fun hwlen => ?_)
  unfold maxLen at hwlen
  refine zae ?_
  refine zab rfl rfl (zaa rfl) (zam rfl ta25 rfl) ?_
  refine zab rfl rfl (zaa rfl) (za2 rfl ts25 rfl) ?_
  refine zab rfl rfl (zaa rfl) (does_gtr rfl rfl rfl) ?_
  refine zab rfl rfl (zaa rfl) (mv_s (.inr rfl) rfl) ?_
  refine zaj ?_
  repeat (first | refine zaf ?_ | refine zak ?_ | refine zad ?_ | refine zal ?_ | refine zac ?_)
  refine aw_if rfl (fun h => ?_) (fun h => ?_)
  · have h1 : wordsE n w = 5 := by
      unfold wordsE
      rw [hwf, hnames, if_neg (by simp), if_pos (by omega)]
    have hF : FitsE n w most = (false, [], 5) := by
      unfold FitsE
      rw [if_pos (by rw [h1]; decide), h1]
    repeat (first | refine zaf ?_ | refine zak ?_ | refine zad ?_ | refine zal ?_ | refine zac ?_)
    refine zae ?_
    refine zab rfl rfl (zaa rfl) (mv_s (.inr rfl) rfl) ?_
    refine zab rfl rfl (zaa rfl) (mv_s (.inr rfl) rfl) ?_
    refine zab rfl rfl (zaa rfl) (mv_s (.inr rfl) rfl) ?_
    refine zaj ?_
    repeat (first | refine zaf ?_ | refine zak ?_ | refine zad ?_ | refine zal ?_ | refine zac ?_)
    (refine zbd ?_; repeat (first | refine ath_r ?_ | refine abl_r ?_))
    rw [hF]
    exact post3 (.inr rfl) rfl rfl rfl (.refl _) .nil (.refl _)
  have hl200 : w.length ≤ 200 := by omega
  have h0 : wordsE n w = 0 := by
    unfold wordsE
    rw [hwf, hnames, if_neg (by simp), if_neg (by omega)]
  have hF0 : FitsE n w most = if most < 1 ∨ 2000 < most then (false, [], 2) else srchF n w most (most.toNat + 1) 0 [⟨0, oneL n.places.toNat n.source, []⟩] := if_neg (by rw [h0]; decide)
  have hval := (wfB_wf hwf).valid
  have hpl := za8 hval
  have hends := validB_ends hval
  have hoi : ∀ p, oneE n p = (oneL n.places.toNat p, 0) := fun p => by unfold oneE; rw [hval]; rfl
  rw [hoi] at hini hfin
  repeat (first | refine zaf ?_ | refine zak ?_ | refine zad ?_ | refine zal ?_ | refine zac ?_)
  by_cases hr1 : most < 1
  · rw [if_pos (.inl hr1)] at hF0
    refine zae ?_
    refine zab rfl rfl (zaa rfl) (mv_s (.inl rfl) rfl) ?_
    refine zab rfl rfl (zaa rfl) (dec_t hr1 (does_lss rfl rfl rfl)) ?_
    refine zab rfl rfl (zaa rfl) (mv_s (.inl rfl) rfl) ?_
    refine zaw rfl rfl (za4 rfl rfl rfl) ?_
    refine zaw rfl rfl (za4 rfl rfl rfl) ?_
    refine zab rfl rfl (zaa rfl) (pickT_s rfl rfl rfl) ?_
    refine zab rfl rfl (zaa rfl) (mv_s (.inr rfl) rfl) ?_
    refine zaj ?_
    repeat (first | refine zaf ?_ | refine zak ?_ | refine zad ?_ | refine zal ?_ | refine zac ?_)
    refine aw_true rfl ?_
    repeat (first | refine zaf ?_ | refine zak ?_ | refine zad ?_ | refine zal ?_ | refine zac ?_)
    refine zae ?_
    refine zab rfl rfl (zaa rfl) (mv_s (.inr rfl) rfl) ?_
    refine zab rfl rfl (zaa rfl) (mv_s (.inr rfl) rfl) ?_
    refine zab rfl rfl (zaa rfl) (mv_s (.inr rfl) rfl) ?_
    refine zaj ?_
    repeat (first | refine zaf ?_ | refine zak ?_ | refine zad ?_ | refine zal ?_ | refine zac ?_)
    (refine zbd ?_; repeat (first | refine ath_r ?_ | refine abl_r ?_))
    rw [hF0]
    exact post3 (.inr rfl) rfl rfl rfl (.refl _) .nil (.refl _)
  by_cases hr2 : 2000 < most
  · rw [if_pos (.inr hr2)] at hF0
    refine zae ?_
    refine zab rfl rfl (zaa rfl) (mv_s (.inl rfl) rfl) ?_
    refine zab rfl rfl (zaa rfl) (dec_f hr1 (does_lss rfl rfl rfl)) ?_
    refine zab rfl rfl (zaa rfl) (mv_s (.inl rfl) rfl) ?_
    refine zab rfl rfl (zau rfl rfl rfl) (mv_s (.inl rfl) rfl) ?_
    refine zab rfl rfl (zau rfl rfl rfl) (dec_t hr2 (does_gtr rfl rfl rfl)) ?_
    refine zab rfl rfl (zaa rfl) (pickF_s rfl rfl rfl) ?_
    refine zab rfl rfl (zaa rfl) (mv_s (.inr rfl) rfl) ?_
    refine zaj ?_
    repeat (first | refine zaf ?_ | refine zak ?_ | refine zad ?_ | refine zal ?_ | refine zac ?_)
    refine aw_true rfl ?_
    repeat (first | refine zaf ?_ | refine zak ?_ | refine zad ?_ | refine zal ?_ | refine zac ?_)
    refine zae ?_
    refine zab rfl rfl (zaa rfl) (mv_s (.inr rfl) rfl) ?_
    refine zab rfl rfl (zaa rfl) (mv_s (.inr rfl) rfl) ?_
    refine zab rfl rfl (zaa rfl) (mv_s (.inr rfl) rfl) ?_
    refine zaj ?_
    repeat (first | refine zaf ?_ | refine zak ?_ | refine zad ?_ | refine zal ?_ | refine zac ?_)
    (refine zbd ?_; repeat (first | refine ath_r ?_ | refine abl_r ?_))
    rw [hF0]
    exact post3 (.inr rfl) rfl rfl rfl (.refl _) .nil (.refl _)
  rw [if_neg (by omega)] at hF0
  refine zae ?_
  refine zab rfl rfl (zaa rfl) (mv_s (.inl rfl) rfl) ?_
  refine zab rfl rfl (zaa rfl) (dec_f hr1 (does_lss rfl rfl rfl)) ?_
  refine zab rfl rfl (zaa rfl) (mv_s (.inl rfl) rfl) ?_
  refine zab rfl rfl (zau rfl rfl rfl) (mv_s (.inl rfl) rfl) ?_
  refine zab rfl rfl (zau rfl rfl rfl) (dec_f hr2 (does_gtr rfl rfl rfl)) ?_
  refine zab rfl rfl (zaa rfl) (pickF_s rfl rfl rfl) ?_
  refine zab rfl rfl (zaa rfl) (mv_s (.inr rfl) rfl) ?_
  refine zaj ?_
  repeat (first | refine zaf ?_ | refine zak ?_ | refine zad ?_ | refine zal ?_ | refine zac ?_)
  refine za6 rfl ?_
  repeat (first | refine zaf ?_ | refine zak ?_ | refine zad ?_ | refine zal ?_ | refine zac ?_)
  refine zae ?_
  refine zab rfl rfl (zaa rfl) (zas rfl ta24 ti24 rfl rfl) ?_
  refine zab rfl rfl (zaa rfl) (zav rfl rfl (hini) (zar rfl za0)) ?_
  refine zab rfl rfl (zaa rfl) (mv_tup (.inl rfl) rfl) ?_
  refine zab rfl rfl (zaa rfl) (zay rfl rfl rfl) ?_
  refine zab rfl rfl (zaa rfl) (zay rfl rfl rfl) ?_
  refine zab rfl rfl (zaa rfl) (mv_sl (.inr rfl) rfl) ?_
  refine zab rfl rfl (zaa rfl) (mv_s (.inr rfl) rfl) ?_
  refine zaj ?_
  repeat (first | refine zaf ?_ | refine zak ?_ | refine zad ?_ | refine zal ?_ | refine zac ?_)
  refine zae ?_
  refine zab rfl rfl (zaa rfl) (zas rfl ta24 ti24 rfl rfl) ?_
  refine zab rfl rfl (zaa rfl) (zav rfl rfl (hfin) (zar rfl za0)) ?_
  refine zab rfl rfl (zaa rfl) (mv_tup (.inl rfl) rfl) ?_
  refine zab rfl rfl (zaa rfl) (zay rfl rfl rfl) ?_
  refine zab rfl rfl (zaa rfl) (zay rfl rfl rfl) ?_
  refine zab rfl rfl (zaa rfl) (does_alloc rfl ti30 rfl rfl) ?_
  refine ops_eff rfl (zaa rfl) (za7 rfl ti30 rfl rfl rfl rfl rfl rfl (by decide) (by decide)) ?_
  refine zab rfl rfl (zaa rfl) (mv_s (.inr rfl) rfl) ?_
  refine zaj ?_
  repeat (first | refine zaf ?_ | refine zak ?_ | refine zad ?_ | refine zal ?_ | refine zac ?_)
  refine aw_weak (wk_froz (id := 2) rfl) (aw_weak (wk_ref (d := 11) rfl rfl rfl) ?_)
  refine zae ?_
  refine zab rfl rfl (zaa rfl) (does_func rfl rfl) ?_
  refine zab rfl rfl (zaa rfl) (mv_fn (.inr rfl) rfl) ?_
  refine zaj ?_
  repeat (first | refine zaf ?_ | refine zak ?_ | refine zad ?_ | refine zal ?_ | refine zac ?_)
  refine zae ?_
  refine zab rfl rfl (zaa rfl) (mv_sl (.inl rfl) rfl) ?_
  refine zab rfl rfl (zaa rfl) (does_build rfl ti86 tp86 rfl rfl) ?_
  refine zab rfl rfl (zaa rfl) (does_litA rfl ts88 ti86 rfl rfl (by decide) (by decide) rfl rfl rfl) ?_
  refine zab rfl rfl (zaa rfl) (mv_own (.inr rfl) rfl) ?_
  refine zaj ?_
  repeat (first | refine zaf ?_ | refine zak ?_ | refine zad ?_ | refine zal ?_ | refine zac ?_)
  refine aw_weak (wk_nilC (id := 3) (e' := eNd ⟨0, oneL n.places.toNat n.source, []⟩) (pre := [eI 0, eL eI (oneL n.places.toNat n.source)]) (post := []) rfl rfl rfl) ?_
  refine aw_weak (show Weak _ _ _ ((14, .own 0 3 1) :: (9, eL eI (oneL n.places.toNat n.source)) :: pfN n w most) [.row 3 [eNd ⟨0, oneL n.places.toNat n.source, []⟩]] from wk_st [3] (by decide) ⟨⟨_, rfl, .row 3 [eNd ⟨0, oneL n.places.toNat n.source, []⟩] (by repeat' (first | exact Lo.s _ | exact Lo.emp | exact Lo.any | exact zap | exact zao | refine zah ?_ ?_ | refine zai ?_ ?_ | refine zaq ?_ | refine zan ?_ | refine Lo.cells ?_ | refine Lo.agg _ ?_ | refine Lo.ref _ ?_ | refine Lo.tup _ ?_ | refine Lo.fn _ _ ?_ | refine Lo.sl _ ?_ | intro _))⟩, trivial⟩ ⟨.own 3 0 3 1 _ rfl rfl, .lo _ (by repeat' (first | exact Lo.s _ | exact Lo.emp | exact Lo.any | exact zap | exact zao | refine zah ?_ ?_ | refine zai ?_ ?_ | refine zaq ?_ | refine zan ?_ | refine Lo.cells ?_ | refine Lo.agg _ ?_ | refine Lo.ref _ ?_ | refine Lo.tup _ ?_ | refine Lo.fn _ _ ?_ | refine Lo.sl _ ?_ | intro _)), .lo _ (by repeat' (first | exact Lo.s _ | exact Lo.emp | exact Lo.any | exact zap | exact zao | refine zah ?_ ?_ | refine zai ?_ ?_ | refine zaq ?_ | refine zan ?_ | refine Lo.cells ?_ | refine Lo.agg _ ?_ | refine Lo.ref _ ?_ | refine Lo.tup _ ?_ | refine Lo.fn _ _ ?_ | refine Lo.sl _ ?_ | intro _)), .lo _ (by repeat' (first | exact Lo.s _ | exact Lo.emp | exact Lo.any | exact zap | exact zao | refine zah ?_ ?_ | refine zai ?_ ?_ | refine zaq ?_ | refine zan ?_ | refine Lo.cells ?_ | refine Lo.agg _ ?_ | refine Lo.ref _ ?_ | refine Lo.tup _ ?_ | refine Lo.fn _ _ ?_ | refine Lo.sl _ ?_ | intro _)), .lo _ (by repeat' (first | exact Lo.s _ | exact Lo.emp | exact Lo.any | exact zap | exact zao | refine zah ?_ ?_ | refine zai ?_ ?_ | refine zaq ?_ | refine zan ?_ | refine Lo.cells ?_ | refine Lo.agg _ ?_ | refine Lo.ref _ ?_ | refine Lo.tup _ ?_ | refine Lo.fn _ _ ?_ | refine Lo.sl _ ?_ | intro _)), .lo _ (by repeat' (first | exact Lo.s _ | exact Lo.emp | exact Lo.any | exact zap | exact zao | refine zah ?_ ?_ | refine zai ?_ ?_ | refine zaq ?_ | refine zan ?_ | refine Lo.cells ?_ | refine Lo.agg _ ?_ | refine Lo.ref _ ?_ | refine Lo.tup _ ?_ | refine Lo.fn _ _ ?_ | refine Lo.sl _ ?_ | intro _)), trivial⟩) ?_
  have HQ0 := QF.init w hval
  have hm0 : ∀ x ∈ (0 : Int) :: oneL n.places.toNat n.source, 0 ≤ x ∧ x ≤ 255 := qf_small HQ0 hl200 ⟨0, oneL n.places.toNat n.source, []⟩ (by simp)
  have hmk0 : markB n (oneL n.places.toNat n.source) = true := (HQ0.at_ 0 (by simp)).1
  have hml0 := markB_len hmk0
  obtain ⟨kb0, hky0, hks0, _, hput0⟩ := seen_key (P := P) (n := n) (w := w) (q := []) ⟨fun i hi => absurd hi (by simp)⟩ hl200 hm0 (by omega)
  refine zae ?_
  refine zab rfl rfl (zaa rfl) (does_mkmap rfl tm90) ?_
  refine zab rfl rfl (zaa rfl) (lit1_s rfl ts30 ti3 rfl rfl rfl rfl) ?_
  refine zab rfl rfl (zaa rfl) (mv_sl (.inl rfl) rfl) ?_
  refine zab rfl rfl (zaa rfl) (does_append rfl ts30 ti3 rfl (by decide) rfl rfl (by first | rfl | (simp; done) | (simp; omega)) rfl (by first | exact .own _ _ _ rfl rfl _ (by first | rfl | simp) | exact .emp | exact .nil | exact .sl _ (by first | simp; done | intro e he; simp at he; obtain ⟨_, _, rfl⟩ := he; rfl)) (by first | omega | (simp; omega) | (unfold maxLen; simp; omega)) (by first | omega | (simp; omega) | (unfold maxLen; simp; omega))) ?_
  refine za5 (wk_froz (id := 3) rfl) (za5 (wk_sl (d := 62) rfl rfl (by first | rfl | (simp; done) | (simp; omega))) ?_)
  refine zab rfl rfl (zaa rfl) (zav rfl rfl (hky0) (zar rfl za0)) ?_
  refine ops_eff rfl (zaa rfl) (does_mapput (.inr rfl) tm90 tK9 rfl rfl ⟨rfl, rfl, rfl⟩ (by (try dsimp only); unfold maxLen; omega) rfl rfl (keyOf_string_mk tn9 hks0) (plainElem_bool tn4 _)) ?_
  refine zab rfl rfl (zaa rfl) (mv_mp (.inl rfl) rfl) ?_
  refine zab rfl rfl (zaa rfl) (mv_mp (.inr rfl) rfl) ?_
  refine zaj ?_
  repeat (first | refine zaf ?_ | refine zak ?_ | refine zad ?_ | refine zal ?_ | refine zac ?_)
  refine zae ?_
  refine zab rfl rfl (zaa rfl) (mv_s (.inr rfl) rfl) ?_
  refine zaj ?_
  repeat (first | refine zaf ?_ | refine zak ?_ | refine zad ?_ | refine zal ?_ | refine zac ?_)
  refine aw_loops (S := List Nd × Nat) (fun s => pfF n w most s.1 s.2) (fun s => pfS P s.1) (fun s => s.2 ≤ s.1.length ∧ (s.1.length : Int) ≤ most ∧ QF n w s.1 ∧ FitsE n w most = srchF n w most (most.toNat + 1 - s.2) s.2 s.1) (fun s => most.toNat + 1 - s.2) ([⟨0, oneL n.places.toNat n.source, []⟩], 0)
    (wk_st [0, 1] (by decide) ⟨⟨_, rfl, .row 3 [eNd ⟨0, oneL n.places.toNat n.source, []⟩] (by repeat' (first | exact Lo.s _ | exact Lo.emp | exact Lo.any | exact zap | exact zao | refine zah ?_ ?_ | refine zai ?_ ?_ | refine zaq ?_ | refine zan ?_ | refine Lo.cells ?_ | refine Lo.agg _ ?_ | refine Lo.ref _ ?_ | refine Lo.tup _ ?_ | refine Lo.fn _ _ ?_ | refine Lo.sl _ ?_ | intro _))⟩, ⟨_, rfl, ObRn.mpE (Nat.le_refl _) (hput0 [])⟩, trivial⟩ ⟨.own 0 0 3 1 _ rfl rfl, .mp 1 1 rfl, .lo _ (by repeat' (first | exact Lo.s _ | exact Lo.emp | exact Lo.any | exact zap | exact zao | refine zah ?_ ?_ | refine zai ?_ ?_ | refine zaq ?_ | refine zan ?_ | refine Lo.cells ?_ | refine Lo.agg _ ?_ | refine Lo.ref _ ?_ | refine Lo.tup _ ?_ | refine Lo.fn _ _ ?_ | refine Lo.sl _ ?_ | intro _)), .lo _ (by repeat' (first | exact Lo.s _ | exact Lo.emp | exact Lo.any | exact zap | exact zao | refine zah ?_ ?_ | refine zai ?_ ?_ | refine zaq ?_ | refine zan ?_ | refine Lo.cells ?_ | refine Lo.agg _ ?_ | refine Lo.ref _ ?_ | refine Lo.tup _ ?_ | refine Lo.fn _ _ ?_ | refine Lo.sl _ ?_ | intro _)), .lo _ (by repeat' (first | exact Lo.s _ | exact Lo.emp | exact Lo.any | exact zap | exact zao | refine zah ?_ ?_ | refine zai ?_ ?_ | refine zaq ?_ | refine zan ?_ | refine Lo.cells ?_ | refine Lo.agg _ ?_ | refine Lo.ref _ ?_ | refine Lo.tup _ ?_ | refine Lo.fn _ _ ?_ | refine Lo.sl _ ?_ | intro _)), .lo _ (by repeat' (first | exact Lo.s _ | exact Lo.emp | exact Lo.any | exact zap | exact zao | refine zah ?_ ?_ | refine zai ?_ ?_ | refine zaq ?_ | refine zan ?_ | refine Lo.cells ?_ | refine Lo.agg _ ?_ | refine Lo.ref _ ?_ | refine Lo.tup _ ?_ | refine Lo.fn _ _ ?_ | refine Lo.sl _ ?_ | intro _)), .lo _ (by repeat' (first | exact Lo.s _ | exact Lo.emp | exact Lo.any | exact zap | exact zao | refine zah ?_ ?_ | refine zai ?_ ?_ | refine zaq ?_ | refine zan ?_ | refine Lo.cells ?_ | refine Lo.agg _ ?_ | refine Lo.ref _ ?_ | refine Lo.tup _ ?_ | refine Lo.fn _ _ ?_ | refine Lo.sl _ ?_ | intro _)), trivial⟩) ⟨by simp, by simp; omega, HQ0, hF0⟩ ?_
  rintro ⟨q, i⟩ ⟨hil, hql, HQ, HI⟩
  dsimp only at hil hql HQ HI ⊢
  repeat (first | refine zaf ?_ | refine zak ?_ | refine zad ?_ | refine zal ?_ | refine zac ?_)
  refine zae ?_
  refine zab rfl rfl (zaa rfl) (mv_s (.inl rfl) rfl) ?_
  refine zab rfl rfl (zaa rfl) (mv_own (.inl rfl) rfl) ?_
  refine zab rfl rfl (zaa rfl) (does_len_own rfl ts88 rfl) ?_
  refine zab rfl rfl (zaa rfl) (does_lss rfl rfl rfl) ?_
  refine zaj ?_
  repeat (first | refine zaf ?_ | refine zak ?_ | refine zad ?_ | refine zal ?_ | refine zac ?_)
  refine aw_if rfl (fun hlt => ?_) (fun hlt => ?_)
  rotate_left
  · have HE : FitsE n w most = (false, [], 0) := by
      rw [HI, show most.toNat + 1 - i = (most.toNat - i) + 1 by omega, srchF, if_neg (by omega), if_neg (by omega)]
    (refine aw_exit ?_; repeat (first | refine ath_x ?_ | refine abl_hit ?_ | refine abl_miss rfl ?_ | refine zal ?_ | refine zak ?_ | refine zaf ?_ | refine zad ?_ | refine zac ?_))
    refine zae ?_
    refine zab rfl rfl (zaa rfl) (mv_s (.inr rfl) rfl) ?_
    refine zab rfl rfl (zaa rfl) (mv_s (.inr rfl) rfl) ?_
    refine zab rfl rfl (zaa rfl) (mv_s (.inr rfl) rfl) ?_
    refine zaj ?_
    repeat (first | refine zaf ?_ | refine zak ?_ | refine zad ?_ | refine zal ?_ | refine zac ?_)
    (refine zbd ?_; repeat (first | refine ath_r ?_ | refine abl_r ?_))
    rw [HE]
    exact post3 (.inr rfl) rfl rfl rfl (.refl _) .nil (.refl _)
  replace hlt : i < q.length := by omega
  have hm : (i : Int) < most := by omega
  have HI1 : FitsE n w most = if doneF n w (gti q i) then (true, (gti q i).run, 0) else srchF n w most (most.toNat + 1 - (i + 1)) (i + 1) (roundF n w most (gti q i) q n.trans.length) := by
    rw [HI, show most.toNat + 1 - i = (most.toNat + 1 - (i + 1)) + 1 by omega, srchF, if_pos ⟨hlt, hm⟩]
  obtain ⟨hxm, hxk0, hxk1, hxr⟩ := HQ.at_ i hlt
  have hdn := done_pf (P := P) (gti q i) w (oneL n.places.toNat n.sink)
  obtain ⟨z, hz⟩ : ∃ z, doneF n w (gti q i) = z := ⟨_, rfl⟩
  have hz' := hz
  unfold doneF at hz'
  rw [hz'] at hdn
  rw [hz] at HI1
  repeat (first | refine zaf ?_ | refine zak ?_ | refine zad ?_ | refine zal ?_ | refine zac ?_)
  refine zae ?_
  refine zab rfl rfl (zaa rfl) (mv_own (.inl rfl) rfl) ?_
  refine zab rfl rfl (zaa rfl) (mv_s (.inl rfl) rfl) ?_
  refine zab rfl rfl (zaa rfl) (does_index_own rfl ts88 ti86 rfl rfl rfl (by omega)) ?_
  refine zab rfl rfl (zaa rfl) (does_load_whole rfl ta86 ti86 rfl rfl rfl (ix_map hlt) rfl) ?_
  refine zab rfl rfl (zaa rfl) (does_alloc rfl ti86 rfl rfl) ?_
  refine ops_eff rfl (zaa rfl) (za7 rfl ti86 rfl rfl rfl rfl rfl rfl (by decide) (by decide)) ?_
  refine zaj ?_
  repeat (first | refine zaf ?_ | refine zak ?_ | refine zad ?_ | refine zal ?_ | refine zac ?_)
  refine aw_weak (wk_froz (id := 2) rfl) (aw_weak (wk_ref (d := 17) rfl rfl rfl) ?_)
  refine zae ?_
  refine zab rfl rfl (zaa rfl) (mv_fn (.inl rfl) rfl) ?_
  refine zab rfl rfl (zaa rfl) (zas rfl ta86 ti86 rfl rfl) ?_
  refine zab rfl rfl (zaa rfl) (zav rfl rfl (hdn) (zar rfl za0)) ?_
  refine zaj ?_
  repeat (first | refine zaf ?_ | refine zak ?_ | refine zad ?_ | refine zal ?_ | refine zac ?_)
  refine aw_cond rfl (fun hzt => ?_) (fun hzf => ?_)
  · subst hzt
    rw [if_pos rfl] at HI1
    repeat (first | refine zaf ?_ | refine zak ?_ | refine zad ?_ | refine zal ?_ | refine zac ?_)
    refine aw_draw hmix ?_
    refine adraw_quiet (by kernel_rfl) ?_
    refine zba rfl rfl (zaa rfl) (zag rfl tf86_2 (by decide) rfl) ?_
    refine zba rfl rfl (zaa rfl) (zam rfl ta30 rfl) ?_
    refine zba rfl rfl (zaa rfl) (mv_s (.inr rfl) rfl) ?_
    refine zba rfl rfl (zaa rfl) (mv_sl (.inr rfl) rfl) ?_
    refine zba rfl rfl (zaa rfl) (mv_s (.inr rfl) rfl) ?_
    refine qx_nil ?_
    repeat (first | refine zaf ?_ | refine zak ?_ | refine zad ?_ | refine zal ?_ | refine zac ?_)
    (refine zbd ?_; repeat (first | refine ath_r ?_ | refine abl_r ?_))
    rw [HI1]
    exact post3 (.inr rfl) rfl rfl rfl (.refl _) (.refl _) (.refl _)
  subst hzf
  rw [if_neg (by simp)] at HI1
  repeat (first | refine zaf ?_ | refine zak ?_ | refine zad ?_ | refine zal ?_ | refine zac ?_)
  refine zae ?_
  refine zab rfl rfl (zaa rfl) (zag rfl tf24_1 (by decide) rfl) ?_
  refine zab rfl rfl (zaa rfl) (zam rfl ta22 rfl) ?_
  refine zab rfl rfl (zaa rfl) (za2 rfl ts22 rfl) ?_
  refine zab rfl rfl (zaa rfl) (mv_s (.inl rfl) rfl) ?_
  refine zaj ?_
  repeat (first | refine zaf ?_ | refine zak ?_ | refine zad ?_ | refine zal ?_ | refine zac ?_)
  refine aw_loops (S := Nat) (fun k => (17, .ref (eNd (gti q i)).cells) :: (81, eL eT n.trans) :: (82, eI n.trans.length) :: (83, eI k) :: pfF n w most (roundF n w most (gti q i) q k) i) (fun k => pfS P (roundF n w most (gti q i) q k)) (fun k => k ≤ n.trans.length ∧ ((roundF n w most (gti q i) q k).length : Int) ≤ most) (fun k => n.trans.length - k) 0
    (wk_st [0, 1] (by decide) ⟨⟨_, rfl, .rowE (by repeat' (first | exact Lo.s _ | exact Lo.emp | exact Lo.any | exact zap | exact zao | refine zah ?_ ?_ | refine zai ?_ ?_ | refine zaq ?_ | refine zan ?_ | refine Lo.cells ?_ | refine Lo.agg _ ?_ | refine Lo.ref _ ?_ | refine Lo.tup _ ?_ | refine Lo.fn _ _ ?_ | refine Lo.sl _ ?_ | intro _)) rfl⟩, ⟨_, rfl, ObRn.mpE (Nat.le_refl _) rfl⟩, trivial⟩ ⟨.lo _ (by repeat' (first | exact Lo.s _ | exact Lo.emp | exact Lo.any | exact zap | exact zao | refine zah ?_ ?_ | refine zai ?_ ?_ | refine zaq ?_ | refine zan ?_ | refine Lo.cells ?_ | refine Lo.agg _ ?_ | refine Lo.ref _ ?_ | refine Lo.tup _ ?_ | refine Lo.fn _ _ ?_ | refine Lo.sl _ ?_ | intro _)), .lo _ (by repeat' (first | exact Lo.s _ | exact Lo.emp | exact Lo.any | exact zap | exact zao | refine zah ?_ ?_ | refine zai ?_ ?_ | refine zaq ?_ | refine zan ?_ | refine Lo.cells ?_ | refine Lo.agg _ ?_ | refine Lo.ref _ ?_ | refine Lo.tup _ ?_ | refine Lo.fn _ _ ?_ | refine Lo.sl _ ?_ | intro _)), .lo _ (by repeat' (first | exact Lo.s _ | exact Lo.emp | exact Lo.any | exact zap | exact zao | refine zah ?_ ?_ | refine zai ?_ ?_ | refine zaq ?_ | refine zan ?_ | refine Lo.cells ?_ | refine Lo.agg _ ?_ | refine Lo.ref _ ?_ | refine Lo.tup _ ?_ | refine Lo.fn _ _ ?_ | refine Lo.sl _ ?_ | intro _)), .lo _ (by repeat' (first | exact Lo.s _ | exact Lo.emp | exact Lo.any | exact zap | exact zao | refine zah ?_ ?_ | refine zai ?_ ?_ | refine zaq ?_ | refine zan ?_ | refine Lo.cells ?_ | refine Lo.agg _ ?_ | refine Lo.ref _ ?_ | refine Lo.tup _ ?_ | refine Lo.fn _ _ ?_ | refine Lo.sl _ ?_ | intro _)), .own 0 0 3 _ _ rfl rfl, .mp 1 1 rfl, .lo _ (by repeat' (first | exact Lo.s _ | exact Lo.emp | exact Lo.any | exact zap | exact zao | refine zah ?_ ?_ | refine zai ?_ ?_ | refine zaq ?_ | refine zan ?_ | refine Lo.cells ?_ | refine Lo.agg _ ?_ | refine Lo.ref _ ?_ | refine Lo.tup _ ?_ | refine Lo.fn _ _ ?_ | refine Lo.sl _ ?_ | intro _)), .lo _ (by repeat' (first | exact Lo.s _ | exact Lo.emp | exact Lo.any | exact zap | exact zao | refine zah ?_ ?_ | refine zai ?_ ?_ | refine zaq ?_ | refine zan ?_ | refine Lo.cells ?_ | refine Lo.agg _ ?_ | refine Lo.ref _ ?_ | refine Lo.tup _ ?_ | refine Lo.fn _ _ ?_ | refine Lo.sl _ ?_ | intro _)), .lo _ (by repeat' (first | exact Lo.s _ | exact Lo.emp | exact Lo.any | exact zap | exact zao | refine zah ?_ ?_ | refine zai ?_ ?_ | refine zaq ?_ | refine zan ?_ | refine Lo.cells ?_ | refine Lo.agg _ ?_ | refine Lo.ref _ ?_ | refine Lo.tup _ ?_ | refine Lo.fn _ _ ?_ | refine Lo.sl _ ?_ | intro _)), .lo _ (by repeat' (first | exact Lo.s _ | exact Lo.emp | exact Lo.any | exact zap | exact zao | refine zah ?_ ?_ | refine zai ?_ ?_ | refine zaq ?_ | refine zan ?_ | refine Lo.cells ?_ | refine Lo.agg _ ?_ | refine Lo.ref _ ?_ | refine Lo.tup _ ?_ | refine Lo.fn _ _ ?_ | refine Lo.sl _ ?_ | intro _)), .lo _ (by repeat' (first | exact Lo.s _ | exact Lo.emp | exact Lo.any | exact zap | exact zao | refine zah ?_ ?_ | refine zai ?_ ?_ | refine zaq ?_ | refine zan ?_ | refine Lo.cells ?_ | refine Lo.agg _ ?_ | refine Lo.ref _ ?_ | refine Lo.tup _ ?_ | refine Lo.fn _ _ ?_ | refine Lo.sl _ ?_ | intro _)), trivial⟩) ⟨Nat.zero_le _, hql⟩ (fun k hk => ?_)
  obtain ⟨hk, hkl⟩ := hk
  have hQk := HQ.round (most := most) hlt k
  have hqg := roundF_ge n w most (gti q i) q k
  have hqx : gti (roundF n w most (gti q i) q k) i = gti q i := roundF_at hlt k
  have hstep : roundF n w most (gti q i) q (k + 1) = stepF n w (gti q i) (roundF n w most (gti q i) q k) k := if_pos hkl
  have hstop : most < ((roundF n w most (gti q i) q (k + 1)).length : Int) → k + 1 ≤ n.trans.length → roundF n w most (gti q i) q n.trans.length = roundF n w most (gti q i) q (k + 1) := fun h h2 => by
    have := roundF_stop h (n.trans.length - (k + 1))
    rwa [show k + 1 + (n.trans.length - (k + 1)) = n.trans.length by omega] at this
  have hQT := HQ.round (most := most) hlt n.trans.length
  have hend : k = n.trans.length → roundF n w most (gti q i) q n.trans.length = roundF n w most (gti q i) q k := fun h => by rw [h]
  have hgeT := roundF_ge n w most (gti q i) q n.trans.length
  generalize hqk : roundF n w most (gti q i) q k = qk at *
  generalize hqT : roundF n w most (gti q i) q n.trans.length = qT at *
  generalize hqS : roundF n w most (gti q i) q (k + 1) = qS at *
  have hi2 : i < qk.length := by omega
  have hrun := (hQk.at_ i hi2).2.2.2
  rw [hqx] at hrun
  repeat (first | refine zaf ?_ | refine zak ?_ | refine zad ?_ | refine zal ?_ | refine zac ?_)
  refine zae ?_
  refine zab rfl rfl (zaa rfl) (does_lss rfl rfl rfl) ?_
  refine zaj ?_
  repeat (first | refine zaf ?_ | refine zak ?_ | refine zad ?_ | refine zal ?_ | refine zac ?_)
  refine aw_if rfl (fun hkt => ?_) (fun hkt => ?_)
  rotate_left
  · have hT := hend (by omega)
    (refine aw_exit ?_; repeat (first | refine ath_x ?_ | refine abl_hit ?_ | refine abl_miss rfl ?_ | refine zal ?_ | refine zak ?_ | refine zaf ?_ | refine zad ?_ | refine zac ?_))
    refine zae ?_
    refine zab rfl rfl (zaa rfl) (mv_s (.inl rfl) rfl) ?_
    refine zab rfl rfl (zaa rfl) (does_add rfl rfl rfl (IntWalk.i64_in _ (by omega))) ?_
    refine zab rfl rfl (zaa rfl) (mv_s (.inr rfl) rfl) ?_
    refine zaj ?_
    repeat (first | refine zaf ?_ | refine zak ?_ | refine zad ?_ | refine zal ?_ | refine zac ?_)
    rw [hT] at hQT HI1
    exact ⟨(qk, i + 1), ⟨by dsimp only; omega, hkl, hQT, HI1⟩, by dsimp only; omega, wk_sub _ ⟨rfl, rfl, rfl, rfl, rfl, rfl, rfl, trivial⟩⟩
  replace hkt : k < n.trans.length := by omega
  repeat (first | refine zaf ?_ | refine zak ?_ | refine zad ?_ | refine zal ?_ | refine zac ?_)
  refine zae ?_
  refine zab rfl rfl (zaa rfl) (mv_s (.inl rfl) rfl) ?_
  refine zab rfl rfl (zaa rfl) (za1 rfl ts22 ti46 rfl rfl rfl (ix_map (by omega)) rfl) ?_
  refine zab rfl rfl (zaa rfl) (zas rfl ta46 ti46 rfl rfl) ?_
  refine zab rfl rfl (zaa rfl) (does_alloc rfl ti46 rfl rfl) ?_
  refine zab rfl rfl (zaa rfl) (mv_s (.inr rfl) rfl) ?_
  refine ops_eff rfl (zaa rfl) (za7 rfl ti46 rfl rfl rfl rfl rfl rfl (by decide) (by decide)) ?_
  refine zaj ?_
  repeat (first | refine zaf ?_ | refine zak ?_ | refine zad ?_ | refine zal ?_ | refine zac ?_)
  refine aw_weak (wk_froz (id := 2) rfl) (aw_weak (wk_ref (d := 19) rfl rfl rfl) ?_)
  refine zae ?_
  refine zab rfl rfl (zaa rfl) (zag rfl tf86_0 (by decide) rfl) ?_
  refine zab rfl rfl (zaa rfl) (zam rfl ta3 rfl) ?_
  refine zab rfl rfl (zaa rfl) (mv_s (.inr rfl) rfl) ?_
  refine zaj ?_
  repeat (first | refine zaf ?_ | refine zak ?_ | refine zad ?_ | refine zal ?_ | refine zac ?_)
  have hlk : lblK n w (gti q i) k = if (gti n.trans k).label = eBA then some (gti q i).k else if (w.length : Int) ≤ (gti q i).k ∨ gti w (gti q i).k.toNat ≠ (gti n.trans k).label then none else some ((gti q i).k + 1) := rfl
  have hSn : lblK n w (gti q i) k = none → qS = qk := by
    intro h
    rw [hstep]; unfold stepF; rw [h]
  have hSs : ∀ kk, lblK n w (gti q i) k = some kk → qS = if (FireE n (gti q i).m k).2 ≠ 0 ∨ (kk, (FireE n (gti q i).m k).1) ∈ qk.map nkey then qk else qk ++ [⟨kk, (FireE n (gti q i).m k).1, (gti q i).run ++ [(k : Int)]⟩] := by
    intro kk h
    rw [hstep]; unfold stepF; rw [h]
  have hkk0 : ∀ kk, lblK n w (gti q i) k = some kk → 0 ≤ kk ∧ kk ≤ w.length := by
    intro kk h
    rw [hlk] at h
    split at h
    · cases h; omega
    · split at h
      · cases h
      · rename_i h2; rw [not_or] at h2; cases h; omega
  generalize hxkk : (gti q i).k = xk at *
  obtain ⟨kn, hkn⟩ : ∃ kn : Nat, xk = kn := ⟨xk.toNat, by omega⟩
  refine zae ?_
  refine zab rfl rfl (zaa rfl) (zag rfl tf46_0 (by decide) rfl) ?_
  refine zab rfl rfl (zaa rfl) (zam rfl ta9 rfl) ?_
  refine zab rfl rfl (zaa rfl) (does_nes rfl rfl rfl) ?_
  refine zaj ?_
  repeat (first | refine zaf ?_ | refine zak ?_ | refine zad ?_ | refine zal ?_ | refine zac ?_)
  refine aw_cuts (S := Int) (fun kk => (18, eI k) :: (20, eI kk) :: (17, .ref (eNd (gti q i)).cells) :: (81, eL eT n.trans) :: (82, eI n.trans.length) :: (83, eI k) :: pfF n w most qk i) (fun _ => pfS P qk) (fun kk => lblK n w (gti q i) k = some kk) ?_ ?_
  · refine aw_if rfl (fun hlab => ?_) (fun hlab => ?_)
    rotate_left
    · have hlab2 : (gti n.trans k).label = eBA := Decidable.not_not.1 hlab
      rw [if_pos hlab2] at hlk
      repeat (first | refine zaf ?_ | refine zak ?_ | refine zad ?_ | refine zal ?_ | refine zac ?_)
      refine ⟨xk, hlk, ?_⟩
      exact wk_st [0, 1] (by decide) ⟨⟨_, rfl, .rowE (by repeat' (first | exact Lo.s _ | exact Lo.emp | exact Lo.any | exact zap | exact zao | refine zah ?_ ?_ | refine zai ?_ ?_ | refine zaq ?_ | refine zan ?_ | refine Lo.cells ?_ | refine Lo.agg _ ?_ | refine Lo.ref _ ?_ | refine Lo.tup _ ?_ | refine Lo.fn _ _ ?_ | refine Lo.sl _ ?_ | intro _)) rfl⟩, ⟨_, rfl, ObRn.mpE (Nat.le_refl _) rfl⟩, trivial⟩ ⟨.lo _ (by repeat' (first | exact Lo.s _ | exact Lo.emp | exact Lo.any | exact zap | exact zao | refine zah ?_ ?_ | refine zai ?_ ?_ | refine zaq ?_ | refine zan ?_ | refine Lo.cells ?_ | refine Lo.agg _ ?_ | refine Lo.ref _ ?_ | refine Lo.tup _ ?_ | refine Lo.fn _ _ ?_ | refine Lo.sl _ ?_ | intro _)), .lo _ (by repeat' (first | exact Lo.s _ | exact Lo.emp | exact Lo.any | exact zap | exact zao | refine zah ?_ ?_ | refine zai ?_ ?_ | refine zaq ?_ | refine zan ?_ | refine Lo.cells ?_ | refine Lo.agg _ ?_ | refine Lo.ref _ ?_ | refine Lo.tup _ ?_ | refine Lo.fn _ _ ?_ | refine Lo.sl _ ?_ | intro _)), .lo _ (by repeat' (first | exact Lo.s _ | exact Lo.emp | exact Lo.any | exact zap | exact zao | refine zah ?_ ?_ | refine zai ?_ ?_ | refine zaq ?_ | refine zan ?_ | refine Lo.cells ?_ | refine Lo.agg _ ?_ | refine Lo.ref _ ?_ | refine Lo.tup _ ?_ | refine Lo.fn _ _ ?_ | refine Lo.sl _ ?_ | intro _)), .lo _ (by repeat' (first | exact Lo.s _ | exact Lo.emp | exact Lo.any | exact zap | exact zao | refine zah ?_ ?_ | refine zai ?_ ?_ | refine zaq ?_ | refine zan ?_ | refine Lo.cells ?_ | refine Lo.agg _ ?_ | refine Lo.ref _ ?_ | refine Lo.tup _ ?_ | refine Lo.fn _ _ ?_ | refine Lo.sl _ ?_ | intro _)), .lo _ (by repeat' (first | exact Lo.s _ | exact Lo.emp | exact Lo.any | exact zap | exact zao | refine zah ?_ ?_ | refine zai ?_ ?_ | refine zaq ?_ | refine zan ?_ | refine Lo.cells ?_ | refine Lo.agg _ ?_ | refine Lo.ref _ ?_ | refine Lo.tup _ ?_ | refine Lo.fn _ _ ?_ | refine Lo.sl _ ?_ | intro _)), .lo _ (by repeat' (first | exact Lo.s _ | exact Lo.emp | exact Lo.any | exact zap | exact zao | refine zah ?_ ?_ | refine zai ?_ ?_ | refine zaq ?_ | refine zan ?_ | refine Lo.cells ?_ | refine Lo.agg _ ?_ | refine Lo.ref _ ?_ | refine Lo.tup _ ?_ | refine Lo.fn _ _ ?_ | refine Lo.sl _ ?_ | intro _)), .own 0 0 3 _ _ rfl rfl, .mp 1 1 rfl, .lo _ (by repeat' (first | exact Lo.s _ | exact Lo.emp | exact Lo.any | exact zap | exact zao | refine zah ?_ ?_ | refine zai ?_ ?_ | refine zaq ?_ | refine zan ?_ | refine Lo.cells ?_ | refine Lo.agg _ ?_ | refine Lo.ref _ ?_ | refine Lo.tup _ ?_ | refine Lo.fn _ _ ?_ | refine Lo.sl _ ?_ | intro _)), .lo _ (by repeat' (first | exact Lo.s _ | exact Lo.emp | exact Lo.any | exact zap | exact zao | refine zah ?_ ?_ | refine zai ?_ ?_ | refine zaq ?_ | refine zan ?_ | refine Lo.cells ?_ | refine Lo.agg _ ?_ | refine Lo.ref _ ?_ | refine Lo.tup _ ?_ | refine Lo.fn _ _ ?_ | refine Lo.sl _ ?_ | intro _)), .lo _ (by repeat' (first | exact Lo.s _ | exact Lo.emp | exact Lo.any | exact zap | exact zao | refine zah ?_ ?_ | refine zai ?_ ?_ | refine zaq ?_ | refine zan ?_ | refine Lo.cells ?_ | refine Lo.agg _ ?_ | refine Lo.ref _ ?_ | refine Lo.tup _ ?_ | refine Lo.fn _ _ ?_ | refine Lo.sl _ ?_ | intro _)), .lo _ (by repeat' (first | exact Lo.s _ | exact Lo.emp | exact Lo.any | exact zap | exact zao | refine zah ?_ ?_ | refine zai ?_ ?_ | refine zaq ?_ | refine zan ?_ | refine Lo.cells ?_ | refine Lo.agg _ ?_ | refine Lo.ref _ ?_ | refine Lo.tup _ ?_ | refine Lo.fn _ _ ?_ | refine Lo.sl _ ?_ | intro _)), .lo _ (by repeat' (first | exact Lo.s _ | exact Lo.emp | exact Lo.any | exact zap | exact zao | refine zah ?_ ?_ | refine zai ?_ ?_ | refine zaq ?_ | refine zan ?_ | refine Lo.cells ?_ | refine Lo.agg _ ?_ | refine Lo.ref _ ?_ | refine Lo.tup _ ?_ | refine Lo.fn _ _ ?_ | refine Lo.sl _ ?_ | intro _)), trivial⟩
    · rw [if_neg hlab] at hlk
      repeat (first | refine zaf ?_ | refine zak ?_ | refine zad ?_ | refine zal ?_ | refine zac ?_)
      by_cases hke : xk = (w.length : Int)
      · rw [if_pos (.inl (by omega))] at hlk
        have hSq := hSn hlk
        refine aw_draw hmix ?_
        refine adraw_quiet (by kernel_rfl) ?_
        refine zba rfl rfl (zaa rfl) (mv_s (.inl rfl) rfl) ?_
        refine zba rfl rfl (zaa rfl) (zam rfl ta25 rfl) ?_
        refine zba rfl rfl (zaa rfl) (za2 rfl ts25 rfl) ?_
        refine zba rfl rfl (zaa rfl) (dec_t hke (does_eql rfl rfl rfl)) ?_
        refine zba rfl rfl (zaa rfl) (mv_s (.inl rfl) rfl) ?_
        refine qx_skip rfl rfl (za4 rfl rfl rfl) ?_
        refine qx_skip rfl rfl (za4 rfl rfl rfl) ?_
        refine qx_skip rfl rfl (za4 rfl rfl rfl) ?_
        refine qx_skip rfl rfl (za4 rfl rfl rfl) ?_
        refine qx_skip rfl rfl (za4 rfl rfl rfl) ?_
        refine qx_skip rfl rfl (za4 rfl rfl rfl) ?_
        refine qx_skip rfl rfl (za4 rfl rfl rfl) ?_
        refine zba rfl rfl (zaa rfl) (pickT_s rfl rfl rfl) ?_
        refine qx_nil ?_
        repeat (first | refine zaf ?_ | refine zak ?_ | refine zad ?_ | refine zal ?_ | refine zac ?_)
        refine aw_true rfl ?_
        (refine aw_exit ?_; repeat (first | refine ath_x ?_ | refine abl_hit ?_ | refine abl_miss rfl ?_ | refine zal ?_ | refine zak ?_ | refine zaf ?_ | refine zad ?_ | refine zac ?_))
        refine zae ?_
        refine zab rfl rfl (zaa rfl) (does_add rfl rfl rfl (IntWalk.i64_in _ (by omega))) ?_
        refine zab rfl rfl (zaa rfl) (mv_s (.inl rfl) rfl) ?_
        refine zaj ?_
        repeat (first | refine zaf ?_ | refine zak ?_ | refine zad ?_ | refine zal ?_ | refine zac ?_)
        refine ⟨k + 1, ⟨hkt, by rw [hqS, hSq]; exact hkl⟩, by omega, ?_⟩
        rw [hqS, hSq]
        exact wk_st [0, 1] (by decide) ⟨⟨_, rfl, .rowE (by repeat' (first | exact Lo.s _ | exact Lo.emp | exact Lo.any | exact zap | exact zao | refine zah ?_ ?_ | refine zai ?_ ?_ | refine zaq ?_ | refine zan ?_ | refine Lo.cells ?_ | refine Lo.agg _ ?_ | refine Lo.ref _ ?_ | refine Lo.tup _ ?_ | refine Lo.fn _ _ ?_ | refine Lo.sl _ ?_ | intro _)) rfl⟩, ⟨_, rfl, ObRn.mpE (Nat.le_refl _) rfl⟩, trivial⟩ ⟨.lo _ (by repeat' (first | exact Lo.s _ | exact Lo.emp | exact Lo.any | exact zap | exact zao | refine zah ?_ ?_ | refine zai ?_ ?_ | refine zaq ?_ | refine zan ?_ | refine Lo.cells ?_ | refine Lo.agg _ ?_ | refine Lo.ref _ ?_ | refine Lo.tup _ ?_ | refine Lo.fn _ _ ?_ | refine Lo.sl _ ?_ | intro _)), .lo _ (by repeat' (first | exact Lo.s _ | exact Lo.emp | exact Lo.any | exact zap | exact zao | refine zah ?_ ?_ | refine zai ?_ ?_ | refine zaq ?_ | refine zan ?_ | refine Lo.cells ?_ | refine Lo.agg _ ?_ | refine Lo.ref _ ?_ | refine Lo.tup _ ?_ | refine Lo.fn _ _ ?_ | refine Lo.sl _ ?_ | intro _)), .lo _ (by repeat' (first | exact Lo.s _ | exact Lo.emp | exact Lo.any | exact zap | exact zao | refine zah ?_ ?_ | refine zai ?_ ?_ | refine zaq ?_ | refine zan ?_ | refine Lo.cells ?_ | refine Lo.agg _ ?_ | refine Lo.ref _ ?_ | refine Lo.tup _ ?_ | refine Lo.fn _ _ ?_ | refine Lo.sl _ ?_ | intro _)), .lo _ (by repeat' (first | exact Lo.s _ | exact Lo.emp | exact Lo.any | exact zap | exact zao | refine zah ?_ ?_ | refine zai ?_ ?_ | refine zaq ?_ | refine zan ?_ | refine Lo.cells ?_ | refine Lo.agg _ ?_ | refine Lo.ref _ ?_ | refine Lo.tup _ ?_ | refine Lo.fn _ _ ?_ | refine Lo.sl _ ?_ | intro _)), .own 0 0 3 _ _ rfl rfl, .mp 1 1 rfl, .lo _ (by repeat' (first | exact Lo.s _ | exact Lo.emp | exact Lo.any | exact zap | exact zao | refine zah ?_ ?_ | refine zai ?_ ?_ | refine zaq ?_ | refine zan ?_ | refine Lo.cells ?_ | refine Lo.agg _ ?_ | refine Lo.ref _ ?_ | refine Lo.tup _ ?_ | refine Lo.fn _ _ ?_ | refine Lo.sl _ ?_ | intro _)), .lo _ (by repeat' (first | exact Lo.s _ | exact Lo.emp | exact Lo.any | exact zap | exact zao | refine zah ?_ ?_ | refine zai ?_ ?_ | refine zaq ?_ | refine zan ?_ | refine Lo.cells ?_ | refine Lo.agg _ ?_ | refine Lo.ref _ ?_ | refine Lo.tup _ ?_ | refine Lo.fn _ _ ?_ | refine Lo.sl _ ?_ | intro _)), .lo _ (by repeat' (first | exact Lo.s _ | exact Lo.emp | exact Lo.any | exact zap | exact zao | refine zah ?_ ?_ | refine zai ?_ ?_ | refine zaq ?_ | refine zan ?_ | refine Lo.cells ?_ | refine Lo.agg _ ?_ | refine Lo.ref _ ?_ | refine Lo.tup _ ?_ | refine Lo.fn _ _ ?_ | refine Lo.sl _ ?_ | intro _)), .lo _ (by repeat' (first | exact Lo.s _ | exact Lo.emp | exact Lo.any | exact zap | exact zao | refine zah ?_ ?_ | refine zai ?_ ?_ | refine zaq ?_ | refine zan ?_ | refine Lo.cells ?_ | refine Lo.agg _ ?_ | refine Lo.ref _ ?_ | refine Lo.tup _ ?_ | refine Lo.fn _ _ ?_ | refine Lo.sl _ ?_ | intro _)), .lo _ (by repeat' (first | exact Lo.s _ | exact Lo.emp | exact Lo.any | exact zap | exact zao | refine zah ?_ ?_ | refine zai ?_ ?_ | refine zaq ?_ | refine zan ?_ | refine Lo.cells ?_ | refine Lo.agg _ ?_ | refine Lo.ref _ ?_ | refine Lo.tup _ ?_ | refine Lo.fn _ _ ?_ | refine Lo.sl _ ?_ | intro _)), trivial⟩
      · have hkw : kn < w.length := by omega
        by_cases hwl : gti w kn = (gti n.trans k).label
        · rw [if_neg (by rw [not_or, hkn, Int.toNat_natCast]; exact ⟨by omega, fun h => h hwl⟩)] at hlk
          refine aw_draw hmix ?_
          refine adraw_quiet (by kernel_rfl) ?_
          refine zba rfl rfl (zaa rfl) (mv_s (.inl rfl) rfl) ?_
          refine zba rfl rfl (zaa rfl) (zam rfl ta25 rfl) ?_
          refine zba rfl rfl (zaa rfl) (za2 rfl ts25 rfl) ?_
          refine zba rfl rfl (zaa rfl) (dec_f hke (does_eql rfl rfl rfl)) ?_
          refine zba rfl rfl (zaa rfl) (mv_s (.inl rfl) rfl) ?_
          refine zba rfl rfl (zau rfl rfl rfl) (zam rfl ta25 rfl) ?_
          refine zba rfl rfl (zau rfl rfl rfl) (mv_s (.inl rfl) rfl) ?_
          refine zba rfl rfl (zau rfl rfl rfl) (za1 rfl ts25 ti9 rfl rfl hkn (ix_map hkw) rfl) ?_
          refine zba rfl rfl (zau rfl rfl rfl) (zam rfl ta9 rfl) ?_
          refine zba rfl rfl (zau rfl rfl rfl) (zag rfl tf46_0 (by decide) rfl) ?_
          refine zba rfl rfl (zau rfl rfl rfl) (zam rfl ta9 rfl) ?_
          refine zba rfl rfl (zau rfl rfl rfl) (dec_f (fun h => h hwl) (does_nes rfl rfl rfl)) ?_
          refine zba rfl rfl (zaa rfl) (pickF_s rfl rfl rfl) ?_
          refine qx_nil ?_
          repeat (first | refine zaf ?_ | refine zak ?_ | refine zad ?_ | refine zal ?_ | refine zac ?_)
          refine za6 rfl ?_
          repeat (first | refine zaf ?_ | refine zak ?_ | refine zad ?_ | refine zal ?_ | refine zac ?_)
          refine zae ?_
          refine zab rfl rfl (zaa rfl) (mv_s (.inl rfl) rfl) ?_
          refine zab rfl rfl (zaa rfl) (does_add rfl rfl rfl (IntWalk.i64_in _ (by omega))) ?_
          refine zab rfl rfl (zaa rfl) (mv_s (.inr rfl) rfl) ?_
          refine zaj ?_
          repeat (first | refine zaf ?_ | refine zak ?_ | refine zad ?_ | refine zal ?_ | refine zac ?_)
          refine ⟨xk + 1, hlk, ?_⟩
          exact wk_st [0, 1] (by decide) ⟨⟨_, rfl, .rowE (by repeat' (first | exact Lo.s _ | exact Lo.emp | exact Lo.any | exact zap | exact zao | refine zah ?_ ?_ | refine zai ?_ ?_ | refine zaq ?_ | refine zan ?_ | refine Lo.cells ?_ | refine Lo.agg _ ?_ | refine Lo.ref _ ?_ | refine Lo.tup _ ?_ | refine Lo.fn _ _ ?_ | refine Lo.sl _ ?_ | intro _)) rfl⟩, ⟨_, rfl, ObRn.mpE (Nat.le_refl _) rfl⟩, trivial⟩ ⟨.lo _ (by repeat' (first | exact Lo.s _ | exact Lo.emp | exact Lo.any | exact zap | exact zao | refine zah ?_ ?_ | refine zai ?_ ?_ | refine zaq ?_ | refine zan ?_ | refine Lo.cells ?_ | refine Lo.agg _ ?_ | refine Lo.ref _ ?_ | refine Lo.tup _ ?_ | refine Lo.fn _ _ ?_ | refine Lo.sl _ ?_ | intro _)), .lo _ (by repeat' (first | exact Lo.s _ | exact Lo.emp | exact Lo.any | exact zap | exact zao | refine zah ?_ ?_ | refine zai ?_ ?_ | refine zaq ?_ | refine zan ?_ | refine Lo.cells ?_ | refine Lo.agg _ ?_ | refine Lo.ref _ ?_ | refine Lo.tup _ ?_ | refine Lo.fn _ _ ?_ | refine Lo.sl _ ?_ | intro _)), .lo _ (by repeat' (first | exact Lo.s _ | exact Lo.emp | exact Lo.any | exact zap | exact zao | refine zah ?_ ?_ | refine zai ?_ ?_ | refine zaq ?_ | refine zan ?_ | refine Lo.cells ?_ | refine Lo.agg _ ?_ | refine Lo.ref _ ?_ | refine Lo.tup _ ?_ | refine Lo.fn _ _ ?_ | refine Lo.sl _ ?_ | intro _)), .lo _ (by repeat' (first | exact Lo.s _ | exact Lo.emp | exact Lo.any | exact zap | exact zao | refine zah ?_ ?_ | refine zai ?_ ?_ | refine zaq ?_ | refine zan ?_ | refine Lo.cells ?_ | refine Lo.agg _ ?_ | refine Lo.ref _ ?_ | refine Lo.tup _ ?_ | refine Lo.fn _ _ ?_ | refine Lo.sl _ ?_ | intro _)), .lo _ (by repeat' (first | exact Lo.s _ | exact Lo.emp | exact Lo.any | exact zap | exact zao | refine zah ?_ ?_ | refine zai ?_ ?_ | refine zaq ?_ | refine zan ?_ | refine Lo.cells ?_ | refine Lo.agg _ ?_ | refine Lo.ref _ ?_ | refine Lo.tup _ ?_ | refine Lo.fn _ _ ?_ | refine Lo.sl _ ?_ | intro _)), .lo _ (by repeat' (first | exact Lo.s _ | exact Lo.emp | exact Lo.any | exact zap | exact zao | refine zah ?_ ?_ | refine zai ?_ ?_ | refine zaq ?_ | refine zan ?_ | refine Lo.cells ?_ | refine Lo.agg _ ?_ | refine Lo.ref _ ?_ | refine Lo.tup _ ?_ | refine Lo.fn _ _ ?_ | refine Lo.sl _ ?_ | intro _)), .own 0 0 3 _ _ rfl rfl, .mp 1 1 rfl, .lo _ (by repeat' (first | exact Lo.s _ | exact Lo.emp | exact Lo.any | exact zap | exact zao | refine zah ?_ ?_ | refine zai ?_ ?_ | refine zaq ?_ | refine zan ?_ | refine Lo.cells ?_ | refine Lo.agg _ ?_ | refine Lo.ref _ ?_ | refine Lo.tup _ ?_ | refine Lo.fn _ _ ?_ | refine Lo.sl _ ?_ | intro _)), .lo _ (by repeat' (first | exact Lo.s _ | exact Lo.emp | exact Lo.any | exact zap | exact zao | refine zah ?_ ?_ | refine zai ?_ ?_ | refine zaq ?_ | refine zan ?_ | refine Lo.cells ?_ | refine Lo.agg _ ?_ | refine Lo.ref _ ?_ | refine Lo.tup _ ?_ | refine Lo.fn _ _ ?_ | refine Lo.sl _ ?_ | intro _)), .lo _ (by repeat' (first | exact Lo.s _ | exact Lo.emp | exact Lo.any | exact zap | exact zao | refine zah ?_ ?_ | refine zai ?_ ?_ | refine zaq ?_ | refine zan ?_ | refine Lo.cells ?_ | refine Lo.agg _ ?_ | refine Lo.ref _ ?_ | refine Lo.tup _ ?_ | refine Lo.fn _ _ ?_ | refine Lo.sl _ ?_ | intro _)), .lo _ (by repeat' (first | exact Lo.s _ | exact Lo.emp | exact Lo.any | exact zap | exact zao | refine zah ?_ ?_ | refine zai ?_ ?_ | refine zaq ?_ | refine zan ?_ | refine Lo.cells ?_ | refine Lo.agg _ ?_ | refine Lo.ref _ ?_ | refine Lo.tup _ ?_ | refine Lo.fn _ _ ?_ | refine Lo.sl _ ?_ | intro _)), .lo _ (by repeat' (first | exact Lo.s _ | exact Lo.emp | exact Lo.any | exact zap | exact zao | refine zah ?_ ?_ | refine zai ?_ ?_ | refine zaq ?_ | refine zan ?_ | refine Lo.cells ?_ | refine Lo.agg _ ?_ | refine Lo.ref _ ?_ | refine Lo.tup _ ?_ | refine Lo.fn _ _ ?_ | refine Lo.sl _ ?_ | intro _)), trivial⟩
        · rw [if_pos (.inr (by rw [hkn, Int.toNat_natCast]; exact hwl))] at hlk
          have hSq := hSn hlk
          refine aw_draw hmix ?_
          refine adraw_quiet (by kernel_rfl) ?_
          refine zba rfl rfl (zaa rfl) (mv_s (.inl rfl) rfl) ?_
          refine zba rfl rfl (zaa rfl) (zam rfl ta25 rfl) ?_
          refine zba rfl rfl (zaa rfl) (za2 rfl ts25 rfl) ?_
          refine zba rfl rfl (zaa rfl) (dec_f hke (does_eql rfl rfl rfl)) ?_
          refine zba rfl rfl (zaa rfl) (mv_s (.inl rfl) rfl) ?_
          refine zba rfl rfl (zau rfl rfl rfl) (zam rfl ta25 rfl) ?_
          refine zba rfl rfl (zau rfl rfl rfl) (mv_s (.inl rfl) rfl) ?_
          refine zba rfl rfl (zau rfl rfl rfl) (za1 rfl ts25 ti9 rfl rfl hkn (ix_map hkw) rfl) ?_
          refine zba rfl rfl (zau rfl rfl rfl) (zam rfl ta9 rfl) ?_
          refine zba rfl rfl (zau rfl rfl rfl) (zag rfl tf46_0 (by decide) rfl) ?_
          refine zba rfl rfl (zau rfl rfl rfl) (zam rfl ta9 rfl) ?_
          refine zba rfl rfl (zau rfl rfl rfl) (dec_t hwl (does_nes rfl rfl rfl)) ?_
          refine zba rfl rfl (zaa rfl) (pickF_s rfl rfl rfl) ?_
          refine qx_nil ?_
          repeat (first | refine zaf ?_ | refine zak ?_ | refine zad ?_ | refine zal ?_ | refine zac ?_)
          refine aw_true rfl ?_
          (refine aw_exit ?_; repeat (first | refine ath_x ?_ | refine abl_hit ?_ | refine abl_miss rfl ?_ | refine zal ?_ | refine zak ?_ | refine zaf ?_ | refine zad ?_ | refine zac ?_))
          refine zae ?_
          refine zab rfl rfl (zaa rfl) (does_add rfl rfl rfl (IntWalk.i64_in _ (by omega))) ?_
          refine zab rfl rfl (zaa rfl) (mv_s (.inl rfl) rfl) ?_
          refine zaj ?_
          repeat (first | refine zaf ?_ | refine zak ?_ | refine zad ?_ | refine zal ?_ | refine zac ?_)
          refine ⟨k + 1, ⟨hkt, by rw [hqS, hSq]; exact hkl⟩, by omega, ?_⟩
          rw [hqS, hSq]
          exact wk_st [0, 1] (by decide) ⟨⟨_, rfl, .rowE (by repeat' (first | exact Lo.s _ | exact Lo.emp | exact Lo.any | exact zap | exact zao | refine zah ?_ ?_ | refine zai ?_ ?_ | refine zaq ?_ | refine zan ?_ | refine Lo.cells ?_ | refine Lo.agg _ ?_ | refine Lo.ref _ ?_ | refine Lo.tup _ ?_ | refine Lo.fn _ _ ?_ | refine Lo.sl _ ?_ | intro _)) rfl⟩, ⟨_, rfl, ObRn.mpE (Nat.le_refl _) rfl⟩, trivial⟩ ⟨.lo _ (by repeat' (first | exact Lo.s _ | exact Lo.emp | exact Lo.any | exact zap | exact zao | refine zah ?_ ?_ | refine zai ?_ ?_ | refine zaq ?_ | refine zan ?_ | refine Lo.cells ?_ | refine Lo.agg _ ?_ | refine Lo.ref _ ?_ | refine Lo.tup _ ?_ | refine Lo.fn _ _ ?_ | refine Lo.sl _ ?_ | intro _)), .lo _ (by repeat' (first | exact Lo.s _ | exact Lo.emp | exact Lo.any | exact zap | exact zao | refine zah ?_ ?_ | refine zai ?_ ?_ | refine zaq ?_ | refine zan ?_ | refine Lo.cells ?_ | refine Lo.agg _ ?_ | refine Lo.ref _ ?_ | refine Lo.tup _ ?_ | refine Lo.fn _ _ ?_ | refine Lo.sl _ ?_ | intro _)), .lo _ (by repeat' (first | exact Lo.s _ | exact Lo.emp | exact Lo.any | exact zap | exact zao | refine zah ?_ ?_ | refine zai ?_ ?_ | refine zaq ?_ | refine zan ?_ | refine Lo.cells ?_ | refine Lo.agg _ ?_ | refine Lo.ref _ ?_ | refine Lo.tup _ ?_ | refine Lo.fn _ _ ?_ | refine Lo.sl _ ?_ | intro _)), .lo _ (by repeat' (first | exact Lo.s _ | exact Lo.emp | exact Lo.any | exact zap | exact zao | refine zah ?_ ?_ | refine zai ?_ ?_ | refine zaq ?_ | refine zan ?_ | refine Lo.cells ?_ | refine Lo.agg _ ?_ | refine Lo.ref _ ?_ | refine Lo.tup _ ?_ | refine Lo.fn _ _ ?_ | refine Lo.sl _ ?_ | intro _)), .own 0 0 3 _ _ rfl rfl, .mp 1 1 rfl, .lo _ (by repeat' (first | exact Lo.s _ | exact Lo.emp | exact Lo.any | exact zap | exact zao | refine zah ?_ ?_ | refine zai ?_ ?_ | refine zaq ?_ | refine zan ?_ | refine Lo.cells ?_ | refine Lo.agg _ ?_ | refine Lo.ref _ ?_ | refine Lo.tup _ ?_ | refine Lo.fn _ _ ?_ | refine Lo.sl _ ?_ | intro _)), .lo _ (by repeat' (first | exact Lo.s _ | exact Lo.emp | exact Lo.any | exact zap | exact zao | refine zah ?_ ?_ | refine zai ?_ ?_ | refine zaq ?_ | refine zan ?_ | refine Lo.cells ?_ | refine Lo.agg _ ?_ | refine Lo.ref _ ?_ | refine Lo.tup _ ?_ | refine Lo.fn _ _ ?_ | refine Lo.sl _ ?_ | intro _)), .lo _ (by repeat' (first | exact Lo.s _ | exact Lo.emp | exact Lo.any | exact zap | exact zao | refine zah ?_ ?_ | refine zai ?_ ?_ | refine zaq ?_ | refine zan ?_ | refine Lo.cells ?_ | refine Lo.agg _ ?_ | refine Lo.ref _ ?_ | refine Lo.tup _ ?_ | refine Lo.fn _ _ ?_ | refine Lo.sl _ ?_ | intro _)), .lo _ (by repeat' (first | exact Lo.s _ | exact Lo.emp | exact Lo.any | exact zap | exact zao | refine zah ?_ ?_ | refine zai ?_ ?_ | refine zaq ?_ | refine zan ?_ | refine Lo.cells ?_ | refine Lo.agg _ ?_ | refine Lo.ref _ ?_ | refine Lo.tup _ ?_ | refine Lo.fn _ _ ?_ | refine Lo.sl _ ?_ | intro _)), .lo _ (by repeat' (first | exact Lo.s _ | exact Lo.emp | exact Lo.any | exact zap | exact zao | refine zah ?_ ?_ | refine zai ?_ ?_ | refine zaq ?_ | refine zan ?_ | refine Lo.cells ?_ | refine Lo.agg _ ?_ | refine Lo.ref _ ?_ | refine Lo.tup _ ?_ | refine Lo.fn _ _ ?_ | refine Lo.sl _ ?_ | intro _)), trivial⟩
  intro kk hkk
  have hSS := hSs kk hkk
  have hkb := hkk0 kk hkk
  have hfire := Fire_pf (P := P) n (gti q i).m k
  have hpsame : ∀ {x : Nd}, gti qk i = x → True := fun _ => trivial
  have hfm : (FireE n (gti q i).m k).2 = 0 → markB n (FireE n (gti q i).m k).1 = true := fun h => FireE_mark hxm h
  generalize hfe : FireE n (gti q i).m k = fe at *
  repeat (first | refine zaf ?_ | refine zak ?_ | refine zad ?_ | refine zal ?_ | refine zac ?_)
  refine zae ?_
  refine zab rfl rfl (zaa rfl) (zas rfl ta24 ti24 rfl rfl) ?_
  refine zab rfl rfl (zaa rfl) (zag rfl tf86_1 (by decide) rfl) ?_
  refine zab rfl rfl (zaa rfl) (zam rfl ta30 rfl) ?_
  refine zab rfl rfl (zaa rfl) (mv_s (.inl rfl) rfl) ?_
  refine zab rfl rfl (zaa rfl) (zav rfl rfl (hfire) (zar rfl (zar rfl (zar rfl za0)))) ?_
  refine zab rfl rfl (zaa rfl) (mv_tup (.inl rfl) rfl) ?_
  refine zab rfl rfl (zaa rfl) (zay rfl rfl rfl) ?_
  refine zab rfl rfl (zaa rfl) (zay rfl rfl rfl) ?_
  refine zab rfl rfl (zaa rfl) (mv_sl (.inr rfl) rfl) ?_
  refine zab rfl rfl (zaa rfl) (mv_s (.inr rfl) rfl) ?_
  refine zaj ?_
  repeat (first | refine zaf ?_ | refine zak ?_ | refine zad ?_ | refine zal ?_ | refine zac ?_)
  by_cases hf0 : fe.2 = 0
  rotate_left
  · rw [if_pos (.inl hf0)] at hSS
    refine zae ?_
    refine zab rfl rfl (zaa rfl) (mv_s (.inl rfl) rfl) ?_
    refine zab rfl rfl (zaa rfl) (dec_t hf0 (does_neq rfl rfl rfl)) ?_
    refine zab rfl rfl (zaa rfl) (mv_s (.inl rfl) rfl) ?_
    refine zaw rfl rfl (za4 rfl rfl rfl) ?_
    refine zaw rfl rfl (za4 rfl rfl rfl) ?_
    refine zaw rfl rfl (za4 rfl rfl rfl) ?_
    refine zaw rfl rfl (za4 rfl rfl rfl) ?_
    refine zaw rfl rfl (za4 rfl rfl rfl) ?_
    refine zaw rfl rfl (za4 rfl rfl rfl) ?_
    refine zaw rfl rfl (za4 rfl rfl rfl) ?_
    refine zab rfl rfl (zaa rfl) (pickT_s rfl rfl rfl) ?_
    refine zaj ?_
    repeat (first | refine zaf ?_ | refine zak ?_ | refine zad ?_ | refine zal ?_ | refine zac ?_)
    refine aw_true rfl ?_
    (refine aw_exit ?_; repeat (first | refine ath_x ?_ | refine abl_hit ?_ | refine abl_miss rfl ?_ | refine zal ?_ | refine zak ?_ | refine zaf ?_ | refine zad ?_ | refine zac ?_))
    refine zae ?_
    refine zab rfl rfl (zaa rfl) (does_add rfl rfl rfl (IntWalk.i64_in _ (by omega))) ?_
    refine zab rfl rfl (zaa rfl) (mv_s (.inl rfl) rfl) ?_
    refine zaj ?_
    repeat (first | refine zaf ?_ | refine zak ?_ | refine zad ?_ | refine zal ?_ | refine zac ?_)
    refine ⟨k + 1, ⟨hkt, by rw [hqS, hSS]; exact hkl⟩, by omega, ?_⟩
    rw [hqS, hSS]
    exact wk_sub _ ⟨rfl, rfl, rfl, rfl, rfl, rfl, rfl, rfl, rfl, rfl, rfl, trivial⟩
  have hfmk := hfm hf0
  have hfml := markB_len hfmk
  have hm1 : ∀ x ∈ kk :: fe.1, 0 ≤ x ∧ x ≤ 255 := by
    intro x hx
    rcases List.mem_cons.1 hx with rfl | hx
    · omega
    · exact markB_small hfmk x hx
  obtain ⟨kb1, hky1, hks1, hlook, hput1⟩ := seen_key (P := P) hQk hl200 hm1 (by omega)
  by_cases hmem : (kk, fe.1) ∈ qk.map nkey
  · rw [if_pos (.inr hmem)] at hSS
    rw [decide_eq_true hmem] at hlook
    refine zae ?_
    refine zab rfl rfl (zaa rfl) (mv_s (.inl rfl) rfl) ?_
    refine zab rfl rfl (zaa rfl) (dec_f (fun h => h hf0) (does_neq rfl rfl rfl)) ?_
    refine zab rfl rfl (zaa rfl) (mv_s (.inl rfl) rfl) ?_
    refine zab rfl rfl (zau rfl rfl rfl) (mv_mp (.inl rfl) rfl) ?_
    refine zab rfl rfl (zau rfl rfl rfl) (mv_s (.inl rfl) rfl) ?_
    refine zab rfl rfl (zau rfl rfl rfl) (lit1_s rfl ts30 ti3 rfl rfl rfl rfl) ?_
    refine zab rfl rfl (zau rfl rfl rfl) (mv_sl (.inl rfl) rfl) ?_
    refine zab rfl rfl (zau rfl rfl rfl) (does_append rfl ts30 ti3 rfl (by decide) rfl rfl (by first | rfl | (simp; done) | (simp; omega)) rfl (by first | exact .own _ _ _ rfl rfl _ (by first | rfl | simp) | exact .emp | exact .nil | exact .sl _ (by first | simp; done | intro e he; simp at he; obtain ⟨_, _, rfl⟩ := he; rfl)) (by first | omega | (simp; omega) | (unfold maxLen; simp; omega)) (by first | omega | (simp; omega) | (unfold maxLen; simp; omega))) ?_
    refine za5 (wk_froz (id := 3) rfl) (za5 (wk_sl (d := 123) rfl rfl (by first | rfl | (simp; done) | (simp; omega))) ?_)
    refine zab rfl rfl (zau rfl rfl rfl) (zav rfl rfl (hky1) (zar rfl za0)) ?_
    refine zab rfl rfl (zau rfl rfl rfl) (does_lookup rfl tm90 tK9 rfl rfl ⟨rfl, rfl, rfl⟩ rfl (keyOf_string_mk tn9 hks1) ti4 (plainElem_bool tn4 _) hlook) ?_
    refine zab rfl rfl (zaa rfl) (pickF_s rfl rfl rfl) ?_
    refine zaj ?_
    repeat (first | refine zaf ?_ | refine zak ?_ | refine zad ?_ | refine zal ?_ | refine zac ?_)
    refine aw_true rfl ?_
    (refine aw_exit ?_; repeat (first | refine ath_x ?_ | refine abl_hit ?_ | refine abl_miss rfl ?_ | refine zal ?_ | refine zak ?_ | refine zaf ?_ | refine zad ?_ | refine zac ?_))
    refine zae ?_
    refine zab rfl rfl (zaa rfl) (does_add rfl rfl rfl (IntWalk.i64_in _ (by omega))) ?_
    refine zab rfl rfl (zaa rfl) (mv_s (.inl rfl) rfl) ?_
    refine zaj ?_
    repeat (first | refine zaf ?_ | refine zak ?_ | refine zad ?_ | refine zal ?_ | refine zac ?_)
    refine ⟨k + 1, ⟨hkt, by rw [hqS, hSS]; exact hkl⟩, by omega, ?_⟩
    rw [hqS, hSS]
    exact wk_st [0, 1] (by decide) ⟨⟨_, rfl, .rowE (by repeat' (first | exact Lo.s _ | exact Lo.emp | exact Lo.any | exact zap | exact zao | refine zah ?_ ?_ | refine zai ?_ ?_ | refine zaq ?_ | refine zan ?_ | refine Lo.cells ?_ | refine Lo.agg _ ?_ | refine Lo.ref _ ?_ | refine Lo.tup _ ?_ | refine Lo.fn _ _ ?_ | refine Lo.sl _ ?_ | intro _)) rfl⟩, ⟨_, rfl, ObRn.mpE (Nat.le_refl _) rfl⟩, trivial⟩ ⟨.lo _ (by repeat' (first | exact Lo.s _ | exact Lo.emp | exact Lo.any | exact zap | exact zao | refine zah ?_ ?_ | refine zai ?_ ?_ | refine zaq ?_ | refine zan ?_ | refine Lo.cells ?_ | refine Lo.agg _ ?_ | refine Lo.ref _ ?_ | refine Lo.tup _ ?_ | refine Lo.fn _ _ ?_ | refine Lo.sl _ ?_ | intro _)), .lo _ (by repeat' (first | exact Lo.s _ | exact Lo.emp | exact Lo.any | exact zap | exact zao | refine zah ?_ ?_ | refine zai ?_ ?_ | refine zaq ?_ | refine zan ?_ | refine Lo.cells ?_ | refine Lo.agg _ ?_ | refine Lo.ref _ ?_ | refine Lo.tup _ ?_ | refine Lo.fn _ _ ?_ | refine Lo.sl _ ?_ | intro _)), .lo _ (by repeat' (first | exact Lo.s _ | exact Lo.emp | exact Lo.any | exact zap | exact zao | refine zah ?_ ?_ | refine zai ?_ ?_ | refine zaq ?_ | refine zan ?_ | refine Lo.cells ?_ | refine Lo.agg _ ?_ | refine Lo.ref _ ?_ | refine Lo.tup _ ?_ | refine Lo.fn _ _ ?_ | refine Lo.sl _ ?_ | intro _)), .lo _ (by repeat' (first | exact Lo.s _ | exact Lo.emp | exact Lo.any | exact zap | exact zao | refine zah ?_ ?_ | refine zai ?_ ?_ | refine zaq ?_ | refine zan ?_ | refine Lo.cells ?_ | refine Lo.agg _ ?_ | refine Lo.ref _ ?_ | refine Lo.tup _ ?_ | refine Lo.fn _ _ ?_ | refine Lo.sl _ ?_ | intro _)), .own 0 0 3 _ _ rfl rfl, .mp 1 1 rfl, .lo _ (by repeat' (first | exact Lo.s _ | exact Lo.emp | exact Lo.any | exact zap | exact zao | refine zah ?_ ?_ | refine zai ?_ ?_ | refine zaq ?_ | refine zan ?_ | refine Lo.cells ?_ | refine Lo.agg _ ?_ | refine Lo.ref _ ?_ | refine Lo.tup _ ?_ | refine Lo.fn _ _ ?_ | refine Lo.sl _ ?_ | intro _)), .lo _ (by repeat' (first | exact Lo.s _ | exact Lo.emp | exact Lo.any | exact zap | exact zao | refine zah ?_ ?_ | refine zai ?_ ?_ | refine zaq ?_ | refine zan ?_ | refine Lo.cells ?_ | refine Lo.agg _ ?_ | refine Lo.ref _ ?_ | refine Lo.tup _ ?_ | refine Lo.fn _ _ ?_ | refine Lo.sl _ ?_ | intro _)), .lo _ (by repeat' (first | exact Lo.s _ | exact Lo.emp | exact Lo.any | exact zap | exact zao | refine zah ?_ ?_ | refine zai ?_ ?_ | refine zaq ?_ | refine zan ?_ | refine Lo.cells ?_ | refine Lo.agg _ ?_ | refine Lo.ref _ ?_ | refine Lo.tup _ ?_ | refine Lo.fn _ _ ?_ | refine Lo.sl _ ?_ | intro _)), .lo _ (by repeat' (first | exact Lo.s _ | exact Lo.emp | exact Lo.any | exact zap | exact zao | refine zah ?_ ?_ | refine zai ?_ ?_ | refine zaq ?_ | refine zan ?_ | refine Lo.cells ?_ | refine Lo.agg _ ?_ | refine Lo.ref _ ?_ | refine Lo.tup _ ?_ | refine Lo.fn _ _ ?_ | refine Lo.sl _ ?_ | intro _)), .lo _ (by repeat' (first | exact Lo.s _ | exact Lo.emp | exact Lo.any | exact zap | exact zao | refine zah ?_ ?_ | refine zai ?_ ?_ | refine zaq ?_ | refine zan ?_ | refine Lo.cells ?_ | refine Lo.agg _ ?_ | refine Lo.ref _ ?_ | refine Lo.tup _ ?_ | refine Lo.fn _ _ ?_ | refine Lo.sl _ ?_ | intro _)), trivial⟩
  rw [if_neg (by rw [not_or]; exact ⟨fun h => h hf0, hmem⟩)] at hSS
  rw [decide_eq_false hmem] at hlook
  refine zae ?_
  refine zab rfl rfl (zaa rfl) (mv_s (.inl rfl) rfl) ?_
  refine zab rfl rfl (zaa rfl) (dec_f (fun h => h hf0) (does_neq rfl rfl rfl)) ?_
  refine zab rfl rfl (zaa rfl) (mv_s (.inl rfl) rfl) ?_
  refine zab rfl rfl (zau rfl rfl rfl) (mv_mp (.inl rfl) rfl) ?_
  refine zab rfl rfl (zau rfl rfl rfl) (mv_s (.inl rfl) rfl) ?_
  refine zab rfl rfl (zau rfl rfl rfl) (lit1_s rfl ts30 ti3 rfl rfl rfl rfl) ?_
  refine zab rfl rfl (zau rfl rfl rfl) (mv_sl (.inl rfl) rfl) ?_
  refine zab rfl rfl (zau rfl rfl rfl) (does_append rfl ts30 ti3 rfl (by decide) rfl rfl (by first | rfl | (simp; done) | (simp; omega)) rfl (by first | exact .own _ _ _ rfl rfl _ (by first | rfl | simp) | exact .emp | exact .nil | exact .sl _ (by first | simp; done | intro e he; simp at he; obtain ⟨_, _, rfl⟩ := he; rfl)) (by first | omega | (simp; omega) | (unfold maxLen; simp; omega)) (by first | omega | (simp; omega) | (unfold maxLen; simp; omega))) ?_
  refine za5 (wk_froz (id := 3) rfl) (za5 (wk_sl (d := 123) rfl rfl (by first | rfl | (simp; done) | (simp; omega))) ?_)
  refine zab rfl rfl (zau rfl rfl rfl) (zav rfl rfl (hky1) (zar rfl za0)) ?_
  refine zab rfl rfl (zau rfl rfl rfl) (does_lookup rfl tm90 tK9 rfl rfl ⟨rfl, rfl, rfl⟩ rfl (keyOf_string_mk tn9 hks1) ti4 (plainElem_bool tn4 _) hlook) ?_
  refine zab rfl rfl (zaa rfl) (pickF_s rfl rfl rfl) ?_
  refine zaj ?_
  repeat (first | refine zaf ?_ | refine zak ?_ | refine zad ?_ | refine zal ?_ | refine zac ?_)
  refine za6 rfl ?_
  refine aw_weak (show Weak _ _ _ ((18, eI k) :: (20, eI kk) :: (21, eL eI fe.1) :: (17, .ref (eNd (gti q i)).cells) :: (81, eL eT n.trans) :: (82, eI n.trans.length) :: (83, eI k) :: pfF n w most qk i) (pfS P qk) from wk_st [0, 1] (by decide) ⟨⟨_, rfl, .rowE (by repeat' (first | exact Lo.s _ | exact Lo.emp | exact Lo.any | exact zap | exact zao | refine zah ?_ ?_ | refine zai ?_ ?_ | refine zaq ?_ | refine zan ?_ | refine Lo.cells ?_ | refine Lo.agg _ ?_ | refine Lo.ref _ ?_ | refine Lo.tup _ ?_ | refine Lo.fn _ _ ?_ | refine Lo.sl _ ?_ | intro _)) rfl⟩, ⟨_, rfl, ObRn.mpE (Nat.le_refl _) rfl⟩, trivial⟩ ⟨.lo _ (by repeat' (first | exact Lo.s _ | exact Lo.emp | exact Lo.any | exact zap | exact zao | refine zah ?_ ?_ | refine zai ?_ ?_ | refine zaq ?_ | refine zan ?_ | refine Lo.cells ?_ | refine Lo.agg _ ?_ | refine Lo.ref _ ?_ | refine Lo.tup _ ?_ | refine Lo.fn _ _ ?_ | refine Lo.sl _ ?_ | intro _)), .lo _ (by repeat' (first | exact Lo.s _ | exact Lo.emp | exact Lo.any | exact zap | exact zao | refine zah ?_ ?_ | refine zai ?_ ?_ | refine zaq ?_ | refine zan ?_ | refine Lo.cells ?_ | refine Lo.agg _ ?_ | refine Lo.ref _ ?_ | refine Lo.tup _ ?_ | refine Lo.fn _ _ ?_ | refine Lo.sl _ ?_ | intro _)), .lo _ (by repeat' (first | exact Lo.s _ | exact Lo.emp | exact Lo.any | exact zap | exact zao | refine zah ?_ ?_ | refine zai ?_ ?_ | refine zaq ?_ | refine zan ?_ | refine Lo.cells ?_ | refine Lo.agg _ ?_ | refine Lo.ref _ ?_ | refine Lo.tup _ ?_ | refine Lo.fn _ _ ?_ | refine Lo.sl _ ?_ | intro _)), .lo _ (by repeat' (first | exact Lo.s _ | exact Lo.emp | exact Lo.any | exact zap | exact zao | refine zah ?_ ?_ | refine zai ?_ ?_ | refine zaq ?_ | refine zan ?_ | refine Lo.cells ?_ | refine Lo.agg _ ?_ | refine Lo.ref _ ?_ | refine Lo.tup _ ?_ | refine Lo.fn _ _ ?_ | refine Lo.sl _ ?_ | intro _)), .lo _ (by repeat' (first | exact Lo.s _ | exact Lo.emp | exact Lo.any | exact zap | exact zao | refine zah ?_ ?_ | refine zai ?_ ?_ | refine zaq ?_ | refine zan ?_ | refine Lo.cells ?_ | refine Lo.agg _ ?_ | refine Lo.ref _ ?_ | refine Lo.tup _ ?_ | refine Lo.fn _ _ ?_ | refine Lo.sl _ ?_ | intro _)), .lo _ (by repeat' (first | exact Lo.s _ | exact Lo.emp | exact Lo.any | exact zap | exact zao | refine zah ?_ ?_ | refine zai ?_ ?_ | refine zaq ?_ | refine zan ?_ | refine Lo.cells ?_ | refine Lo.agg _ ?_ | refine Lo.ref _ ?_ | refine Lo.tup _ ?_ | refine Lo.fn _ _ ?_ | refine Lo.sl _ ?_ | intro _)), .lo _ (by repeat' (first | exact Lo.s _ | exact Lo.emp | exact Lo.any | exact zap | exact zao | refine zah ?_ ?_ | refine zai ?_ ?_ | refine zaq ?_ | refine zan ?_ | refine Lo.cells ?_ | refine Lo.agg _ ?_ | refine Lo.ref _ ?_ | refine Lo.tup _ ?_ | refine Lo.fn _ _ ?_ | refine Lo.sl _ ?_ | intro _)), .own 0 0 3 _ _ rfl rfl, .mp 1 1 rfl, .lo _ (by repeat' (first | exact Lo.s _ | exact Lo.emp | exact Lo.any | exact zap | exact zao | refine zah ?_ ?_ | refine zai ?_ ?_ | refine zaq ?_ | refine zan ?_ | refine Lo.cells ?_ | refine Lo.agg _ ?_ | refine Lo.ref _ ?_ | refine Lo.tup _ ?_ | refine Lo.fn _ _ ?_ | refine Lo.sl _ ?_ | intro _)), .lo _ (by repeat' (first | exact Lo.s _ | exact Lo.emp | exact Lo.any | exact zap | exact zao | refine zah ?_ ?_ | refine zai ?_ ?_ | refine zaq ?_ | refine zan ?_ | refine Lo.cells ?_ | refine Lo.agg _ ?_ | refine Lo.ref _ ?_ | refine Lo.tup _ ?_ | refine Lo.fn _ _ ?_ | refine Lo.sl _ ?_ | intro _)), .lo _ (by repeat' (first | exact Lo.s _ | exact Lo.emp | exact Lo.any | exact zap | exact zao | refine zah ?_ ?_ | refine zai ?_ ?_ | refine zaq ?_ | refine zan ?_ | refine Lo.cells ?_ | refine Lo.agg _ ?_ | refine Lo.ref _ ?_ | refine Lo.tup _ ?_ | refine Lo.fn _ _ ?_ | refine Lo.sl _ ?_ | intro _)), .lo _ (by repeat' (first | exact Lo.s _ | exact Lo.emp | exact Lo.any | exact zap | exact zao | refine zah ?_ ?_ | refine zai ?_ ?_ | refine zaq ?_ | refine zan ?_ | refine Lo.cells ?_ | refine Lo.agg _ ?_ | refine Lo.ref _ ?_ | refine Lo.tup _ ?_ | refine Lo.fn _ _ ?_ | refine Lo.sl _ ?_ | intro _)), .lo _ (by repeat' (first | exact Lo.s _ | exact Lo.emp | exact Lo.any | exact zap | exact zao | refine zah ?_ ?_ | refine zai ?_ ?_ | refine zaq ?_ | refine zan ?_ | refine Lo.cells ?_ | refine Lo.agg _ ?_ | refine Lo.ref _ ?_ | refine Lo.tup _ ?_ | refine Lo.fn _ _ ?_ | refine Lo.sl _ ?_ | intro _)), trivial⟩) ?_
  repeat (first | refine zaf ?_ | refine zak ?_ | refine zad ?_ | refine zal ?_ | refine zac ?_)
  by_cases hfull : (qk.length : Int) = most
  · skip
    refine zae ?_
    refine zab rfl rfl (zaa rfl) (mv_own (.inl rfl) rfl) ?_
    refine zab rfl rfl (zaa rfl) (does_len_own rfl ts88 rfl) ?_
    refine zab rfl rfl (zaa rfl) (mv_s (.inl rfl) rfl) ?_
    refine zab rfl rfl (zaa rfl) (dec_t hfull (does_eql rfl rfl rfl)) ?_
    refine zaj ?_
    repeat (first | refine zaf ?_ | refine zak ?_ | refine zad ?_ | refine zal ?_ | refine zac ?_)
    refine aw_true rfl ?_
    have hT := hstop (by rw [hSS]; simp; omega) hkt
    have HO : FitsE n w most = match (qk.drop i).find? (doneF n w) with | some y => (true, y.run, 0) | none => (false, [], 13) := by
      rw [HI1, hT, hSS, srch_over (by simp; omega) _ _ (by omega) (by omega)]
      have e1 : (qk ++ [(⟨kk, fe.1, (gti q i).run ++ [(k : Int)]⟩ : Nd)]).take most.toNat = qk := by
        rw [show most.toNat = qk.length by omega, List.take_left']
        rfl
      rw [e1, drop_gti hi2, List.find?_cons, hqx, hz]
      rfl
    repeat (first | refine zaf ?_ | refine zak ?_ | refine zad ?_ | refine zal ?_ | refine zac ?_)
    refine aw_weak (wk_froz (id := 0) rfl) (aw_weak (wk_sl (d := 14) rfl rfl (by simp)) ?_)
    refine zae ?_
    refine zab rfl rfl (zaa rfl) (mv_sl (.inl rfl) rfl) ?_
    refine zab rfl rfl (zaa rfl) (mv_s (.inl rfl) rfl) ?_
    refine zab rfl rfl (zaa rfl) (does_slice_l rfl ts88 ti86 rfl rfl rfl (by simp; omega) (by intro e he; simp at he; obtain ⟨_, _, rfl⟩ := he; rfl)) ?_
    refine zab rfl rfl (zaa rfl) (does_len_sl rfl ts88 rfl) ?_
    refine zab rfl rfl (zaa rfl) (mv_s (.inl rfl) rfl) ?_
    refine zaj ?_
    repeat (first | refine zaf ?_ | refine zak ?_ | refine zad ?_ | refine zal ?_ | refine zac ?_)
    have hLo : Lo 0 (.sl ((qk.map eNd).drop i)) := .sl _ (fun e he => by
      obtain ⟨x, _, rfl⟩ := List.mem_map.1 (List.mem_of_mem_drop he)
      exact (by repeat' (first | exact Lo.s _ | exact Lo.emp | exact Lo.any | exact zap | exact zao | refine zah ?_ ?_ | refine zai ?_ ?_ | refine zaq ?_ | refine zan ?_ | refine Lo.cells ?_ | refine Lo.agg _ ?_ | refine Lo.ref _ ?_ | refine Lo.tup _ ?_ | refine Lo.fn _ _ ?_ | refine Lo.sl _ ?_ | intro _)))
    refine aw_loops (S := Nat) (fun j => (133, .sl ((qk.map eNd).drop i)) :: (134, eI ((qk.map eNd).drop i).length) :: (135, eI j) :: pfN n w most) (fun _ => []) (fun j => i + j ≤ qk.length ∧ (qk.drop i).find? (doneF n w) = (qk.drop (i + j)).find? (doneF n w)) (fun j => qk.length - (i + j)) 0
      (wk_st [] (by decide) trivial ⟨.lo _ hLo, .lo _ (by repeat' (first | exact Lo.s _ | exact Lo.emp | exact Lo.any | exact zap | exact zao | refine zah ?_ ?_ | refine zai ?_ ?_ | refine zaq ?_ | refine zan ?_ | refine Lo.cells ?_ | refine Lo.agg _ ?_ | refine Lo.ref _ ?_ | refine Lo.tup _ ?_ | refine Lo.fn _ _ ?_ | refine Lo.sl _ ?_ | intro _)), .lo _ (by repeat' (first | exact Lo.s _ | exact Lo.emp | exact Lo.any | exact zap | exact zao | refine zah ?_ ?_ | refine zai ?_ ?_ | refine zaq ?_ | refine zan ?_ | refine Lo.cells ?_ | refine Lo.agg _ ?_ | refine Lo.ref _ ?_ | refine Lo.tup _ ?_ | refine Lo.fn _ _ ?_ | refine Lo.sl _ ?_ | intro _)), .lo _ (by repeat' (first | exact Lo.s _ | exact Lo.emp | exact Lo.any | exact zap | exact zao | refine zah ?_ ?_ | refine zai ?_ ?_ | refine zaq ?_ | refine zan ?_ | refine Lo.cells ?_ | refine Lo.agg _ ?_ | refine Lo.ref _ ?_ | refine Lo.tup _ ?_ | refine Lo.fn _ _ ?_ | refine Lo.sl _ ?_ | intro _)), .lo _ (by repeat' (first | exact Lo.s _ | exact Lo.emp | exact Lo.any | exact zap | exact zao | refine zah ?_ ?_ | refine zai ?_ ?_ | refine zaq ?_ | refine zan ?_ | refine Lo.cells ?_ | refine Lo.agg _ ?_ | refine Lo.ref _ ?_ | refine Lo.tup _ ?_ | refine Lo.fn _ _ ?_ | refine Lo.sl _ ?_ | intro _)), .lo _ (by repeat' (first | exact Lo.s _ | exact Lo.emp | exact Lo.any | exact zap | exact zao | refine zah ?_ ?_ | refine zai ?_ ?_ | refine zaq ?_ | refine zan ?_ | refine Lo.cells ?_ | refine Lo.agg _ ?_ | refine Lo.ref _ ?_ | refine Lo.tup _ ?_ | refine Lo.fn _ _ ?_ | refine Lo.sl _ ?_ | intro _)), .lo _ (by repeat' (first | exact Lo.s _ | exact Lo.emp | exact Lo.any | exact zap | exact zao | refine zah ?_ ?_ | refine zai ?_ ?_ | refine zaq ?_ | refine zan ?_ | refine Lo.cells ?_ | refine Lo.agg _ ?_ | refine Lo.ref _ ?_ | refine Lo.tup _ ?_ | refine Lo.fn _ _ ?_ | refine Lo.sl _ ?_ | intro _)), trivial⟩) ⟨by omega, rfl⟩ (fun j hj => ?_)
    obtain ⟨hj1, hj2⟩ := hj
    repeat (first | refine zaf ?_ | refine zak ?_ | refine zad ?_ | refine zal ?_ | refine zac ?_)
    refine zae ?_
    refine zab rfl rfl (zaa rfl) (does_lss rfl rfl rfl) ?_
    refine zaj ?_
    repeat (first | refine zaf ?_ | refine zak ?_ | refine zad ?_ | refine zal ?_ | refine zac ?_)
    refine aw_if rfl (fun hjl => ?_) (fun hjl => ?_)
    · have hjlt : i + j < qk.length := by simp at hjl; omega
      have hget : ((qk.map eNd).drop i)[j]? = some (eNd (gti qk (i + j))) := by rw [List.getElem?_drop]; exact ix_map hjlt
      have hdj := done_pf (P := P) (gti qk (i + j)) w (oneL n.places.toNat n.sink)
      have hdc : (qk.drop (i + j)).find? (doneF n w) = match doneF n w (gti qk (i + j)) with | true => some (gti qk (i + j)) | false => (qk.drop (i + (j + 1))).find? (doneF n w) := by
        rw [drop_gti hjlt, List.find?_cons]; rfl
      obtain ⟨zj, hzj⟩ : ∃ z, doneF n w (gti qk (i + j)) = z := ⟨_, rfl⟩
      rw [hzj] at hdc
      unfold doneF at hzj
      rw [hzj] at hdj
      repeat (first | refine zaf ?_ | refine zak ?_ | refine zad ?_ | refine zal ?_ | refine zac ?_)
      refine zae ?_
      refine zab rfl rfl (zaa rfl) (za1 rfl ts88 ti86 rfl rfl rfl hget rfl) ?_
      refine zab rfl rfl (zaa rfl) (zas rfl ta86 ti86 rfl rfl) ?_
      refine zab rfl rfl (zaa rfl) (does_alloc rfl ti86 rfl rfl) ?_
      refine ops_eff rfl (zaa rfl) (za7 rfl ti86 rfl rfl rfl rfl rfl rfl (by decide) (by decide)) ?_
      refine zaj ?_
      repeat (first | refine zaf ?_ | refine zak ?_ | refine zad ?_ | refine zal ?_ | refine zac ?_)
      refine aw_weak (wk_froz (id := 0) rfl) (aw_weak (wk_ref (d := 24) rfl rfl rfl) ?_)
      refine zae ?_
      refine zab rfl rfl (zaa rfl) (mv_fn (.inl rfl) rfl) ?_
      refine zab rfl rfl (zaa rfl) (zas rfl ta86 ti86 rfl rfl) ?_
      refine zab rfl rfl (zaa rfl) (zav rfl rfl (hdj) (zar rfl za0)) ?_
      refine zaj ?_
      repeat (first | refine zaf ?_ | refine zak ?_ | refine zad ?_ | refine zal ?_ | refine zac ?_)
      refine aw_cond rfl (fun hzt => ?_) (fun hzf => ?_)
      · subst hzt
        rw [hj2, hdc] at HO
        repeat (first | refine zaf ?_ | refine zak ?_ | refine zad ?_ | refine zal ?_ | refine zac ?_)
        refine aw_draw hmix ?_
        refine adraw_quiet (by kernel_rfl) ?_
        refine zba rfl rfl (zaa rfl) (zag rfl tf86_2 (by decide) rfl) ?_
        refine zba rfl rfl (zaa rfl) (zam rfl ta30 rfl) ?_
        refine zba rfl rfl (zaa rfl) (mv_s (.inr rfl) rfl) ?_
        refine zba rfl rfl (zaa rfl) (mv_sl (.inr rfl) rfl) ?_
        refine zba rfl rfl (zaa rfl) (mv_s (.inr rfl) rfl) ?_
        refine qx_nil ?_
        repeat (first | refine zaf ?_ | refine zak ?_ | refine zad ?_ | refine zal ?_ | refine zac ?_)
        (refine zbd ?_; repeat (first | refine ath_r ?_ | refine abl_r ?_))
        rw [HO]
        exact post3 (.inr rfl) rfl rfl rfl (.refl _) (.refl _) (.refl _)
      · subst hzf
        repeat (first | refine zaf ?_ | refine zak ?_ | refine zad ?_ | refine zal ?_ | refine zac ?_)
        refine zae ?_
        refine zab rfl rfl (zaa rfl) (does_add rfl rfl rfl (IntWalk.i64_in _ (by omega))) ?_
        refine zab rfl rfl (zaa rfl) (mv_s (.inl rfl) rfl) ?_
        refine zaj ?_
        repeat (first | refine zaf ?_ | refine zak ?_ | refine zad ?_ | refine zal ?_ | refine zac ?_)
        refine ⟨j + 1, ⟨by omega, by rw [hj2, hdc]⟩, by omega, ?_⟩
        exact wk_st [] (by decide) trivial ⟨.lo _ hLo, .lo _ (by repeat' (first | exact Lo.s _ | exact Lo.emp | exact Lo.any | exact zap | exact zao | refine zah ?_ ?_ | refine zai ?_ ?_ | refine zaq ?_ | refine zan ?_ | refine Lo.cells ?_ | refine Lo.agg _ ?_ | refine Lo.ref _ ?_ | refine Lo.tup _ ?_ | refine Lo.fn _ _ ?_ | refine Lo.sl _ ?_ | intro _)), .lo _ (by repeat' (first | exact Lo.s _ | exact Lo.emp | exact Lo.any | exact zap | exact zao | refine zah ?_ ?_ | refine zai ?_ ?_ | refine zaq ?_ | refine zan ?_ | refine Lo.cells ?_ | refine Lo.agg _ ?_ | refine Lo.ref _ ?_ | refine Lo.tup _ ?_ | refine Lo.fn _ _ ?_ | refine Lo.sl _ ?_ | intro _)), .lo _ (by repeat' (first | exact Lo.s _ | exact Lo.emp | exact Lo.any | exact zap | exact zao | refine zah ?_ ?_ | refine zai ?_ ?_ | refine zaq ?_ | refine zan ?_ | refine Lo.cells ?_ | refine Lo.agg _ ?_ | refine Lo.ref _ ?_ | refine Lo.tup _ ?_ | refine Lo.fn _ _ ?_ | refine Lo.sl _ ?_ | intro _)), .lo _ (by repeat' (first | exact Lo.s _ | exact Lo.emp | exact Lo.any | exact zap | exact zao | refine zah ?_ ?_ | refine zai ?_ ?_ | refine zaq ?_ | refine zan ?_ | refine Lo.cells ?_ | refine Lo.agg _ ?_ | refine Lo.ref _ ?_ | refine Lo.tup _ ?_ | refine Lo.fn _ _ ?_ | refine Lo.sl _ ?_ | intro _)), .lo _ (by repeat' (first | exact Lo.s _ | exact Lo.emp | exact Lo.any | exact zap | exact zao | refine zah ?_ ?_ | refine zai ?_ ?_ | refine zaq ?_ | refine zan ?_ | refine Lo.cells ?_ | refine Lo.agg _ ?_ | refine Lo.ref _ ?_ | refine Lo.tup _ ?_ | refine Lo.fn _ _ ?_ | refine Lo.sl _ ?_ | intro _)), .lo _ (by repeat' (first | exact Lo.s _ | exact Lo.emp | exact Lo.any | exact zap | exact zao | refine zah ?_ ?_ | refine zai ?_ ?_ | refine zaq ?_ | refine zan ?_ | refine Lo.cells ?_ | refine Lo.agg _ ?_ | refine Lo.ref _ ?_ | refine Lo.tup _ ?_ | refine Lo.fn _ _ ?_ | refine Lo.sl _ ?_ | intro _)), trivial⟩
    · have hjl2 : i + j = qk.length := by simp at hjl; omega
      rw [hj2, hjl2, List.drop_length] at HO
      (refine aw_exit ?_; repeat (first | refine ath_x ?_ | refine abl_hit ?_ | refine abl_miss rfl ?_ | refine zal ?_ | refine zak ?_ | refine zaf ?_ | refine zad ?_ | refine zac ?_))
      refine zae ?_
      refine zab rfl rfl (zaa rfl) (mv_s (.inr rfl) rfl) ?_
      refine zab rfl rfl (zaa rfl) (mv_s (.inr rfl) rfl) ?_
      refine zab rfl rfl (zaa rfl) (mv_s (.inr rfl) rfl) ?_
      refine zaj ?_
      repeat (first | refine zaf ?_ | refine zak ?_ | refine zad ?_ | refine zal ?_ | refine zac ?_)
      (refine zbd ?_; repeat (first | refine ath_r ?_ | refine abl_r ?_))
      rw [HO]
      exact post3 (.inr rfl) rfl rfl rfl (.refl _) .nil (.refl _)
  · skip
    refine zae ?_
    refine zab rfl rfl (zaa rfl) (mv_own (.inl rfl) rfl) ?_
    refine zab rfl rfl (zaa rfl) (does_len_own rfl ts88 rfl) ?_
    refine zab rfl rfl (zaa rfl) (mv_s (.inl rfl) rfl) ?_
    refine zab rfl rfl (zaa rfl) (dec_f hfull (does_eql rfl rfl rfl)) ?_
    refine zaj ?_
    repeat (first | refine zaf ?_ | refine zak ?_ | refine zad ?_ | refine zal ?_ | refine zac ?_)
    refine za6 rfl ?_
    repeat (first | refine zaf ?_ | refine zak ?_ | refine zad ?_ | refine zal ?_ | refine zac ?_)
    have hcl := clone_po (P := P) (gti q i).run (by omega)
    refine zae ?_
    refine zab rfl rfl (zaa rfl) (mv_mp (.inl rfl) rfl) ?_
    refine zab rfl rfl (zaa rfl) (mv_s (.inl rfl) rfl) ?_
    refine zab rfl rfl (zaa rfl) (lit1_s rfl ts30 ti3 rfl rfl rfl rfl) ?_
    refine zab rfl rfl (zaa rfl) (mv_sl (.inl rfl) rfl) ?_
    refine zab rfl rfl (zaa rfl) (does_append rfl ts30 ti3 rfl (by decide) rfl rfl (by first | rfl | (simp; done) | (simp; omega)) rfl (by first | exact .own _ _ _ rfl rfl _ (by first | rfl | simp) | exact .emp | exact .nil | exact .sl _ (by first | simp; done | intro e he; simp at he; obtain ⟨_, _, rfl⟩ := he; rfl)) (by first | omega | (simp; omega) | (unfold maxLen; simp; omega)) (by first | omega | (simp; omega) | (unfold maxLen; simp; omega))) ?_
    refine za5 (wk_froz (id := 3) rfl) (za5 (wk_sl (d := 149) rfl rfl (by first | rfl | (simp; done) | (simp; omega))) ?_)
    refine zab rfl rfl (zaa rfl) (zav rfl rfl (hky1) (zar rfl za0)) ?_
    refine ops_eff rfl (zaa rfl) (does_mapput (.inl rfl) tm90 tK9 rfl rfl ⟨rfl, rfl, rfl⟩ (by (try dsimp only); unfold maxLen; omega) rfl rfl (keyOf_string_mk tn9 hks1) (plainElem_bool tn4 _)) ?_
    refine zaj ?_
    repeat (first | refine zaf ?_ | refine zak ?_ | refine zad ?_ | refine zal ?_ | refine zac ?_)
    refine aw_weak (show Weak _ _ _ ((18, eI k) :: (20, eI kk) :: (21, eL eI fe.1) :: (17, .ref (eNd (gti q i)).cells) :: (81, eL eT n.trans) :: (82, eI n.trans.length) :: (83, eI k) :: pfF n w most qk i) [.row 3 (qk.map eNd), .mp ⟨P, 9, 4, qk.length + 1, seenQ (qk ++ [⟨kk, fe.1, (gti q i).run ++ [(k : Int)]⟩])⟩] from wk_st [0, 1] (by decide) ⟨⟨_, rfl, .rowE (by repeat' (first | exact Lo.s _ | exact Lo.emp | exact Lo.any | exact zap | exact zao | refine zah ?_ ?_ | refine zai ?_ ?_ | refine zaq ?_ | refine zan ?_ | refine Lo.cells ?_ | refine Lo.agg _ ?_ | refine Lo.ref _ ?_ | refine Lo.tup _ ?_ | refine Lo.fn _ _ ?_ | refine Lo.sl _ ?_ | intro _)) rfl⟩, ⟨_, rfl, ObRn.mpE (Nat.le_refl _) (hput1 _)⟩, trivial⟩ ⟨.lo _ (by repeat' (first | exact Lo.s _ | exact Lo.emp | exact Lo.any | exact zap | exact zao | refine zah ?_ ?_ | refine zai ?_ ?_ | refine zaq ?_ | refine zan ?_ | refine Lo.cells ?_ | refine Lo.agg _ ?_ | refine Lo.ref _ ?_ | refine Lo.tup _ ?_ | refine Lo.fn _ _ ?_ | refine Lo.sl _ ?_ | intro _)), .lo _ (by repeat' (first | exact Lo.s _ | exact Lo.emp | exact Lo.any | exact zap | exact zao | refine zah ?_ ?_ | refine zai ?_ ?_ | refine zaq ?_ | refine zan ?_ | refine Lo.cells ?_ | refine Lo.agg _ ?_ | refine Lo.ref _ ?_ | refine Lo.tup _ ?_ | refine Lo.fn _ _ ?_ | refine Lo.sl _ ?_ | intro _)), .lo _ (by repeat' (first | exact Lo.s _ | exact Lo.emp | exact Lo.any | exact zap | exact zao | refine zah ?_ ?_ | refine zai ?_ ?_ | refine zaq ?_ | refine zan ?_ | refine Lo.cells ?_ | refine Lo.agg _ ?_ | refine Lo.ref _ ?_ | refine Lo.tup _ ?_ | refine Lo.fn _ _ ?_ | refine Lo.sl _ ?_ | intro _)), .lo _ (by repeat' (first | exact Lo.s _ | exact Lo.emp | exact Lo.any | exact zap | exact zao | refine zah ?_ ?_ | refine zai ?_ ?_ | refine zaq ?_ | refine zan ?_ | refine Lo.cells ?_ | refine Lo.agg _ ?_ | refine Lo.ref _ ?_ | refine Lo.tup _ ?_ | refine Lo.fn _ _ ?_ | refine Lo.sl _ ?_ | intro _)), .lo _ (by repeat' (first | exact Lo.s _ | exact Lo.emp | exact Lo.any | exact zap | exact zao | refine zah ?_ ?_ | refine zai ?_ ?_ | refine zaq ?_ | refine zan ?_ | refine Lo.cells ?_ | refine Lo.agg _ ?_ | refine Lo.ref _ ?_ | refine Lo.tup _ ?_ | refine Lo.fn _ _ ?_ | refine Lo.sl _ ?_ | intro _)), .lo _ (by repeat' (first | exact Lo.s _ | exact Lo.emp | exact Lo.any | exact zap | exact zao | refine zah ?_ ?_ | refine zai ?_ ?_ | refine zaq ?_ | refine zan ?_ | refine Lo.cells ?_ | refine Lo.agg _ ?_ | refine Lo.ref _ ?_ | refine Lo.tup _ ?_ | refine Lo.fn _ _ ?_ | refine Lo.sl _ ?_ | intro _)), .lo _ (by repeat' (first | exact Lo.s _ | exact Lo.emp | exact Lo.any | exact zap | exact zao | refine zah ?_ ?_ | refine zai ?_ ?_ | refine zaq ?_ | refine zan ?_ | refine Lo.cells ?_ | refine Lo.agg _ ?_ | refine Lo.ref _ ?_ | refine Lo.tup _ ?_ | refine Lo.fn _ _ ?_ | refine Lo.sl _ ?_ | intro _)), .own 0 0 3 _ _ rfl rfl, .mp 1 1 rfl, .lo _ (by repeat' (first | exact Lo.s _ | exact Lo.emp | exact Lo.any | exact zap | exact zao | refine zah ?_ ?_ | refine zai ?_ ?_ | refine zaq ?_ | refine zan ?_ | refine Lo.cells ?_ | refine Lo.agg _ ?_ | refine Lo.ref _ ?_ | refine Lo.tup _ ?_ | refine Lo.fn _ _ ?_ | refine Lo.sl _ ?_ | intro _)), .lo _ (by repeat' (first | exact Lo.s _ | exact Lo.emp | exact Lo.any | exact zap | exact zao | refine zah ?_ ?_ | refine zai ?_ ?_ | refine zaq ?_ | refine zan ?_ | refine Lo.cells ?_ | refine Lo.agg _ ?_ | refine Lo.ref _ ?_ | refine Lo.tup _ ?_ | refine Lo.fn _ _ ?_ | refine Lo.sl _ ?_ | intro _)), .lo _ (by repeat' (first | exact Lo.s _ | exact Lo.emp | exact Lo.any | exact zap | exact zao | refine zah ?_ ?_ | refine zai ?_ ?_ | refine zaq ?_ | refine zan ?_ | refine Lo.cells ?_ | refine Lo.agg _ ?_ | refine Lo.ref _ ?_ | refine Lo.tup _ ?_ | refine Lo.fn _ _ ?_ | refine Lo.sl _ ?_ | intro _)), .lo _ (by repeat' (first | exact Lo.s _ | exact Lo.emp | exact Lo.any | exact zap | exact zao | refine zah ?_ ?_ | refine zai ?_ ?_ | refine zaq ?_ | refine zan ?_ | refine Lo.cells ?_ | refine Lo.agg _ ?_ | refine Lo.ref _ ?_ | refine Lo.tup _ ?_ | refine Lo.fn _ _ ?_ | refine Lo.sl _ ?_ | intro _)), .lo _ (by repeat' (first | exact Lo.s _ | exact Lo.emp | exact Lo.any | exact zap | exact zao | refine zah ?_ ?_ | refine zai ?_ ?_ | refine zaq ?_ | refine zan ?_ | refine Lo.cells ?_ | refine Lo.agg _ ?_ | refine Lo.ref _ ?_ | refine Lo.tup _ ?_ | refine Lo.fn _ _ ?_ | refine Lo.sl _ ?_ | intro _)), trivial⟩) ?_
    refine zae ?_
    refine zab rfl rfl (zaa rfl) (mv_own (.inl rfl) rfl) ?_
    refine zab rfl rfl (zaa rfl) (mv_s (.inl rfl) rfl) ?_
    refine zab rfl rfl (zaa rfl) (mv_sl (.inl rfl) rfl) ?_
    refine zab rfl rfl (zaa rfl) (zag rfl tf86_2 (by decide) rfl) ?_
    refine zab rfl rfl (zaa rfl) (zam rfl ta30 rfl) ?_
    refine zab rfl rfl (zaa rfl) (does_callO rfl rfl (hcl) (zar rfl za0)) ?_
    refine zab rfl rfl (zaa rfl) (mv_s (.inl rfl) rfl) ?_
    refine zab rfl rfl (zaa rfl) (lit1_s rfl ts30 ti3 rfl rfl rfl rfl) ?_
    refine zab rfl rfl (zaa rfl) (does_append rfl ts30 ti3 rfl (by decide) rfl rfl (by first | rfl | (simp; done) | (simp; omega)) rfl (by first | exact .own _ _ _ rfl rfl _ (by first | rfl | simp) | exact .emp | exact .nil | exact .sl _ (by first | simp; done | intro e he; simp at he; obtain ⟨_, _, rfl⟩ := he; rfl)) (by first | omega | (simp; omega) | (unfold maxLen; simp; omega)) (by first | omega | (simp; omega) | (unfold maxLen; simp; omega))) ?_
    refine za5 (wk_froz (id := 4) rfl) (za5 (wk_sl (d := 159) rfl rfl (by first | rfl | (simp; done) | (simp; omega))) ?_)
    refine zab rfl rfl (zaa rfl) (does_build rfl ti86 tp86 rfl rfl) ?_
    refine zab rfl rfl (zaa rfl) (does_litA rfl ts88 ti86 rfl rfl (by decide) (by decide) rfl rfl rfl) ?_
    refine zab rfl rfl (zaa rfl) (does_append rfl ts88 ti86 rfl (by decide) rfl rfl (by first | rfl | (simp; done) | (simp; omega)) rfl (by first | exact .own _ _ _ rfl rfl _ (by first | rfl | simp) | exact .emp | exact .nil | exact .sl _ (by first | simp; done | intro e he; simp at he; obtain ⟨_, _, rfl⟩ := he; rfl)) (by first | omega | (simp; omega) | (unfold maxLen; simp; omega)) (by first | omega | (simp; omega) | (unfold maxLen; simp; omega))) ?_
    refine zab rfl rfl (zaa rfl) (mv_own (.inr rfl) rfl) ?_
    refine zaj ?_
    repeat (first | refine zaf ?_ | refine zak ?_ | refine zad ?_ | refine zal ?_ | refine zac ?_)
    refine zae ?_
    refine zab rfl rfl (zaa rfl) (does_add rfl rfl rfl (IntWalk.i64_in _ (by omega))) ?_
    refine zab rfl rfl (zaa rfl) (mv_s (.inl rfl) rfl) ?_
    refine zaj ?_
    repeat (first | refine zaf ?_ | refine zak ?_ | refine zad ?_ | refine zal ?_ | refine zac ?_)
    have hrow : (qk ++ [(⟨kk, fe.1, (gti q i).run ++ [(k : Int)]⟩ : Nd)]).map eNd = qk.map eNd ++ [AV.agg [eI kk, eL eI fe.1, .sl ((gti q i).run.map eI ++ [eI k])]] := by simp [eNd, eL]
    refine ⟨k + 1, ⟨hkt, by rw [hqS, hSS]; simp; omega⟩, by omega, ?_⟩
    rw [hqS, hSS]
    exact wk_st [6, 1] (by decide) ⟨⟨_, rfl, .rowE (by repeat' (first | exact Lo.s _ | exact Lo.emp | exact Lo.any | exact zap | exact zao | refine zah ?_ ?_ | refine zai ?_ ?_ | refine zaq ?_ | refine zan ?_ | refine Lo.cells ?_ | refine Lo.agg _ ?_ | refine Lo.ref _ ?_ | refine Lo.tup _ ?_ | refine Lo.fn _ _ ?_ | refine Lo.sl _ ?_ | intro _)) (Eq.trans (b := qk.map eNd ++ [AV.agg [eI kk, eL eI fe.1, .sl ((gti q i).run.map eI ++ [eI k])]]) rfl hrow.symm)⟩, ⟨_, rfl, ObRn.mpE (by simp) rfl⟩, trivial⟩ ⟨.lo _ (by repeat' (first | exact Lo.s _ | exact Lo.emp | exact Lo.any | exact zap | exact zao | refine zah ?_ ?_ | refine zai ?_ ?_ | refine zaq ?_ | refine zan ?_ | refine Lo.cells ?_ | refine Lo.agg _ ?_ | refine Lo.ref _ ?_ | refine Lo.tup _ ?_ | refine Lo.fn _ _ ?_ | refine Lo.sl _ ?_ | intro _)), .lo _ (by repeat' (first | exact Lo.s _ | exact Lo.emp | exact Lo.any | exact zap | exact zao | refine zah ?_ ?_ | refine zai ?_ ?_ | refine zaq ?_ | refine zan ?_ | refine Lo.cells ?_ | refine Lo.agg _ ?_ | refine Lo.ref _ ?_ | refine Lo.tup _ ?_ | refine Lo.fn _ _ ?_ | refine Lo.sl _ ?_ | intro _)), .lo _ (by repeat' (first | exact Lo.s _ | exact Lo.emp | exact Lo.any | exact zap | exact zao | refine zah ?_ ?_ | refine zai ?_ ?_ | refine zaq ?_ | refine zan ?_ | refine Lo.cells ?_ | refine Lo.agg _ ?_ | refine Lo.ref _ ?_ | refine Lo.tup _ ?_ | refine Lo.fn _ _ ?_ | refine Lo.sl _ ?_ | intro _)), .lo _ (by repeat' (first | exact Lo.s _ | exact Lo.emp | exact Lo.any | exact zap | exact zao | refine zah ?_ ?_ | refine zai ?_ ?_ | refine zaq ?_ | refine zan ?_ | refine Lo.cells ?_ | refine Lo.agg _ ?_ | refine Lo.ref _ ?_ | refine Lo.tup _ ?_ | refine Lo.fn _ _ ?_ | refine Lo.sl _ ?_ | intro _)), .own 6 0 3 _ _ rfl (by simp), .mp 1 1 rfl, .lo _ (by repeat' (first | exact Lo.s _ | exact Lo.emp | exact Lo.any | exact zap | exact zao | refine zah ?_ ?_ | refine zai ?_ ?_ | refine zaq ?_ | refine zan ?_ | refine Lo.cells ?_ | refine Lo.agg _ ?_ | refine Lo.ref _ ?_ | refine Lo.tup _ ?_ | refine Lo.fn _ _ ?_ | refine Lo.sl _ ?_ | intro _)), .lo _ (by repeat' (first | exact Lo.s _ | exact Lo.emp | exact Lo.any | exact zap | exact zao | refine zah ?_ ?_ | refine zai ?_ ?_ | refine zaq ?_ | refine zan ?_ | refine Lo.cells ?_ | refine Lo.agg _ ?_ | refine Lo.ref _ ?_ | refine Lo.tup _ ?_ | refine Lo.fn _ _ ?_ | refine Lo.sl _ ?_ | intro _)), .lo _ (by repeat' (first | exact Lo.s _ | exact Lo.emp | exact Lo.any | exact zap | exact zao | refine zah ?_ ?_ | refine zai ?_ ?_ | refine zaq ?_ | refine zan ?_ | refine Lo.cells ?_ | refine Lo.agg _ ?_ | refine Lo.ref _ ?_ | refine Lo.tup _ ?_ | refine Lo.fn _ _ ?_ | refine Lo.sl _ ?_ | intro _)), .lo _ (by repeat' (first | exact Lo.s _ | exact Lo.emp | exact Lo.any | exact zap | exact zao | refine zah ?_ ?_ | refine zai ?_ ?_ | refine zaq ?_ | refine zan ?_ | refine Lo.cells ?_ | refine Lo.agg _ ?_ | refine Lo.ref _ ?_ | refine Lo.tup _ ?_ | refine Lo.fn _ _ ?_ | refine Lo.sl _ ?_ | intro _)), .lo _ (by repeat' (first | exact Lo.s _ | exact Lo.emp | exact Lo.any | exact zap | exact zao | refine zah ?_ ?_ | refine zai ?_ ?_ | refine zaq ?_ | refine zan ?_ | refine Lo.cells ?_ | refine Lo.agg _ ?_ | refine Lo.ref _ ?_ | refine Lo.tup _ ?_ | refine Lo.fn _ _ ?_ | refine Lo.sl _ ?_ | intro _)), trivial⟩
end Go.Proofs.Ytmhbfoaecebobaa.Aw
end
section
namespace Go.Proofs.Ytmhbfoaecebobaa.Aw
set_option linter.unusedSimpArgs false
set_option linter.unusedVariables false
open Go.RowKit Go.Proofs
variable {P : Program} [IsP P]
set_option maxHeartbeats 4000000 in
theorem lawLang_pf (n : Net) (l : List ByteArray) : Pure P 7 [eN n, eL eS l] (eB true) := by
  have h1 := awake_pf (P := P)
  have h2 := great_pf (P := P) n l
  have h3 := rworkflow_pf (P := P) n
  have h4 := Fits_pf (P := P) n l 60
  have h5 := accepts_pf (P := P) n l 60
  have hL := fun b r e z f => lang_law (n := n) (w := l) (most := 60) (b := b) (z := z) (l := r) (e := e) (f := f)
  have hwv := wfB_wf (n := n)
  obtain ⟨⟨b, r, e⟩, hR⟩ : ∃ r, FitsE n l 60 = r := ⟨_, rfl⟩
  obtain ⟨⟨z, f⟩, hZ⟩ : ∃ r, acceptsE n l 60 = r := ⟨_, rfl⟩
  obtain ⟨hL1, hL2, hL3⟩ := hL b r e z f hR hZ
  clear hL
  rw [hR] at h4
  rw [hZ] at h5
  clear hR hZ
  refine aw_fn (by rw [IsP.eq (P := P)]; exact Try.func7) rfl rfl rfl rfl rfl (by repeat' (first | exact Lo.s _ | exact Lo.emp | exact Lo.any | exact zap | exact zao | refine zah ?_ ?_ | refine zai ?_ ?_ | refine zaq ?_ | refine zan ?_ | refine Lo.cells ?_ | refine Lo.agg _ ?_ | refine Lo.ref _ ?_ | refine Lo.tup _ ?_ | refine Lo.fn _ _ ?_ | refine Lo.sl _ ?_ | intro _)) (by repeat' (first | exact Lo.s _ | exact Lo.emp | exact Lo.any | exact zap | exact zao | refine zah ?_ ?_ | refine zai ?_ ?_ | refine zaq ?_ | refine zan ?_ | refine Lo.cells ?_ | refine Lo.agg _ ?_ | refine Lo.ref _ ?_ | refine Lo.tup _ ?_ | refine Lo.fn _ _ ?_ | refine Lo.sl _ ?_ | intro _)) (by simp only [argF]; rfl) ?_
  repeat (first | refine zaf ?_ | refine zak ?_ | refine zad ?_ | refine zal ?_ | refine zac ?_)
  refine zae ?_
  refine zab rfl rfl (zaa rfl) (does_box rfl rfl rfl rfl) ?_
  refine za5 (wk_froz (id := 0) rfl) (za5 (wk_ref (d := 2) rfl rfl rfl) ?_)
  refine zab rfl rfl (zaa rfl) (mv_s (.inr rfl) rfl) ?_
  refine zaj ?_
  repeat (first | refine zaf ?_ | refine zak ?_ | refine zad ?_ | refine zal ?_ | refine zac ?_)
  refine zae ?_
  refine zab rfl rfl (zaa rfl) (zav rfl rfl (h1) za0) ?_
  refine zab rfl rfl (zaa rfl) (does_not rfl rfl) ?_
  refine zaj ?_
  repeat (first | refine zaf ?_ | refine zak ?_ | refine zad ?_ | refine zal ?_ | refine zac ?_)
  refine za6 rfl ?_
  repeat (first | refine zaf ?_ | refine zak ?_ | refine zad ?_ | refine zal ?_ | refine zac ?_)
  cases hwf : wfB n with
  | false =>
    rw [hwf] at h3
    refine zae ?_
    refine zab rfl rfl (zaa rfl) (zas rfl ta24 ti24 rfl rfl) ?_
    refine zab rfl rfl (zaa rfl) (mv_sl (.inl rfl) rfl) ?_
    refine ops_callE rfl rfl (zaa rfl) rfl rfl (h2) (zar rfl (zar rfl za0)) (fun rE hrE => ?_)
    obtain ⟨z, rfl⟩ := hrE
    cases z
    all_goals (refine zab rfl rfl (zaa rfl) (mv_s (.inl rfl) rfl) ?_)
    all_goals (first | refine zab rfl rfl (zau rfl rfl rfl) (zas rfl ta24 ti24 rfl rfl) ?_ | refine zaw rfl rfl (za4 rfl rfl rfl) ?_)
    all_goals (first | refine zab rfl rfl (zau rfl rfl rfl) (zav rfl rfl (h3) (zar rfl za0)) ?_ | refine zaw rfl rfl (za4 rfl rfl rfl) ?_)
    all_goals (first | refine zab rfl rfl (zau rfl rfl rfl) (does_not rfl rfl) ?_ | refine zaw rfl rfl (za4 rfl rfl rfl) ?_)
    all_goals (first | refine zab rfl rfl (zaa rfl) (pickT_s rfl rfl rfl) ?_ | refine zab rfl rfl (zaa rfl) (pickF_s rfl rfl rfl) ?_)
    all_goals refine zaj ?_
    all_goals (repeat (first | refine zaf ?_ | refine zak ?_ | refine zad ?_ | refine zal ?_ | refine zac ?_))
    all_goals refine aw_true rfl ?_
    all_goals repeat (first | refine zaf ?_ | refine zak ?_ | refine zad ?_ | refine zal ?_ | refine zac ?_)
    · skip
      refine zae ?_
      refine zab rfl rfl (zaa rfl) (mv_s (.inr rfl) rfl) ?_
      refine zaj ?_
      repeat (first | refine zaf ?_ | refine zak ?_ | refine zad ?_ | refine zal ?_ | refine zac ?_)
      (refine zbd ?_; repeat (first | refine ath_r ?_ | refine abl_r ?_))
      exact post1 (.inr rfl) rfl rfl
    · skip
      refine zae ?_
      refine zab rfl rfl (zaa rfl) (mv_s (.inr rfl) rfl) ?_
      refine zaj ?_
      repeat (first | refine zaf ?_ | refine zak ?_ | refine zad ?_ | refine zal ?_ | refine zac ?_)
      (refine zbd ?_; repeat (first | refine ath_r ?_ | refine abl_r ?_))
      exact post1 (.inr rfl) rfl rfl
  | true =>
    rw [hwf] at h3
    have hval := (hwv hwf).valid
    have hpl := za8 hval
    have hends := validB_ends hval
    obtain ⟨ksr, hksr⟩ : ∃ k : Nat, n.source = k := ⟨n.source.toNat, by omega⟩
    have hone := rone_pf (P := P) n n.places.toNat ksr (by omega) (by omega) (by omega)
    rw [← hksr] at hone
    obtain ⟨ksk, hksk⟩ : ∃ k : Nat, n.sink = k := ⟨n.sink.toNat, by omega⟩
    have hfin := rone_pf (P := P) n n.places.toNat ksk (by omega) (by omega) (by omega)
    rw [← hksk] at hfin
    have hmk0 : markB n (oneL n.places.toNat n.source) = true := ((QF.init l hval).at_ 0 (by simp)).1
    refine zae ?_
    refine zab rfl rfl (zaa rfl) (zas rfl ta24 ti24 rfl rfl) ?_
    refine zab rfl rfl (zaa rfl) (mv_sl (.inl rfl) rfl) ?_
    refine ops_callE rfl rfl (zaa rfl) rfl rfl (h2) (zar rfl (zar rfl za0)) (fun rE hrE => ?_)
    obtain ⟨z, rfl⟩ := hrE
    cases z
    all_goals (refine zab rfl rfl (zaa rfl) (mv_s (.inl rfl) rfl) ?_)
    all_goals (first | refine zab rfl rfl (zau rfl rfl rfl) (zas rfl ta24 ti24 rfl rfl) ?_ | refine zaw rfl rfl (za4 rfl rfl rfl) ?_)
    all_goals (first | refine zab rfl rfl (zau rfl rfl rfl) (zav rfl rfl (h3) (zar rfl za0)) ?_ | refine zaw rfl rfl (za4 rfl rfl rfl) ?_)
    all_goals (first | refine zab rfl rfl (zau rfl rfl rfl) (does_not rfl rfl) ?_ | refine zaw rfl rfl (za4 rfl rfl rfl) ?_)
    all_goals (first | refine zab rfl rfl (zaa rfl) (pickT_s rfl rfl rfl) ?_ | refine zab rfl rfl (zaa rfl) (pickF_s rfl rfl rfl) ?_)
    all_goals refine zaj ?_
    all_goals (repeat (first | refine zaf ?_ | refine zak ?_ | refine zad ?_ | refine zal ?_ | refine zac ?_))
    rotate_left 1
    · refine aw_true rfl ?_
      repeat (first | refine zaf ?_ | refine zak ?_ | refine zad ?_ | refine zal ?_ | refine zac ?_)
      refine zae ?_
      refine zab rfl rfl (zaa rfl) (mv_s (.inr rfl) rfl) ?_
      refine zaj ?_
      repeat (first | refine zaf ?_ | refine zak ?_ | refine zad ?_ | refine zal ?_ | refine zac ?_)
      (refine zbd ?_; repeat (first | refine ath_r ?_ | refine abl_r ?_))
      exact post1 (.inr rfl) rfl rfl
    refine za6 rfl ?_
    repeat (first | refine zaf ?_ | refine zak ?_ | refine zad ?_ | refine zal ?_ | refine zac ?_)
    cases b with
    | false =>
      obtain rfl := hL2 rfl
      refine zae ?_
      refine zab rfl rfl (zaa rfl) (zas rfl ta24 ti24 rfl rfl) ?_
      refine zab rfl rfl (zaa rfl) (mv_sl (.inl rfl) rfl) ?_
      refine zab rfl rfl (zaa rfl) (zav rfl rfl (h4) (zar rfl (zar rfl (zar rfl za0)))) ?_
      refine zab rfl rfl (zaa rfl) (mv_tup (.inl rfl) rfl) ?_
      refine zab rfl rfl (zaa rfl) (zay rfl rfl rfl) ?_
      refine zab rfl rfl (zaa rfl) (zay rfl rfl rfl) ?_
      refine zab rfl rfl (zaa rfl) (zay rfl rfl rfl) ?_
      refine zab rfl rfl (zaa rfl) (mv_s (.inr rfl) rfl) ?_
      refine zab rfl rfl (zaa rfl) (mv_sl (.inr rfl) rfl) ?_
      refine zab rfl rfl (zaa rfl) (mv_s (.inr rfl) rfl) ?_
      refine zaj ?_
      repeat (first | refine zaf ?_ | refine zak ?_ | refine zad ?_ | refine zal ?_ | refine zac ?_)
      refine zae ?_
      refine zab rfl rfl (zaa rfl) (zas rfl ta24 ti24 rfl rfl) ?_
      refine zab rfl rfl (zaa rfl) (mv_sl (.inl rfl) rfl) ?_
      refine zab rfl rfl (zaa rfl) (zav rfl rfl (h5) (zar rfl (zar rfl (zar rfl za0)))) ?_
      refine zab rfl rfl (zaa rfl) (mv_tup (.inl rfl) rfl) ?_
      refine zab rfl rfl (zaa rfl) (zay rfl rfl rfl) ?_
      refine zab rfl rfl (zaa rfl) (zay rfl rfl rfl) ?_
      refine zab rfl rfl (zaa rfl) (mv_s (.inr rfl) rfl) ?_
      refine zab rfl rfl (zaa rfl) (mv_s (.inr rfl) rfl) ?_
      refine zaj ?_
      repeat (first | refine zaf ?_ | refine zak ?_ | refine zad ?_ | refine zal ?_ | refine zac ?_)
      by_cases he : e = 0
      · subst he
        by_cases hf : f = 0
        · subst hf
          have hbz := hL1 rfl rfl
          subst hbz
          refine zae ?_
          refine zab rfl rfl (zaa rfl) (mv_s (.inl rfl) rfl) ?_
          refine zab rfl rfl (zaa rfl) (dec_t rfl (does_eql rfl rfl rfl)) ?_
          refine zab rfl rfl (zaa rfl) (mv_s (.inl rfl) rfl) ?_
          refine zab rfl rfl (zau rfl rfl rfl) (mv_s (.inl rfl) rfl) ?_
          refine zab rfl rfl (zau rfl rfl rfl) (dec_t rfl (does_eql rfl rfl rfl)) ?_
          refine zab rfl rfl (zaa rfl) (pickT_s rfl rfl rfl) ?_
          refine zab rfl rfl (zaa rfl) (mv_s (.inl rfl) rfl) ?_
          refine zab rfl rfl (zau rfl rfl rfl) (mv_s (.inl rfl) rfl) ?_
          refine zab rfl rfl (zau rfl rfl rfl) (mv_s (.inl rfl) rfl) ?_
          refine zab rfl rfl (zau rfl rfl rfl) (does_neqb (by rw [IsP.eq (P := P)]; kernel_rfl) rfl rfl rfl) ?_
          refine zab rfl rfl (zaa rfl) (pickT_s rfl rfl rfl) ?_
          refine zaj ?_
          repeat (first | refine zaf ?_ | refine zak ?_ | refine zad ?_ | refine zal ?_ | refine zac ?_)
          refine za6 rfl ?_
          repeat (first | refine zaf ?_ | refine zak ?_ | refine zad ?_ | refine zal ?_ | refine zac ?_)
          refine zae ?_
          refine zab rfl rfl (zaa rfl) (mv_s (.inl rfl) rfl) ?_
          refine zab rfl rfl (zaa rfl) (dec_f (fun h => h rfl) (does_neq rfl rfl rfl)) ?_
          refine zab rfl rfl (zaa rfl) (mv_s (.inl rfl) rfl) ?_
          refine zab rfl rfl (zau rfl rfl rfl) (mv_s (.inl rfl) rfl) ?_
          refine zab rfl rfl (zau rfl rfl rfl) (does_not rfl rfl) ?_
          refine zab rfl rfl (zaa rfl) (pickF_s rfl rfl rfl) ?_
          refine zaj ?_
          repeat (first | refine zaf ?_ | refine zak ?_ | refine zad ?_ | refine zal ?_ | refine zac ?_)
          refine aw_true rfl ?_
          repeat (first | refine zaf ?_ | refine zak ?_ | refine zad ?_ | refine zal ?_ | refine zac ?_)
          refine zae ?_
          refine zab rfl rfl (zaa rfl) (mv_sl (.inl rfl) rfl) ?_
          refine zab rfl rfl (zaa rfl) (za2 rfl ts30 rfl) ?_
          refine zab rfl rfl (zaa rfl) (dec_t rfl (does_eql rfl rfl rfl)) ?_
          refine zab rfl rfl (zaa rfl) (mv_s (.inr rfl) rfl) ?_
          refine zaj ?_
          repeat (first | refine zaf ?_ | refine zak ?_ | refine zad ?_ | refine zal ?_ | refine zac ?_)
          (refine zbd ?_; repeat (first | refine ath_r ?_ | refine abl_r ?_))
          exact post1 (.inr rfl) rfl rfl
        · skip
          refine zae ?_
          refine zab rfl rfl (zaa rfl) (mv_s (.inl rfl) rfl) ?_
          refine zab rfl rfl (zaa rfl) (dec_t rfl (does_eql rfl rfl rfl)) ?_
          refine zab rfl rfl (zaa rfl) (mv_s (.inl rfl) rfl) ?_
          refine zab rfl rfl (zau rfl rfl rfl) (mv_s (.inl rfl) rfl) ?_
          refine zab rfl rfl (zau rfl rfl rfl) (dec_f hf (does_eql rfl rfl rfl)) ?_
          refine zab rfl rfl (zaa rfl) (pickT_s rfl rfl rfl) ?_
          refine zab rfl rfl (zaa rfl) (mv_s (.inl rfl) rfl) ?_
          refine zaw rfl rfl (runs_nt rfl rfl rfl) ?_
          refine zaw rfl rfl (runs_nt rfl rfl rfl) ?_
          refine zaw rfl rfl (runs_nt rfl rfl rfl) ?_
          refine zab rfl rfl (zaa rfl) (pickF_s rfl rfl rfl) ?_
          refine zaj ?_
          repeat (first | refine zaf ?_ | refine zak ?_ | refine zad ?_ | refine zal ?_ | refine zac ?_)
          refine za6 rfl ?_
          repeat (first | refine zaf ?_ | refine zak ?_ | refine zad ?_ | refine zal ?_ | refine zac ?_)
          refine zae ?_
          refine zab rfl rfl (zaa rfl) (mv_s (.inl rfl) rfl) ?_
          refine zab rfl rfl (zaa rfl) (dec_f (fun h => h rfl) (does_neq rfl rfl rfl)) ?_
          refine zab rfl rfl (zaa rfl) (mv_s (.inl rfl) rfl) ?_
          refine zab rfl rfl (zau rfl rfl rfl) (mv_s (.inl rfl) rfl) ?_
          refine zab rfl rfl (zau rfl rfl rfl) (does_not rfl rfl) ?_
          refine zab rfl rfl (zaa rfl) (pickF_s rfl rfl rfl) ?_
          refine zaj ?_
          repeat (first | refine zaf ?_ | refine zak ?_ | refine zad ?_ | refine zal ?_ | refine zac ?_)
          refine aw_true rfl ?_
          repeat (first | refine zaf ?_ | refine zak ?_ | refine zad ?_ | refine zal ?_ | refine zac ?_)
          refine zae ?_
          refine zab rfl rfl (zaa rfl) (mv_sl (.inl rfl) rfl) ?_
          refine zab rfl rfl (zaa rfl) (za2 rfl ts30 rfl) ?_
          refine zab rfl rfl (zaa rfl) (dec_t rfl (does_eql rfl rfl rfl)) ?_
          refine zab rfl rfl (zaa rfl) (mv_s (.inr rfl) rfl) ?_
          refine zaj ?_
          repeat (first | refine zaf ?_ | refine zak ?_ | refine zad ?_ | refine zal ?_ | refine zac ?_)
          (refine zbd ?_; repeat (first | refine ath_r ?_ | refine abl_r ?_))
          exact post1 (.inr rfl) rfl rfl
      · skip
        refine zae ?_
        refine zab rfl rfl (zaa rfl) (mv_s (.inl rfl) rfl) ?_
        refine zab rfl rfl (zaa rfl) (dec_f he (does_eql rfl rfl rfl)) ?_
        refine zab rfl rfl (zaa rfl) (mv_s (.inl rfl) rfl) ?_
        refine zaw rfl rfl (runs_nt rfl rfl rfl) ?_
        refine zaw rfl rfl (runs_nt rfl rfl rfl) ?_
        refine zab rfl rfl (zaa rfl) (pickF_s rfl rfl rfl) ?_
        refine zab rfl rfl (zaa rfl) (mv_s (.inl rfl) rfl) ?_
        refine zaw rfl rfl (runs_nt rfl rfl rfl) ?_
        refine zaw rfl rfl (runs_nt rfl rfl rfl) ?_
        refine zaw rfl rfl (runs_nt rfl rfl rfl) ?_
        refine zab rfl rfl (zaa rfl) (pickF_s rfl rfl rfl) ?_
        refine zaj ?_
        repeat (first | refine zaf ?_ | refine zak ?_ | refine zad ?_ | refine zal ?_ | refine zac ?_)
        refine za6 rfl ?_
        repeat (first | refine zaf ?_ | refine zak ?_ | refine zad ?_ | refine zal ?_ | refine zac ?_)
        refine zae ?_
        refine zab rfl rfl (zaa rfl) (mv_s (.inl rfl) rfl) ?_
        refine zab rfl rfl (zaa rfl) (dec_t he (does_neq rfl rfl rfl)) ?_
        refine zab rfl rfl (zaa rfl) (mv_s (.inl rfl) rfl) ?_
        refine zaw rfl rfl (za4 rfl rfl rfl) ?_
        refine zaw rfl rfl (za4 rfl rfl rfl) ?_
        refine zab rfl rfl (zaa rfl) (pickT_s rfl rfl rfl) ?_
        refine zaj ?_
        repeat (first | refine zaf ?_ | refine zak ?_ | refine zad ?_ | refine zal ?_ | refine zac ?_)
        refine aw_true rfl ?_
        repeat (first | refine zaf ?_ | refine zak ?_ | refine zad ?_ | refine zal ?_ | refine zac ?_)
        refine zae ?_
        refine zab rfl rfl (zaa rfl) (mv_sl (.inl rfl) rfl) ?_
        refine zab rfl rfl (zaa rfl) (za2 rfl ts30 rfl) ?_
        refine zab rfl rfl (zaa rfl) (dec_t rfl (does_eql rfl rfl rfl)) ?_
        refine zab rfl rfl (zaa rfl) (mv_s (.inr rfl) rfl) ?_
        refine zaj ?_
        repeat (first | refine zaf ?_ | refine zak ?_ | refine zad ?_ | refine zal ?_ | refine zac ?_)
        (refine zbd ?_; repeat (first | refine ath_r ?_ | refine abl_r ?_))
        exact post1 (.inr rfl) rfl rfl
    | true =>
      obtain ⟨rfl, hgo, hwl, hll⟩ := hL3 rfl
      have hrun := run_ok_pf (P := P) n _ r _ hmk0 (by omega) hgo
      have hword := word_pf (P := P) n r hval (by omega) (goE_range _ _ _ hgo)
      rw [hwl] at hword
      have heq := eqI_pf (P := P) (oneL n.places.toNat n.sink) (oneL n.places.toNat n.sink)
      rw [decide_eq_true rfl] at heq
      have heS := eqS_pf (P := P) l
      refine zae ?_
      refine zab rfl rfl (zaa rfl) (zas rfl ta24 ti24 rfl rfl) ?_
      refine zab rfl rfl (zaa rfl) (mv_sl (.inl rfl) rfl) ?_
      refine zab rfl rfl (zaa rfl) (zav rfl rfl (h4) (zar rfl (zar rfl (zar rfl za0)))) ?_
      refine zab rfl rfl (zaa rfl) (mv_tup (.inl rfl) rfl) ?_
      refine zab rfl rfl (zaa rfl) (zay rfl rfl rfl) ?_
      refine zab rfl rfl (zaa rfl) (zay rfl rfl rfl) ?_
      refine zab rfl rfl (zaa rfl) (zay rfl rfl rfl) ?_
      refine zab rfl rfl (zaa rfl) (mv_s (.inr rfl) rfl) ?_
      refine zab rfl rfl (zaa rfl) (mv_sl (.inr rfl) rfl) ?_
      refine zab rfl rfl (zaa rfl) (mv_s (.inr rfl) rfl) ?_
      refine zaj ?_
      repeat (first | refine zaf ?_ | refine zak ?_ | refine zad ?_ | refine zal ?_ | refine zac ?_)
      refine zae ?_
      refine zab rfl rfl (zaa rfl) (zas rfl ta24 ti24 rfl rfl) ?_
      refine zab rfl rfl (zaa rfl) (mv_sl (.inl rfl) rfl) ?_
      refine zab rfl rfl (zaa rfl) (zav rfl rfl (h5) (zar rfl (zar rfl (zar rfl za0)))) ?_
      refine zab rfl rfl (zaa rfl) (mv_tup (.inl rfl) rfl) ?_
      refine zab rfl rfl (zaa rfl) (zay rfl rfl rfl) ?_
      refine zab rfl rfl (zaa rfl) (zay rfl rfl rfl) ?_
      refine zab rfl rfl (zaa rfl) (mv_s (.inr rfl) rfl) ?_
      refine zab rfl rfl (zaa rfl) (mv_s (.inr rfl) rfl) ?_
      refine zaj ?_
      repeat (first | refine zaf ?_ | refine zak ?_ | refine zad ?_ | refine zal ?_ | refine zac ?_)
      by_cases hf : f = 0
      · subst hf
        have hbz := hL1 rfl rfl
        subst hbz
        refine zae ?_
        refine zab rfl rfl (zaa rfl) (mv_s (.inl rfl) rfl) ?_
        refine zab rfl rfl (zaa rfl) (dec_t rfl (does_eql rfl rfl rfl)) ?_
        refine zab rfl rfl (zaa rfl) (mv_s (.inl rfl) rfl) ?_
        refine zab rfl rfl (zau rfl rfl rfl) (mv_s (.inl rfl) rfl) ?_
        refine zab rfl rfl (zau rfl rfl rfl) (dec_t rfl (does_eql rfl rfl rfl)) ?_
        refine zab rfl rfl (zaa rfl) (pickT_s rfl rfl rfl) ?_
        refine zab rfl rfl (zaa rfl) (mv_s (.inl rfl) rfl) ?_
        refine zab rfl rfl (zau rfl rfl rfl) (mv_s (.inl rfl) rfl) ?_
        refine zab rfl rfl (zau rfl rfl rfl) (mv_s (.inl rfl) rfl) ?_
        refine zab rfl rfl (zau rfl rfl rfl) (does_neqb (by rw [IsP.eq (P := P)]; kernel_rfl) rfl rfl rfl) ?_
        refine zab rfl rfl (zaa rfl) (pickT_s rfl rfl rfl) ?_
        refine zaj ?_
        repeat (first | refine zaf ?_ | refine zak ?_ | refine zad ?_ | refine zal ?_ | refine zac ?_)
        refine za6 rfl ?_
        repeat (first | refine zaf ?_ | refine zak ?_ | refine zad ?_ | refine zal ?_ | refine zac ?_)
        refine zae ?_
        refine zab rfl rfl (zaa rfl) (mv_s (.inl rfl) rfl) ?_
        refine zab rfl rfl (zaa rfl) (dec_f (fun h => h rfl) (does_neq rfl rfl rfl)) ?_
        refine zab rfl rfl (zaa rfl) (mv_s (.inl rfl) rfl) ?_
        refine zab rfl rfl (zau rfl rfl rfl) (mv_s (.inl rfl) rfl) ?_
        refine zab rfl rfl (zau rfl rfl rfl) (does_not rfl rfl) ?_
        refine zab rfl rfl (zaa rfl) (pickF_s rfl rfl rfl) ?_
        refine zaj ?_
        repeat (first | refine zaf ?_ | refine zak ?_ | refine zad ?_ | refine zal ?_ | refine zac ?_)
        refine za6 rfl ?_
        repeat (first | refine zaf ?_ | refine zak ?_ | refine zad ?_ | refine zal ?_ | refine zac ?_)
        refine aw_draw hmix ?_
        refine adraw_quiet (by kernel_rfl) ?_
        refine zba rfl rfl (zaa rfl) (zas rfl ta24 ti24 rfl rfl) ?_
        refine zba rfl rfl (zaa rfl) (zas rfl ta24 ti24 rfl rfl) ?_
        refine zba rfl rfl (zaa rfl) (zag rfl tf24_2 (by decide) rfl) ?_
        refine zba rfl rfl (zaa rfl) (zam rfl ta3 rfl) ?_
        refine zba rfl rfl (zaa rfl) (zav rfl rfl (hone) (zar rfl (zar rfl za0))) ?_
        refine zba rfl rfl (zaa rfl) (mv_sl (.inl rfl) rfl) ?_
        refine zba rfl rfl (zaa rfl) (zav rfl rfl (hrun) (zar rfl (zar rfl (zar rfl za0)))) ?_
        refine zba rfl rfl (zaa rfl) (mv_tup (.inl rfl) rfl) ?_
        refine zba rfl rfl (zaa rfl) (zay rfl rfl rfl) ?_
        refine zba rfl rfl (zaa rfl) (zay rfl rfl rfl) ?_
        refine zba rfl rfl (zaa rfl) (zay rfl rfl rfl) ?_
        refine zba rfl rfl (zaa rfl) (mv_sl (.inr rfl) rfl) ?_
        refine zba rfl rfl (zaa rfl) (mv_s (.inr rfl) rfl) ?_
        refine zba rfl rfl (zaa rfl) (mv_s (.inr rfl) rfl) ?_
        refine qx_nil ?_
        repeat (first | refine zaf ?_ | refine zak ?_ | refine zad ?_ | refine zal ?_ | refine zac ?_)
        refine zae ?_
        refine zab rfl rfl (zaa rfl) (zas rfl ta24 ti24 rfl rfl) ?_
        refine zab rfl rfl (zaa rfl) (mv_sl (.inl rfl) rfl) ?_
        refine zab rfl rfl (zaa rfl) (zav rfl rfl (hword) (zar rfl (zar rfl za0))) ?_
        refine zab rfl rfl (zaa rfl) (mv_tup (.inl rfl) rfl) ?_
        refine zab rfl rfl (zaa rfl) (zay rfl rfl rfl) ?_
        refine zab rfl rfl (zaa rfl) (zay rfl rfl rfl) ?_
        refine zab rfl rfl (zaa rfl) (mv_sl (.inr rfl) rfl) ?_
        refine zab rfl rfl (zaa rfl) (mv_s (.inr rfl) rfl) ?_
        refine zaj ?_
        repeat (first | refine zaf ?_ | refine zak ?_ | refine zad ?_ | refine zal ?_ | refine zac ?_)
        refine zae ?_
        refine zab rfl rfl (zaa rfl) (mv_s (.inl rfl) rfl) ?_
        refine zab rfl rfl (zaa rfl) (dec_t rfl (does_eql rfl rfl rfl)) ?_
        refine zab rfl rfl (zaa rfl) (mv_s (.inl rfl) rfl) ?_
        refine zab rfl rfl (zau rfl rfl rfl) (mv_s (.inl rfl) rfl) ?_
        refine zab rfl rfl (zau rfl rfl rfl) (dec_t rfl (does_eql rfl rfl rfl)) ?_
        refine zab rfl rfl (zaa rfl) (pickT_s rfl rfl rfl) ?_
        refine zab rfl rfl (zaa rfl) (mv_s (.inl rfl) rfl) ?_
        refine zab rfl rfl (zau rfl rfl rfl) (mv_sl (.inl rfl) rfl) ?_
        refine zab rfl rfl (zau rfl rfl rfl) (zas rfl ta24 ti24 rfl rfl) ?_
        refine zab rfl rfl (zau rfl rfl rfl) (zag rfl tf24_3 (by decide) rfl) ?_
        refine zab rfl rfl (zau rfl rfl rfl) (zam rfl ta3 rfl) ?_
        refine zab rfl rfl (zau rfl rfl rfl) (zav rfl rfl (hfin) (zar rfl (zar rfl za0))) ?_
        refine zab rfl rfl (zau rfl rfl rfl) (zav rfl rfl (heq) (zar rfl (zar rfl za0))) ?_
        refine zab rfl rfl (zaa rfl) (pickT_s rfl rfl rfl) ?_
        refine zab rfl rfl (zaa rfl) (mv_s (.inl rfl) rfl) ?_
        refine zab rfl rfl (zau rfl rfl rfl) (mv_sl (.inl rfl) rfl) ?_
        refine zab rfl rfl (zau rfl rfl rfl) (mv_sl (.inl rfl) rfl) ?_
        refine zab rfl rfl (zau rfl rfl rfl) (zav rfl rfl (heS) (zar rfl (zar rfl za0))) ?_
        refine zab rfl rfl (zaa rfl) (pickT_s rfl rfl rfl) ?_
        refine zab rfl rfl (zaa rfl) (mv_s (.inr rfl) rfl) ?_
        refine zaj ?_
        repeat (first | refine zaf ?_ | refine zak ?_ | refine zad ?_ | refine zal ?_ | refine zac ?_)
        (refine zbd ?_; repeat (first | refine ath_r ?_ | refine abl_r ?_))
        exact post1 (.inr rfl) rfl rfl
      · skip
        refine zae ?_
        refine zab rfl rfl (zaa rfl) (mv_s (.inl rfl) rfl) ?_
        refine zab rfl rfl (zaa rfl) (dec_t rfl (does_eql rfl rfl rfl)) ?_
        refine zab rfl rfl (zaa rfl) (mv_s (.inl rfl) rfl) ?_
        refine zab rfl rfl (zau rfl rfl rfl) (mv_s (.inl rfl) rfl) ?_
        refine zab rfl rfl (zau rfl rfl rfl) (dec_f hf (does_eql rfl rfl rfl)) ?_
        refine zab rfl rfl (zaa rfl) (pickT_s rfl rfl rfl) ?_
        refine zab rfl rfl (zaa rfl) (mv_s (.inl rfl) rfl) ?_
        refine zaw rfl rfl (runs_nt rfl rfl rfl) ?_
        refine zaw rfl rfl (runs_nt rfl rfl rfl) ?_
        refine zaw rfl rfl (runs_nt rfl rfl rfl) ?_
        refine zab rfl rfl (zaa rfl) (pickF_s rfl rfl rfl) ?_
        refine zaj ?_
        repeat (first | refine zaf ?_ | refine zak ?_ | refine zad ?_ | refine zal ?_ | refine zac ?_)
        refine za6 rfl ?_
        repeat (first | refine zaf ?_ | refine zak ?_ | refine zad ?_ | refine zal ?_ | refine zac ?_)
        refine zae ?_
        refine zab rfl rfl (zaa rfl) (mv_s (.inl rfl) rfl) ?_
        refine zab rfl rfl (zaa rfl) (dec_f (fun h => h rfl) (does_neq rfl rfl rfl)) ?_
        refine zab rfl rfl (zaa rfl) (mv_s (.inl rfl) rfl) ?_
        refine zab rfl rfl (zau rfl rfl rfl) (mv_s (.inl rfl) rfl) ?_
        refine zab rfl rfl (zau rfl rfl rfl) (does_not rfl rfl) ?_
        refine zab rfl rfl (zaa rfl) (pickF_s rfl rfl rfl) ?_
        refine zaj ?_
        repeat (first | refine zaf ?_ | refine zak ?_ | refine zad ?_ | refine zal ?_ | refine zac ?_)
        refine za6 rfl ?_
        repeat (first | refine zaf ?_ | refine zak ?_ | refine zad ?_ | refine zal ?_ | refine zac ?_)
        refine aw_draw hmix ?_
        refine adraw_quiet (by kernel_rfl) ?_
        refine zba rfl rfl (zaa rfl) (zas rfl ta24 ti24 rfl rfl) ?_
        refine zba rfl rfl (zaa rfl) (zas rfl ta24 ti24 rfl rfl) ?_
        refine zba rfl rfl (zaa rfl) (zag rfl tf24_2 (by decide) rfl) ?_
        refine zba rfl rfl (zaa rfl) (zam rfl ta3 rfl) ?_
        refine zba rfl rfl (zaa rfl) (zav rfl rfl (hone) (zar rfl (zar rfl za0))) ?_
        refine zba rfl rfl (zaa rfl) (mv_sl (.inl rfl) rfl) ?_
        refine zba rfl rfl (zaa rfl) (zav rfl rfl (hrun) (zar rfl (zar rfl (zar rfl za0)))) ?_
        refine zba rfl rfl (zaa rfl) (mv_tup (.inl rfl) rfl) ?_
        refine zba rfl rfl (zaa rfl) (zay rfl rfl rfl) ?_
        refine zba rfl rfl (zaa rfl) (zay rfl rfl rfl) ?_
        refine zba rfl rfl (zaa rfl) (zay rfl rfl rfl) ?_
        refine zba rfl rfl (zaa rfl) (mv_sl (.inr rfl) rfl) ?_
        refine zba rfl rfl (zaa rfl) (mv_s (.inr rfl) rfl) ?_
        refine zba rfl rfl (zaa rfl) (mv_s (.inr rfl) rfl) ?_
        refine qx_nil ?_
        repeat (first | refine zaf ?_ | refine zak ?_ | refine zad ?_ | refine zal ?_ | refine zac ?_)
        refine zae ?_
        refine zab rfl rfl (zaa rfl) (zas rfl ta24 ti24 rfl rfl) ?_
        refine zab rfl rfl (zaa rfl) (mv_sl (.inl rfl) rfl) ?_
        refine zab rfl rfl (zaa rfl) (zav rfl rfl (hword) (zar rfl (zar rfl za0))) ?_
        refine zab rfl rfl (zaa rfl) (mv_tup (.inl rfl) rfl) ?_
        refine zab rfl rfl (zaa rfl) (zay rfl rfl rfl) ?_
        refine zab rfl rfl (zaa rfl) (zay rfl rfl rfl) ?_
        refine zab rfl rfl (zaa rfl) (mv_sl (.inr rfl) rfl) ?_
        refine zab rfl rfl (zaa rfl) (mv_s (.inr rfl) rfl) ?_
        refine zaj ?_
        repeat (first | refine zaf ?_ | refine zak ?_ | refine zad ?_ | refine zal ?_ | refine zac ?_)
        refine zae ?_
        refine zab rfl rfl (zaa rfl) (mv_s (.inl rfl) rfl) ?_
        refine zab rfl rfl (zaa rfl) (dec_t rfl (does_eql rfl rfl rfl)) ?_
        refine zab rfl rfl (zaa rfl) (mv_s (.inl rfl) rfl) ?_
        refine zab rfl rfl (zau rfl rfl rfl) (mv_s (.inl rfl) rfl) ?_
        refine zab rfl rfl (zau rfl rfl rfl) (dec_t rfl (does_eql rfl rfl rfl)) ?_
        refine zab rfl rfl (zaa rfl) (pickT_s rfl rfl rfl) ?_
        refine zab rfl rfl (zaa rfl) (mv_s (.inl rfl) rfl) ?_
        refine zab rfl rfl (zau rfl rfl rfl) (mv_sl (.inl rfl) rfl) ?_
        refine zab rfl rfl (zau rfl rfl rfl) (zas rfl ta24 ti24 rfl rfl) ?_
        refine zab rfl rfl (zau rfl rfl rfl) (zag rfl tf24_3 (by decide) rfl) ?_
        refine zab rfl rfl (zau rfl rfl rfl) (zam rfl ta3 rfl) ?_
        refine zab rfl rfl (zau rfl rfl rfl) (zav rfl rfl (hfin) (zar rfl (zar rfl za0))) ?_
        refine zab rfl rfl (zau rfl rfl rfl) (zav rfl rfl (heq) (zar rfl (zar rfl za0))) ?_
        refine zab rfl rfl (zaa rfl) (pickT_s rfl rfl rfl) ?_
        refine zab rfl rfl (zaa rfl) (mv_s (.inl rfl) rfl) ?_
        refine zab rfl rfl (zau rfl rfl rfl) (mv_sl (.inl rfl) rfl) ?_
        refine zab rfl rfl (zau rfl rfl rfl) (mv_sl (.inl rfl) rfl) ?_
        refine zab rfl rfl (zau rfl rfl rfl) (zav rfl rfl (heS) (zar rfl (zar rfl za0))) ?_
        refine zab rfl rfl (zaa rfl) (pickT_s rfl rfl rfl) ?_
        refine zab rfl rfl (zaa rfl) (mv_s (.inr rfl) rfl) ?_
        refine zaj ?_
        repeat (first | refine zaf ?_ | refine zak ?_ | refine zad ?_ | refine zal ?_ | refine zac ?_)
        (refine zbd ?_; repeat (first | refine ath_r ?_ | refine abl_r ?_))
        exact post1 (.inr rfl) rfl rfl
end Go.Proofs.Ytmhbfoaecebobaa.Aw
namespace Go.Proofs.Ytmhbfoaecebobaa
open Go.ChangeShapes Go.WideShapes Go.ChangeAt Go.RowKit
set_option maxRecDepth 100000 in
theorem replayLanguage_lifted (os : Os) (started : os.Started) (H : Type) (enc : TypeId × Value → H) :
    ReturnsInHanded {} Try.checked os 7 .any (Rows.replayLanguageSpec.pre6 enc Try.prog Try.f7 Rows.replayLanguageRow.domain false) (Rows.replayLanguageSpec.post enc Try.prog Try.f7 false true false false) := by
  refine returnsInHanded_of_change (C := Try.checked) own_knob started (by kernel_rfl) Try.func7
    (ChangeSpec.witness6 (enc := enc) (C := Try.checked) false ⟨#[], #[.agg #[.int .i64 0, .slice none 0 0, .int .i64 0, .int .i64 0], .slice none 0 0], []⟩ 8 (by kernel_rfl) (by kernel_rfl) (by kernel_rfl) (by kernel_rfl)) ?_
  intro W base args ds gs before hval0 hW hcnd _
  have hval : ∀ (j : Nat) t v, Try.f7.params[j]? = some t → args[j]? = some v → Value.okWide Try.prog W .any base t v := hval0
  have hW' := hW
  obtain ⟨p, q, hA0, hV, rfl, hfz, hnd⟩ := hW
  have hA : DataW.TrodAll enc Try.prog W 0 (fun _ => true) true Try.f7.params.toList args.toList ds p := hA0
  rw [Try.params7] at hA hval
  obtain ⟨v0, v1, d0, d1, p0, p1, rfl, rfl, rfl, h0, h1⟩ := trodAll_two hA
  obtain ⟨rfl, rfl⟩ := trodVars_none hV
  obtain ⟨n, vt, rfl, hn⟩ := open_net (hval 0 24 v0 rfl rfl) h0
  obtain ⟨l, hs⟩ := open_strs' (hval 1 25 v1 rfl rfl) h1
  simp only [List.append_nil] at hW'
  refine (Aw.pure_law (Aw.lawLang_pf (P := Try.prog) n l) W #[netV n vt, v1] rfl (fun j v x hv hx => ?_)).mono fun e W' ⟨he, hb⟩ => ?_
  · match j, hv, hx with
    | 0, hv, hx => simp at hv hx; subst hv hx; exact Aw.rep_net0 hn
    | 1, hv, hx => simp at hv hx; subst hv hx; exact Aw.rdS_rep (G := Aw.G0 W) hs (fun b o _ _ h => h)
    | j + 2, hv, hx => simp at hv
  subst he
  have hp : ∀ x ∈ p0 ++ p1, x.block < W.heap.size := fun x hx => hW'.lt x (by simpa using hx)
  have hg := trodAll_mk2 (Below.trod laid_out (by kernel_rfl) (of_decide_eq_true (by kernel_rfl)) h0 hb (fun x hx => hp x (by simp [hx]))) (Below.trod laid_out (by kernel_rfl) (of_decide_eq_true (by kernel_rfl)) h1 hb (fun x hx => hp x (by simp [hx])))
  exact ⟨_, rfl, law_post (t := 4) hW' (by kernel_rfl) Try.underlying4 ⟨rfl, rfl, rfl⟩ rfl hg hb⟩
theorem replayLanguage_holds : Rows.ReplayLanguageSaid :=
  OpenClaim.holds_of_wide 7 Try.f7 rfl rfl rfl rfl rfl rfl rfl ⟨rfl, rfl, rfl, rfl, rfl⟩ rfl rfl rfl rfl rfl (by kernel_rfl) Try.func7 (by kernel_rfl)
    (of_decide_eq_true (by kernel_rfl)) (by unfold Func.isWrapper; first | (rw [if_pos (by decide +kernel)]; kernel_rfl) | (rw [if_neg (by decide +kernel)]; exact ⟨rfl, rfl⟩))
    (fun os started H enc _ => replayLanguage_lifted os started H enc)
#print axioms replayLanguage_holds
end Go.Proofs.Ytmhbfoaecebobaa
end
