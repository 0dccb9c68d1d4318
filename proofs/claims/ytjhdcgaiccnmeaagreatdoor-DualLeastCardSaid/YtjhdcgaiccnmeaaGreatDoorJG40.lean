import Derived.Test.YtjhdcgaiccnmeaaGreatDoorJG39
import Derived.Test.YtjhdcgaiccnmeaaGreatDoorJG35
import Derived.Test.YtjhdcgaiccnmeaaGreatDoorJG30
import Derived.Test.YtjhdcgaiccnmeaaGreatDoorJG24
import Derived.Test.YtjhdcgaiccnmeaaGreatDoorJG15
set_option linter.unusedSimpArgs false
set_option linter.unusedVariables false
set_option linter.unusedSectionVars false
section
namespace Go.Proofs.YtjhdcgaiccnmeaaGreatDoor.Aw
open Go Go.RowKit Go.Proofs Go.Maps Go.WideMaps Dl
variable {P : Program} [IsP P]
theorem pvalid_pf (n : Net) : Pure P 89 [eN n] (eB (zbc n)) :=
 retB_pure (zdg Tryz.func89 rfl rfl) fun G vargs hst hsz hrep => by
  obtain ⟨vt, rfl, h1⟩ := args1 hst hsz hrep
  exact valid_any n vt _ _ G.w h1
theorem lblD_app (n : Net) : ∀ a b : List Int, lblD n (a ++ b) = lblD n a ++ lblD n b
 | [], b => rfl
 | t :: a, b => by
  rw [List.cons_append, lblD, lblD, lblD_app n a b]
  split <;> rfl
theorem label_e {s : ByteArray} : s.toList.isEmpty = decide (s = { data := #[] }) := by
 by_cases h : s = { data := #[] }
 ·
  rw [decide_eq_true h]; subst h; decide +kernel
 ·
  rw [decide_eq_false h]; exact isEmpty_ne h
def rngB (n : Net) (l : List Int) : Bool := l.all fun t => decide (0 ≤ t) && decide (t < n.trans.length)
def wordF (n : Net) (l : List Int) : List ByteArray × Int := if zbc n = false then ([], 1) else if 1000 < l.length then ([], 5) else if rngB n l = true then (lblD n l, 0) else ([], 2)
theorem rowS_lo (l : List ByteArray) : ∀ e ∈ l.map eS, ∀ c ∈ e.cells, Lo 0 c := by
 intro e he c hc
 obtain ⟨x, _, rfl⟩ := List.mem_map.1 he
 simp [eS, AV.cells] at hc
 subst hc
 exact .s _
theorem word44_pf (n : Net) (l : List Int) : Pure P 37 [eN n, eL eI l] (.tup [eL eS (wordF n l).1, eI (wordF n l).2]) := by
 have h1 := pvalid_pf (P := P) n
 have hW : wordF n l = if zbc n = false then ([], 1) else if 1000 < l.length then ([], 5) else if rngB n l = true then (lblD n l, 0) else ([], 2) := rfl
 generalize wordF n l = R at hW ⊢
 generalize zbc n = bv at h1 hW
 have hln : Lo 0 (.ref (eN n).cells) := .ref _ (lo_N n).cells
 refine zbb (by rw [IsP.eq (P := P)]; exact Tryz.func37) rfl rfl rfl rfl rfl (zah (lo_N n) (zah lo_I zap)) (.tup _ (zah (lo_W _) (zah (.s _) zap))) (by simp only [argF]; rfl) ?_
 refine zaf (zae (zab rfl rfl (zaa rfl) (zb1 rfl rfl rfl rfl) ?_))
 refine za5 (zbv (id := 0) rfl) (za5 (zcf (d := 2) rfl rfl rfl) ?_)
 refine zbe rfl (zbe rfl (zaj (zaf (zac (zaf ?_)))))
 cases bv with
 | false =>
  rw [if_pos rfl] at hW
  subst hW
  refine zae (zb2 ta24 ti24 rfl (zab rfl rfl (zaa rfl) (zav rfl rfl (h1) (zar rfl za0)) (zab rfl rfl (zaa rfl) (zbh rfl rfl) (zbe rfl (zaj (zak (zbl rfl (zaf (zae (zbe rfl (zbe rfl (zaj (zak ?_)))))))))))))
  (refine zbd ?_; repeat (first | refine zbn ?_ | refine zbo ?_))
  exact post2 (.inr rfl) rfl rfl .nil (.refl _)
 | true =>
 rw [if_neg (by decide)] at hW
 by_cases hl : (l.length : Int) > 1000
 ·
  rw [if_pos (by omega)] at hW
  subst hW
  refine zae (zb2 ta24 ti24 rfl (zab rfl rfl (zaa rfl) (zav rfl rfl (h1) (zar rfl za0)) (zab rfl rfl (zaa rfl) (zbh rfl rfl) (zbe rfl (zaj (zak (za6 rfl (zaf (zae (zbe rfl (zab rfl rfl (zaa rfl) (za2 rfl ts29 rfl) (zab rfl rfl (zaa rfl) (zck hl (zb6 rfl rfl rfl)) (zbe rfl (zaj (zak (zbl rfl (zaf (zae (zbe rfl (zbe rfl (zaj (zak ?_))))))))))))))))))))))
  (refine zbd ?_; repeat (first | refine zbn ?_ | refine zbo ?_))
  exact post2 (.inr rfl) rfl rfl .nil (.refl _)
 rw [if_neg (by omega)] at hW
 refine zae (zb2 ta24 ti24 rfl (zab rfl rfl (zaa rfl) (zav rfl rfl (h1) (zar rfl za0)) (zab rfl rfl (zaa rfl) (zbh rfl rfl) (zbe rfl (zaj (zak (za6 rfl (zaf (zae (zbe rfl (zab rfl rfl (zaa rfl) (za2 rfl ts29 rfl) (zab rfl rfl (zaa rfl) (zc7 hl (zb6 rfl rfl rfl)) (zbe rfl (zaj (zak (za6 rfl (zad (zaf (zae (zbe rfl (zaj (zaf (zaf ?_)))))))))))))))))))))))
 refine zbz (wk_own (d := 6) (x := .s (.slice none 0 0)) 1 rfl (.inr rfl)) ?_
 refine zae (zbe rfl (zab rfl rfl (zaa rfl) (za2 rfl ts29 rfl) (zbe rfl (zaj (zak (zac ?_))))))
 refine zdc (S := Nat) (fun k => [(2, .ref (eN n).cells), (6, .own 0 1 (lblD n (l.take k)).length), (18, eL eI l), (19, eI l.length), (20, eI k)]) (fun k => [.row 1 ((lblD n (l.take k)).map eS)]) (fun k => k ≤ l.length ∧ ∀ j, j < k → 0 ≤ gti l j ∧ gti l j < n.trans.length) (fun k => l.length - k) 0
  (zc9 [1] (by decide) ⟨⟨_, rfl, .rowE (by simp [lblD]) rfl⟩, trivial⟩ ⟨.lo _ hln, .own 1 0 1 _ _ rfl rfl, .lo _ lo_I, .lo _ (.s _), .lo _ (.s _), trivial⟩) ⟨Nat.zero_le _, fun j hj => by omega⟩ (fun k hk => ?_)
 obtain ⟨hk, hall⟩ := hk
 have hlk : (lblD n (l.take k)).length ≤ k := by have := lblD_len n (l.take k); rw [List.length_take] at this; omega
 refine zaf (zae ?_)
 refine zbw rfl rfl (zaa rfl) (zb3 rfl rfl rfl) (fun h21 => ?_) (fun h21 => ?_)
 all_goals refine zaj (zaf ?_)
 all_goals (first | refine zbl rfl ?_ | refine za6 rfl ?_)
 all_goals (repeat (first | refine zaf ?_ | refine zad ?_ | refine zac ?_))
 ·
  have hlt : k < l.length := by omega
  have hix : (l.map eI)[k]? = some (eI (gti l k)) := zcw hlt
  have hmem : gti l k ∈ l := gti_mem hlt
  have htk : lblD n (l.take (k + 1)) = lblD n (l.take k) ++ if (gti n.trans (gti l k).toNat).label.toList.isEmpty then [] else [(gti n.trans (gti l k).toNat).label] := by
   rw [List.take_add_one, zbu hlt]
   show lblD n (l.take k ++ [gti l k]) = _
   rw [lblD_app]
   congr 1
  have hlm : ((lblD n (l.take k)).map eS).length = (lblD n (l.take k)).length := by simp
  have hnx : (0 ≤ gti l k ∧ gti l k < n.trans.length) → ∀ j, j < k + 1 → 0 ≤ gti l j ∧ gti l j < n.trans.length := fun h j hj => by
   by_cases e : j = k
   ·
    subst e; exact h
   ·
    exact hall j (by omega)
  have hbad : ¬ (0 ≤ gti l k ∧ gti l k < n.trans.length) → R = ([], 2) := fun h => by
   rw [if_neg (fun hr => by
    unfold rngB at hr
    have := List.all_eq_true.1 hr _ hmem
    simp only [Bool.and_eq_true, decide_eq_true_eq] at this
    exact h this)] at hW
   exact hW
  rw [label_e] at htk
  generalize gti l k = y at *
  refine zae (zab rfl rfl (zaa rfl) (za1 rfl ts29 ti3 rfl rfl rfl hix rfl) (zbk ta3 rfl (zbe rfl (zaj (zaf (zaf ?_))))))
  by_cases g1 : y < 0
  ·
   have hb := hbad (by omega)
   subst hb
   refine zae (zbe rfl (zab rfl rfl (zaa rfl) (zck g1 (zb3 rfl rfl rfl)) (zbe rfl (zbf rfl (zbf rfl (zbf rfl (zbf rfl (zbf rfl (zbe rfl (zaj (zak (zbl rfl (zaf (zae (zbe rfl (zbe rfl (zaj (zak ?_))))))))))))))))))
   (refine zbd ?_; repeat (first | refine zbn ?_ | refine zbo ?_))
   exact post2 (.inr rfl) rfl rfl .nil (.refl _)
  by_cases g2 : y ≥ (n.trans.length : Int)
  ·
   have hb := hbad (by omega)
   subst hb
   refine zae (zbe rfl (zab rfl rfl (zaa rfl) (zc7 g1 (zb3 rfl rfl rfl)) (zbe rfl (zbe rfl (zbq tf24_1 rfl (zbk ta22 rfl (zab rfl rfl (zau rfl rfl rfl) (za2 rfl ts22 rfl) (zab rfl rfl (zau rfl rfl rfl) (zck g2 (does_geq rfl rfl rfl)) (zbe rfl (zaj (zak (zbl rfl (zaf (zae (zbe rfl (zbe rfl (zaj (zak ?_))))))))))))))))))
   (refine zbd ?_; repeat (first | refine zbn ?_ | refine zbo ?_))
   exact post2 (.inr rfl) rfl rfl .nil (.refl _)
  obtain ⟨q, hq⟩ : ∃ q : Nat, y = q := ⟨y.toNat, by omega⟩
  have hqn : q < n.trans.length := by omega
  have hixt : (n.trans.map eT)[q]? = some (eT (gti n.trans q)) := zcw hqn
  rw [show y.toNat = q by omega] at htk
  have hnx2 := hnx ⟨by omega, by omega⟩
  generalize gti n.trans q = t at *
  refine zae (zbe rfl (zab rfl rfl (zaa rfl) (zc7 g1 (zb3 rfl rfl rfl)) (zbe rfl (zbe rfl (zbq tf24_1 rfl (zbk ta22 rfl (zab rfl rfl (zau rfl rfl rfl) (za2 rfl ts22 rfl) (zab rfl rfl (zau rfl rfl rfl) (zc7 g2 (does_geq rfl rfl rfl)) (zbe rfl (zaj (zak (za6 rfl (zad (zaf (zae (zbq tf24_1 rfl (zbk ta22 rfl (zbe rfl (zab rfl rfl (zaa rfl) (za1 rfl ts22 ti86 rfl rfl hq hixt rfl) (zbq tf86_0 rfl (zbk ta9 rfl (zbe rfl (zaj (zaf ?_))))))))))))))))))))))))
  by_cases hsl : t.label = { data := #[] }
  ·
   rw [decide_eq_true hsl, if_pos rfl, List.append_nil] at htk
   refine zae (zbe rfl ?_)
   refine zab rfl rfl (zaa rfl) (zc7 (fun h => h hsl) (does_nes rfl rfl rfl)) ?_
   refine zaj (zak (za6 rfl (zad (zal (zak (zae (zab rfl rfl (zaa rfl) (zbj rfl rfl rfl (IntWalk.i64_in _ (by omega))) (zbe rfl (zaj (zak ?_))))))))))
   exact ⟨k + 1, ⟨by omega, hnx2⟩, by omega, zc9 [0] (by decide) ⟨⟨_, rfl, .rowE (rowS_lo _) (by rw [htk])⟩, trivial⟩ ⟨.lo _ hln, .own 0 0 1 _ _ rfl (by rw [htk]), .lo _ lo_I, .lo _ (.s _), .lo _ (.s _), trivial⟩⟩
  ·
   rw [decide_eq_false hsl, if_neg (by decide)] at htk
   refine zae (zbe rfl (zab rfl rfl (zaa rfl) (zck hsl (does_nes rfl rfl rfl)) (zaj (zak (zbl rfl (zae (zbe rfl (zbe rfl (zab rfl rfl (zaa rfl) (lit1_sF rfl ts25 ti9 rfl rfl rfl rfl) ?_)))))))))
   refine zab rfl rfl (zaa rfl) (zcr rfl ts25 ti9 rfl (by decide) rfl rfl (by first | rfl | (simp; done) | (simp; omega)) rfl (by first | exact .own _ _ _ rfl rfl _ (by first | rfl | simp) | exact .emp | exact .nil | exact .sl _ (by first | simp; done | intro e he; simp at he; obtain ⟨_, _, rfl⟩ := he; rfl)) (by first | omega | (simp; omega) | (unfold maxLen; simp; omega)) (by first | omega | (simp; omega) | (unfold maxLen; simp; omega))) ?_
   refine zbe rfl (zaj (zal (zak (zae (zab rfl rfl (zaa rfl) (zbj rfl rfl rfl (IntWalk.i64_in _ (by omega))) (zbe rfl (zaj (zak ?_))))))))
   exact ⟨k + 1, ⟨by omega, hnx2⟩, by omega, zc9 [1] (by decide) ⟨⟨_, rfl, .rowE (rowS_lo _) (by rw [htk, List.map_append]; rfl)⟩, trivial⟩ ⟨.lo _ hln, .own 1 0 1 _ _ rfl (by rw [htk]; simp), .lo _ lo_I, .lo _ (.s _), .lo _ (.s _), trivial⟩⟩
 ·
  have e : k = l.length := by omega
  subst e
  rw [List.take_length] at *
  have hr : rngB n l = true := List.all_eq_true.2 fun t ht => by
   obtain ⟨j, hj, rfl⟩ := mem_gti' ht
   have := hall j hj
   simp only [Bool.and_eq_true, decide_eq_true_eq]
   exact this
  rw [if_pos hr] at hW
  subst hW
  (refine zdd ?_; repeat (first | refine ath_x ?_ | refine zco ?_ | refine zce rfl ?_ | refine zal ?_ | refine zak ?_ | refine zaf ?_ | refine zad ?_ | refine zac ?_))
  refine zae (zbe rfl (zbe rfl (zbe rfl (zaj (zak ?_)))))
  (refine zbd ?_; repeat (first | refine zbn ?_ | refine zbo ?_))
  exact post2 (.inr rfl) rfl rfl (.own _ _ _ _ _ rfl rfl (by simp)) (.refl _)
theorem pfire_pf (n : Net) (m : List Int) (t : Int) (hm : zcu n m = true) : Pure P 93 [eN n, eL eI m, eI t] (.tup [eL eI (fireE n m t).1, eI (fireE n m t).2]) :=
 retI_pure (zdg Tryz.func93 rfl rfl) fun G vargs hst hsz hrep => by
  obtain ⟨vt, v, rfl, h1, h2⟩ := args3 hst hsz hrep
  exact fire_any n m t vt v _ _ _ _ G.w h1 h2 hm
theorem pmark_pf (n : Net) (m : List Int) : Pure P 91 [eN n, eL eI m] (eB (zcu n m)) :=
 retB_pure (zdg Tryz.func91 rfl rfl) fun G vargs hst hsz hrep => by
  obtain ⟨vt, v, rfl, h1, h2⟩ := args2 hst hsz hrep
  exact marking_any n m vt v _ _ _ _ G.w h1 h2
def runX (n : Net) : List Int → List Int → Int → List Int × Int × Int
 | m, [], i => (m, i, 0)
 | m, t :: ts, i => if (fireE n m t).2 = 0 then runX n (fireE n m t).1 ts (i + 1) else ([], i, (fireE n m t).2)
theorem runX_ok {n : Net} : ∀ {l m : List Int} {i : Int}, (runX n m l i).2.2 = 0 → runD n m l = some (runX n m l i).1
 | [], m, i, h => rfl
 | t :: ts, m, i, h => by
  rw [runX] at h ⊢
  rw [runD]
  split at h
  ·
   rename_i h0
   rw [if_pos h0, if_pos h0]
   exact runX_ok h
  ·
   rename_i h0; exact absurd h h0
theorem run44_pf (n : Net) (m l : List Int) (hm : zcu n m = true) (hl : l.length ≤ 1000) : Pure P 40 [eN n, eL eI m, eL eI l] (.tup [eL eI (runX n m l 0).1, eI (runX n m l 0).2.1, eI (runX n m l 0).2.2]) := by
 have h1 := pmark_pf (P := P) n m
 rw [hm] at h1
 have hml := markB_len hm
 have hpl := za8 (show zbc n = true by unfold zcu at hm; simp only [Bool.and_eq_true] at hm; exact hm.1)
 have h2 := cloneI_pf (P := P) m (by omega) (by omega)
 have hln : Lo 0 (.ref (eN n).cells) := .ref _ (lo_N n).cells
 generalize hR : runX n m l 0 = R
 refine zbb (by rw [IsP.eq (P := P)]; exact Tryz.func40) rfl rfl rfl rfl rfl (zah (lo_N n) (zah lo_I (zah lo_I zap))) (.tup _ (zah lo_I (zah (.s _) (zah (.s _) zap)))) (by simp only [argF]; rfl) ?_
 refine zaf (zae (zab rfl rfl (zaa rfl) (zb1 rfl rfl rfl rfl) ?_))
 refine za5 (zbv (id := 0) rfl) (za5 (zcf (d := 3) rfl rfl rfl) ?_)
 refine zbe rfl (zbe rfl (zbe rfl (zaj (zaf (zac (zaf (zae (zb2 ta24 ti24 rfl (zbe rfl (zab rfl rfl (zaa rfl) (zav rfl rfl (h1) (zar rfl (zar rfl za0))) (zab rfl rfl (zaa rfl) (zbh rfl rfl) (zbe rfl (zaj (zak (za6 rfl (zaf (zae (zbe rfl (zab rfl rfl (zaa rfl) (za2 rfl ts29 rfl) (zab rfl rfl (zaa rfl) (zc7 (by omega) (zb6 rfl rfl rfl)) (zbe rfl (zaj (zak (za6 rfl (zad (zaf (zae (zbe rfl (zab rfl rfl (zaa rfl) (zav rfl rfl (h2) (zar rfl za0)) ?_)))))))))))))))))))))))))))))
 refine zbe rfl (zaj (zaf (zaf (zae (zbe rfl (zab rfl rfl (zaa rfl) (za2 rfl ts29 rfl) (zbe rfl (zaj (zak (zac ?_))))))))))
 refine zdc (S := Nat × List Int) (fun p => [(2, eL eI l), (3, .ref (eN n).cells), (9, eL eI p.2), (25, eL eI l), (26, eI l.length), (27, eI p.1)]) (fun _ => []) (fun p => p.1 ≤ l.length ∧ zcu n p.2 = true ∧ R = runX n p.2 (l.drop p.1) p.1) (fun p => l.length - p.1) (0, m)
  (zc9 [] (by decide) trivial ⟨.lo _ lo_I, .lo _ hln, .lo _ lo_I, .lo _ lo_I, .lo _ (.s _), .lo _ (.s _), trivial⟩) ⟨Nat.zero_le _, hm, hR.symm⟩ (fun p hp => ?_)
 clear hm h1 h2 hml hR
 obtain ⟨k, m⟩ := p
 obtain ⟨hk, hm, hg⟩ := hp
 replace hk : k ≤ l.length := hk
 replace hm : zcu n m = true := hm
 replace hg : R = runX n m (l.drop k) k := hg
 refine zaf (zae ?_)
 refine zbw rfl rfl (zaa rfl) (zb3 rfl rfl rfl) (fun h28 => ?_) (fun h28 => ?_)
 all_goals refine zaj (zaf ?_)
 all_goals (first | refine zbl rfl ?_ | refine za6 rfl ?_)
 all_goals (repeat (first | refine zaf ?_ | refine zad ?_ | refine zac ?_))
 all_goals dsimp only at h28
 ·
  have hkt : k < l.length := by omega
  have hix : (l.map eI)[k]? = some (eI (gti l k)) := zcw hkt
  rw [zda hkt, runX] at hg
  have hf := pfire_pf (P := P) n m (gti l k) hm
  have hfm := fun h => fireE_mark (t := gti l k) hm h
  generalize fireE n m (gti l k) = r at hf hfm hg
  by_cases h0 : r.2 = 0
  ·
   rw [if_pos h0] at hg
   refine zae (zbe rfl (zab rfl rfl (zaa rfl) (za1 rfl ts29 ti3 rfl rfl rfl hix rfl) (zbk ta3 rfl (zbe rfl (zbe rfl (zaj (zaf (zae (zb2 ta24 ti24 rfl (zbe rfl (zbe rfl (zab rfl rfl (zaa rfl) (zav rfl rfl (hf) (zar rfl (zar rfl (zar rfl za0)))) (zbe rfl (zbe rfl (zbe rfl (zbe rfl (zbe rfl (zaj (zaf (zaf (zae (zbe rfl ?_))))))))))))))))))))))
   refine zab rfl rfl (zaa rfl) (zc7 (fun h => h h0) (zb0 rfl rfl rfl)) ?_
   refine zaj (zak (za6 rfl (zad (zak (zae (zbe rfl (zbe rfl (zaj (zal (zak (zae (zab rfl rfl (zaa rfl) (zbj rfl rfl rfl (IntWalk.i64_in _ (by omega))) (zbe rfl (zaj (zak ?_)))))))))))))))
   exact ⟨(k + 1, r.1), ⟨by show k + 1 ≤ l.length; omega, hfm h0, by rw [hg]; rfl⟩, by show l.length - (k + 1) < l.length - k; omega, zc9 [] (by decide) trivial ⟨.lo _ lo_I, .lo _ hln, .lo _ lo_I, .lo _ lo_I, .lo _ (.s _), .lo _ (.s _), trivial⟩⟩
  ·
   rw [if_neg h0] at hg
   subst hg
   refine zae (zbe rfl (zab rfl rfl (zaa rfl) (za1 rfl ts29 ti3 rfl rfl rfl hix rfl) (zbk ta3 rfl (zbe rfl (zbe rfl (zaj (zaf (zae (zb2 ta24 ti24 rfl (zbe rfl (zbe rfl (zab rfl rfl (zaa rfl) (zav rfl rfl (hf) (zar rfl (zar rfl (zar rfl za0)))) (zbe rfl (zbe rfl (zbe rfl (zbe rfl (zbe rfl (zaj (zaf (zaf (zae (zbe rfl (zab rfl rfl (zaa rfl) (zck h0 (zb0 rfl rfl rfl)) (zaj (zak (zbl rfl (zaf (zae (zbe rfl (zbe rfl (zbe rfl ?_)))))))))))))))))))))))))))))))
   refine zbe rfl (zbe rfl (zaj (zak ?_)))
   (refine zbd ?_; repeat (first | refine zbn ?_ | refine zbo ?_))
   exact post3 (.inr rfl) rfl rfl rfl .nil (.refl _) (.refl _)
 ·
  have e : k = l.length := by omega
  subst e
  rw [List.drop_length] at hg
  replace hg : R = (m, (l.length : Int), 0) := hg
  subst hg
  (refine zdd ?_; repeat (first | refine ath_x ?_ | refine zco ?_ | refine zce rfl ?_ | refine zal ?_ | refine zak ?_ | refine zaf ?_ | refine zad ?_ | refine zac ?_))
  refine zae (zbe rfl (zbe rfl (zab rfl rfl (zaa rfl) (za2 rfl ts29 rfl) (zbe rfl (zbe rfl (zbe rfl (zaj (zak ?_))))))))
  (refine zbd ?_; repeat (first | refine zbn ?_ | refine zbo ?_))
  exact post3 (.inr rfl) rfl rfl rfl (.refl _) (.refl _) (.refl _)
end Go.Proofs.YtjhdcgaiccnmeaaGreatDoor.Aw
end
