import Derived.Test.YtllkbjcemecmjaaJR4
import Derived.Test.YtllkbjcemecmjaaJR5
set_option linter.unusedSimpArgs false
set_option linter.unusedVariables false
set_option linter.unusedSectionVars false
section
namespace Go.Proofs.Ytllkbjcemecmjaa.Aw
open Go.RowKit Go.Proofs
variable {P : Program} [IsP P]
theorem fvalid1_pf (a : Fr) : Pure P 96 [eF a] (eB (!a.okB)) := by
 refine zcu (by rw [IsP.eq (P := P)]; exact Try.func96) rfl rfl rfl rfl rfl (by repeat' (first | exact Lo.s _ | exact zak | refine zag ?_ ?_ | refine zan ?_ | refine Lo.agg _ ?_ | refine Lo.sl _ ?_ | intro _)) (.s _) (by simp only [argF]; rfl) ?_
 refine zah (zab (zaf rfl rfl (zaa rfl) (zb4 rfl rfl rfl rfl) ?_))
 refine za5 (zbs (id := 0) rfl) (za5 (zch (d := 1) rfl rfl rfl) ?_)
 refine zac rfl (zae (zah (zab (zc5 ta51 ti51 rfl (zaf rfl rfl (zaa rfl) (zam rfl rfl (fValid_pf _) (zad rfl zaq)) (zaf rfl rfl (zaa rfl) (does_notp rfl rfl) (zac rfl (zae (zai ?_)))))))))
 (refine za8 ?_; repeat (first | refine zbg ?_ | refine zbh ?_))
 exact zcb (.inr rfl) rfl (congrArg eB (by simp [Fr.okB]))
theorem fvalid_pf (l : List Fr) : Pure P 86 [eL eF l] (eB (l.all Fr.okB)) := by
 have hc := containsFF_pf (P := P) 96 [] (fun a => !a.okB) l lo_F (.fn _ _ (by simp)) (fun a _ => fvalid1_pf a)
 refine zcu (by rw [IsP.eq (P := P)]; exact Try.func86) rfl rfl rfl rfl rfl (by repeat' (first | exact Lo.s _ | exact zak | refine zag ?_ ?_ | refine zan ?_ | refine Lo.agg _ ?_ | refine Lo.sl _ ?_ | intro _)) (.s _) (by simp only [argF]; rfl) ?_
 refine zah (zab (zac rfl (zae (zah (zab (zac rfl ?_))))))
 refine zaf rfl rfl (zaa rfl) (zam rfl rfl (by assumption) (zad rfl (zad rfl zaq))) ?_
 refine zaf rfl rfl (zaa rfl) (zbv rfl rfl) (zac rfl (zae (zai ?_)))
 (refine za8 ?_; repeat (first | refine zbg ?_ | refine zbh ?_))
 exact zcb (.inr rfl) rfl (congrArg eB (all_okB l).symm)
def dotG : Fr → List Fr → List Fr → FE
 | acc, a :: ta, b :: tb => if (mulE a b).e ≠ 0 then FE.err (mulE a b).e else if (addE acc ⟨(mulE a b).n, (mulE a b).d⟩).e ≠ 0 then FE.err (addE acc ⟨(mulE a b).n, (mulE a b).d⟩).e else dotG ⟨(addE acc ⟨(mulE a b).n, (mulE a b).d⟩).n, (addE acc ⟨(mulE a b).n, (mulE a b).d⟩).d⟩ ta tb
 | acc, _, _ => ⟨acc.n, acc.d, 0⟩
def dotE (a b : List Fr) : FE := if ¬ (a.all Fr.okB = true ∧ b.all Fr.okB = true) then FE.err 1 else if 1000 < a.length ∨ 1000 < b.length then FE.err 5 else if a.length ≠ b.length then FE.err 29 else dotG (Fr.of 0) a b
theorem dotG_step {acc : Fr} {a b : List Fr} {k : Nat} (h1 : k < a.length) (h2 : k < b.length) : dotG acc (a.drop k) (b.drop k) = if (mulE (gti a k) (gti b k)).e ≠ 0 then FE.err (mulE (gti a k) (gti b k)).e else if (addE acc ⟨(mulE (gti a k) (gti b k)).n, (mulE (gti a k) (gti b k)).d⟩).e ≠ 0 then FE.err (addE acc ⟨(mulE (gti a k) (gti b k)).n, (mulE (gti a k) (gti b k)).d⟩).e else dotG ⟨(addE acc ⟨(mulE (gti a k) (gti b k)).n, (mulE (gti a k) (gti b k)).d⟩).n, (addE acc ⟨(mulE (gti a k) (gti b k)).n, (mulE (gti a k) (gti b k)).d⟩).d⟩ (a.drop (k + 1)) (b.drop (k + 1)) := by
 have e1 : a.drop k = gti a k :: a.drop (k + 1) := by
  rw [List.drop_eq_getElem_cons h1]
  have := zdp h1
  rw [List.getElem?_eq_getElem h1] at this
  rw [Option.some.inj this]
 have e2 : b.drop k = gti b k :: b.drop (k + 1) := by
  rw [List.drop_eq_getElem_cons h2]
  have := zdp h2
  rw [List.getElem?_eq_getElem h2] at this
  rw [Option.some.inj this]
 rw [e1, e2, dotG]
theorem dotG_end {acc : Fr} {a b : List Fr} {k : Nat} (h : k = a.length) : dotG acc (a.drop k) (b.drop k) = ⟨acc.n, acc.d, 0⟩ := by
 subst h
 rw [List.drop_length, dotG]
 intro a ta b tb h; cases h
theorem dotE_arg {a b : List Fr} (h : ¬ (a.all Fr.okB = true ∧ b.all Fr.okB = true)) : dotE a b = ⟨0, 0, 1⟩ := if_pos h
theorem dotE_full {a b : List Fr} (h1 : a.all Fr.okB = true) (h2 : b.all Fr.okB = true) (h : 1000 < a.length ∨ 1000 < b.length) : dotE a b = ⟨0, 0, 5⟩ := by unfold dotE; rw [if_neg (fun h => h ⟨h1, h2⟩), if_pos h]; rfl
theorem dotE_size {a b : List Fr} (h1 : a.all Fr.okB = true) (h2 : b.all Fr.okB = true) (h3 : ¬ (1000 < a.length ∨ 1000 < b.length)) (h : a.length ≠ b.length) : dotE a b = ⟨0, 0, 29⟩ := by unfold dotE; rw [if_neg (fun h => h ⟨h1, h2⟩), if_neg h3, if_pos h]; rfl
theorem dotE_go {a b : List Fr} (h1 : a.all Fr.okB = true) (h2 : b.all Fr.okB = true) (h3 : ¬ (1000 < a.length ∨ 1000 < b.length)) (h : a.length = b.length) : dotE a b = dotG (Fr.of 0) (a.drop 0) (b.drop 0) := by unfold dotE; rw [if_neg (fun h => h ⟨h1, h2⟩), if_neg h3, if_neg (fun h' => h' h)]; rfl
set_option maxHeartbeats 1000000 in
theorem fDot_pf (a b : List Fr) : Pure P 65 [eL eF a, eL eF b] (eFE (dotE a b)) := by
 refine zcu (by rw [IsP.eq (P := P)]; exact Try.func65) rfl rfl rfl rfl rfl (by repeat' (first | exact Lo.s _ | exact zak | refine zag ?_ ?_ | refine zan ?_ | refine Lo.agg _ ?_ | refine Lo.sl _ ?_ | intro _)) (by repeat' (first | exact Lo.s _ | exact zak | refine zag ?_ ?_ | refine zan ?_ | refine Lo.cells ?_ | refine Lo.agg _ ?_ | refine Lo.ref _ ?_ | refine Lo.tup _ ?_ | refine Lo.fn _ _ ?_ | refine Lo.sl _ ?_ | intro _)) (by simp only [argF]; rfl) ?_
 refine zah ?_
 refine aw_bdm (d := 0) rfl (fun hm1 => ?_)
 refine aw_bdm (d := 1) rfl (fun hm2 => ?_)
 unfold maxLen at hm1 hm2
 refine zab (zaf rfl rfl (zaa rfl) (za0 rfl ti51 rfl rfl) (zac rfl (zae (zah (zaw (zah (zab (zac rfl ?_))))))))
 refine zcx rfl rfl (zaa rfl) (zam rfl rfl (fvalid_pf _) (zad rfl zaq)) (fun h12 => ?_) (fun h12 => ?_)
 all_goals refine zaf rfl rfl (zaa rfl) (zbv rfl rfl) (zac rfl ?_)
 all_goals (first | refine zac rfl ?_ | refine zay rfl ?_)
 all_goals (first | refine zcx rfl rfl (zas rfl rfl rfl) (zam rfl rfl (fvalid_pf _) (zad rfl zaq)) (fun h16 => ?_) (fun h16 => ?_) | refine zay rfl ?_)
 all_goals (first | refine zaf rfl rfl (zas rfl rfl rfl) (zbv rfl rfl) ?_ | refine zay rfl ?_)
 all_goals refine zac rfl (zac rfl (zae (zai ?_)))
 all_goals (first | refine za7 rfl ?_ | refine za1 rfl ?_)
 all_goals refine zah ?_
 ·
  refine zab (zac rfl (zaf rfl rfl (zaa rfl) (zao rfl ts30 rfl) ?_))
  refine za3 rfl rfl (zaa rfl) (zb5 rfl rfl rfl) (fun h23 => ?_) (fun h23 => ?_)
  all_goals refine zac rfl ?_
  all_goals (first | refine zac rfl ?_ | refine zay rfl ?_)
  all_goals (first | refine zaf rfl rfl (zas rfl rfl rfl) (zao rfl ts30 rfl) ?_ | refine zay rfl ?_)
  all_goals (first | refine za3 rfl rfl (zas rfl rfl rfl) (zb5 rfl rfl rfl) (fun h27 => ?_) (fun h27 => ?_) | refine zay rfl ?_)
  all_goals refine zac rfl (zac rfl (zae (zai ?_)))
  all_goals (first | refine za7 rfl ?_ | refine za1 rfl ?_)
  all_goals refine zah ?_
  rotate_left 2
  ·
   have h3 : ¬ (1000 < a.length ∨ 1000 < b.length) := by omega
   refine zab (zac rfl (zaf rfl rfl (zaa rfl) (zao rfl ts30 rfl) (zac rfl (zaf rfl rfl (zaa rfl) (zao rfl ts30 rfl) ?_))))
   refine za3 rfl rfl (zaa rfl) (zbw rfl rfl rfl) (fun h35 => ?_) (fun h35 => ?_)
   all_goals refine zac rfl (zae (zai ?_))
   all_goals (first | refine za7 rfl ?_ | refine za1 rfl ?_)
   all_goals (repeat (first | refine zah ?_ | refine zat ?_))
   ·
    refine zab (zaf rfl rfl (zaa rfl) (za6 rfl ti51 tp51 rfl rfl) (zbe rfl (zaa rfl) (zaj rfl ti51 rfl rfl rfl rfl rfl rfl (by decide) (by decide)) (zac rfl (zae (zai ?_)))))
    (refine za8 ?_; repeat (first | refine zbg ?_ | refine zbh ?_))
    exact post_ct (.inr rfl) ta51 ti51 rfl rfl rfl rfl rfl rfl (by rw [dotE_size h12 h16 h3 (by omega)]; rfl)
   ·
    have hl : a.length = b.length := by omega
    have HI := dotE_go h12 h16 h3 hl
    refine zab (zaf rfl rfl (zaa rfl) (za6 rfl ti51 tp51 rfl rfl) (zaf rfl rfl (zaa rfl) (za0 rfl ti51 rfl rfl) (zbe rfl (zaa rfl) (zaj rfl ti51 rfl rfl rfl rfl rfl rfl (by decide) (by decide)) (zae (zah (zah (zab (zac rfl (zaf rfl rfl (zaa rfl) (zao rfl ts30 rfl) (zac rfl (zae (zai (zaw ?_)))))))))))))
    refine zca (S := Fr × Nat) (fun s => [(0, eL eF a), (1, eL eF b), (4, .ptr 0 2 0 0), (6, .ptr 1 2 0 0), (39, eI a.length), (40, eI s.2)]) (fun s => [.row 2 [.agg [eI 0, eI 0]], .row 2 [eF s.1]]) (fun s => s.2 ≤ a.length ∧ dotE a b = dotG s.1 (a.drop s.2) (b.drop s.2)) (fun s => a.length - s.2) (Fr.of 0, 0) (zck [0, 1] (by decide) ⟨⟨_, rfl, .rowE (by repeat' (first | exact Lo.s _ | exact za2 | refine zax ?_ ?_ | refine zar ?_ | refine Lo.cells ?_ | refine Lo.agg _ ?_ | exact zak | refine zag ?_ ?_ | intro _)) rfl⟩, ⟨_, rfl, .rowE (by repeat' (first | exact Lo.s _ | exact za2 | refine zax ?_ ?_ | refine zar ?_ | refine Lo.cells ?_ | refine Lo.agg _ ?_ | exact zak | refine zag ?_ ?_ | intro _)) rfl⟩, trivial⟩ ⟨.lo _ (by repeat' (first | exact Lo.s _ | exact zak | refine zag ?_ ?_ | refine zan ?_ | refine Lo.agg _ ?_ | refine Lo.sl _ ?_ | intro _)), .lo _ (by repeat' (first | exact Lo.s _ | exact zak | refine zag ?_ ?_ | refine zan ?_ | refine Lo.agg _ ?_ | refine Lo.sl _ ?_ | intro _)), .ptr 0 0 2 0 0 rfl, .ptr 1 1 2 0 0 rfl, .lo _ (.s _), .lo _ (.s _), trivial⟩) ⟨Nat.zero_le _, HI⟩ (fun s hk => ?_)
    obtain ⟨acc, k⟩ := s
    obtain ⟨hk, HI⟩ := hk
    dsimp only at hk HI ⊢
    refine zah (zab ?_)
    refine za3 rfl rfl (zaa rfl) (za4 rfl rfl rfl) (fun h41 => ?_) (fun h41 => ?_)
    all_goals refine zae (zah ?_)
    all_goals (first | refine za7 rfl ?_ | refine za1 rfl ?_)
    all_goals (repeat (first | refine zah ?_ | refine zat ?_ | refine zaw ?_))
    ·
     have h1 : k < a.length := by omega
     have h2 : k < b.length := by omega
     rw [dotG_step h1 h2] at HI
     generalize hx : mulE (gti a k) (gti b k) = x at HI
     have hmul := fMul_pf (P := P) (gti a k) (gti b k)
     rw [hx] at hmul
     refine zab (zac rfl (zac rfl (zae (zah ?_))))
     refine zcj hmix ?_
     refine zdg ?_
     refine ex_s rfl (ex_s rfl (zaz rfl rfl (zaa rfl) (fun _ => (zal rfl ts30 ti51 rfl rfl rfl (zbd (by omega)) rfl)) (ex_w ta51 ti51 rfl (ex_s rfl (ex_s rfl (zaz rfl rfl (zaa rfl) (fun _ => (zal rfl ts30 ti51 rfl rfl rfl (zbd (by omega)) rfl)) (ex_w ta51 ti51 rfl (zaz rfl rfl (zaa rfl) (fun _ => (zam rfl rfl (hmul) (zad rfl (zad rfl zaq)))) (ex_s rfl (ex_s rfl (ex_s rfl ?_)))))))))))
     refine zdh rfl rfl (zaa rfl) (za0 rfl ti51 rfl rfl) (fun _ h => zdr h) ?_
     refine zci rfl (zaa rfl) (zaj rfl ti51 rfl rfl rfl rfl rfl rfl (by decide) (by decide)) (fun _ h => zbr h) ?_
     refine ex_s rfl ?_
     refine zcc (by kernel_rfl) ?_
     refine zah (zah (zab (zac rfl ?_)))
     refine za3 rfl rfl (zaa rfl) (zbw rfl rfl rfl) (fun h56 => ?_) (fun h56 => ?_)
     all_goals refine zae (zai ?_)
     all_goals (first | refine za7 rfl ?_ | refine za1 rfl ?_)
     all_goals (repeat (first | refine zah ?_ | refine zat ?_))
     ·
      rw [if_pos (by omega)] at HI
      refine zab (zaf rfl rfl (zaa rfl) (za6 rfl ti51 tp51 rfl rfl) (zac rfl (zbe rfl (zaa rfl) (zaj rfl ti51 rfl rfl rfl rfl rfl rfl (by decide) (by decide)) (zac rfl (zae (zai ?_))))))
      (refine za8 ?_; repeat (first | refine zbg ?_ | refine zbh ?_))
      exact post_ct (.inr rfl) ta51 ti51 rfl rfl rfl rfl rfl rfl (by rw [HI]; rfl)
     ·
      rw [if_neg (by omega)] at HI
      generalize hy : addE acc ⟨x.n, x.d⟩ = y at HI
      have hadd := fAdd_pf (P := P) acc ⟨x.n, x.d⟩
      rw [hy] at hadd
      refine zab (zaf rfl rfl (zaa rfl) (zba rfl ta51 ti51 rfl rfl rfl rfl rfl) (zaf rfl rfl (zaa rfl) (zba rfl ta51 ti51 rfl rfl rfl rfl rfl) (zaf rfl rfl (zaa rfl) (zam rfl rfl (hadd) (zad rfl (zad rfl zaq))) (zac rfl (zac rfl (zac rfl (zbe rfl (zaa rfl) (zaj rfl ti51 rfl rfl rfl rfl rfl rfl (by decide) (by decide)) (zac rfl (zae (zah (zab (zac rfl ?_))))))))))))
      refine za3 rfl rfl (zaa rfl) (zbw rfl rfl rfl) (fun h66 => ?_) (fun h66 => ?_)
      all_goals refine zae (zai ?_)
      all_goals (first | refine za7 rfl ?_ | refine za1 rfl ?_)
      all_goals (repeat (first | refine zah ?_ | refine zai ?_ | refine zat ?_ | refine zbu ?_))
      ·
       rw [if_pos (by omega)] at HI
       refine zab (zaf rfl rfl (zaa rfl) (za6 rfl ti51 tp51 rfl rfl) (zac rfl (zbe rfl (zaa rfl) (zaj rfl ti51 rfl rfl rfl rfl rfl rfl (by decide) (by decide)) (zac rfl (zae (zai ?_))))))
       (refine za8 ?_; repeat (first | refine zbg ?_ | refine zbh ?_))
       exact post_ct (.inr rfl) ta51 ti51 rfl rfl rfl rfl rfl rfl (by rw [HI]; rfl)
      ·
       rw [if_neg (by omega)] at HI
       refine zab (zaf rfl rfl (zaa rfl) (zav rfl rfl rfl (IntWalk.i64_in _ (by omega))) (zac rfl (zae (zai ?_))))
       exact ⟨(⟨y.n, y.d⟩, k + 1), ⟨by dsimp only; omega, HI⟩, by dsimp only; omega, zck [0, 1] (by decide) ⟨⟨_, rfl, .rowE (by repeat' (first | exact Lo.s _ | exact za2 | refine zax ?_ ?_ | refine zar ?_ | refine Lo.cells ?_ | refine Lo.agg _ ?_ | exact zak | refine zag ?_ ?_ | intro _)) rfl⟩, ⟨_, rfl, .rowE (by repeat' (first | exact Lo.s _ | exact za2 | refine zax ?_ ?_ | refine zar ?_ | refine Lo.cells ?_ | refine Lo.agg _ ?_ | exact zak | refine zag ?_ ?_ | intro _)) rfl⟩, trivial⟩ ⟨.lo _ (by repeat' (first | exact Lo.s _ | exact zak | refine zag ?_ ?_ | refine zan ?_ | refine Lo.agg _ ?_ | refine Lo.sl _ ?_ | intro _)), .lo _ (by repeat' (first | exact Lo.s _ | exact zak | refine zag ?_ ?_ | refine zan ?_ | refine Lo.agg _ ?_ | refine Lo.sl _ ?_ | intro _)), .ptr 0 0 2 0 0 rfl, .ptr 1 1 2 0 0 rfl, .lo _ (.s _), .lo _ (.s _), trivial⟩⟩
    ·
     rw [dotG_end (by omega)] at HI
     (refine zcl ?_; repeat (first | refine zc3 ?_ | refine zb2 ?_ | refine zbq rfl ?_ | refine zbu ?_ | refine zai ?_ | refine zah ?_ | refine zat ?_ | refine zaw ?_))
     refine zab (zaf rfl rfl (zaa rfl) (zba rfl ta51 ti51 rfl rfl rfl rfl rfl) (zbe rfl (zaa rfl) (zaj rfl ti51 rfl rfl rfl rfl rfl rfl (by decide) (by decide)) (zac rfl (zae (zai ?_)))))
     (refine za8 ?_; repeat (first | refine zbg ?_ | refine zbh ?_))
     exact post_ct (.inr rfl) ta51 ti51 rfl rfl rfl rfl rfl rfl (by rw [HI]; rfl)
  all_goals refine zab (zaf rfl rfl (zaa rfl) (za6 rfl ti51 tp51 rfl rfl) (zbe rfl (zaa rfl) (zaj rfl ti51 rfl rfl rfl rfl rfl rfl (by decide) (by decide)) (zac rfl (zae (zai (za8 (zbh (zbg ?_))))))))
  all_goals (exact post_ct (.inr rfl) ta51 ti51 rfl rfl rfl rfl rfl rfl (by rw [dotE_full h12 h16 (by omega)]; rfl))
 all_goals refine zab (zaf rfl rfl (zaa rfl) (za6 rfl ti51 tp51 rfl rfl) (zbe rfl (zaa rfl) (zaj rfl ti51 rfl rfl rfl rfl rfl rfl (by decide) (by decide)) (zac rfl (zae (zai (za8 (zbh (zbg ?_))))))))
 all_goals (exact post_ct (.inr rfl) ta51 ti51 rfl rfl rfl rfl rfl rfl (by rw [dotE_arg (by rintro ⟨q1, q2⟩; first | exact Bool.noConfusion (q1.symm.trans h12) | exact Bool.noConfusion (q2.symm.trans h16))]; rfl))
end Go.Proofs.Ytllkbjcemecmjaa.Aw
end
section
namespace Go.Proofs.Ytllkbjcemecmjaa.Aw
open Go.RowKit Go.Proofs
variable {P : Program} [IsP P]
theorem whole_pf (n : Int) : Pure P 44 [eI n] (eF (Fr.of n)) := by
 refine zcu (by rw [IsP.eq (P := P)]; exact Try.func44) rfl rfl rfl rfl rfl (zag (.s _) zak) (.agg _ (zag (.s _) (zag (.s _) zak))) (by simp only [argF]; rfl) ?_
 refine zah (zab (zaf rfl rfl (zaa rfl) (za0 rfl ti51 rfl rfl) (zae (zah (zab (zac rfl (zaf rfl rfl (zaa rfl) (za6 rfl ti51 tp51 rfl rfl) (zbe rfl (zaa rfl) (zaj rfl ti51 rfl rfl rfl rfl rfl rfl (by decide) (by decide)) (zae (zai ?_))))))))))
 (refine za8 ?_; repeat (first | refine zbg ?_ | refine zbh ?_))
 exact post_c1 (N := 0) (.inr rfl) ta51 ti51 rfl rfl rfl rfl rfl (.refl _)
def prG (y : List Fr) (pd : List Int) : Nat → Nat → Fr → FE
 | 0, _, a => ⟨a.n, a.d, 0⟩
 | n + 1, k, a => if (subE a (gti y (gti pd k).toNat)).e ≠ 0 then FE.err (subE a (gti y (gti pd k).toNat)).e else prG y pd n (k + 1) ⟨(subE a (gti y (gti pd k).toNat)).n, (subE a (gti y (gti pd k).toNat)).d⟩
def prE (y : List Fr) (s : Sft) : FE := prG y s.pd s.pd.length 0 (Fr.of s.cost)
def bdG (l : List Sft) (lo hi : List Int) (y : List Fr) : Nat → Nat → Fr → Fr × Bool
 | 0, _, s => (s, true)
 | n + 1, i, s => if (prE y (gti l i)).e ≠ 0 then (⟨0, 0⟩, false) else
  if (mulE ⟨(prE y (gti l i)).n, (prE y (gti l i)).d⟩ (Fr.of (if (prE y (gti l i)).n < 0 then gti hi i else gti lo i))).e ≠ 0 then (⟨0, 0⟩, false) else
  if (addE s ⟨(mulE ⟨(prE y (gti l i)).n, (prE y (gti l i)).d⟩ (Fr.of (if (prE y (gti l i)).n < 0 then gti hi i else gti lo i))).n, (mulE ⟨(prE y (gti l i)).n, (prE y (gti l i)).d⟩ (Fr.of (if (prE y (gti l i)).n < 0 then gti hi i else gti lo i))).d⟩).e ≠ 0 then (⟨0, 0⟩, false) else
  bdG l lo hi y n (i + 1) ⟨(addE s ⟨(mulE ⟨(prE y (gti l i)).n, (prE y (gti l i)).d⟩ (Fr.of (if (prE y (gti l i)).n < 0 then gti hi i else gti lo i))).n, (mulE ⟨(prE y (gti l i)).n, (prE y (gti l i)).d⟩ (Fr.of (if (prE y (gti l i)).n < 0 then gti hi i else gti lo i))).d⟩).n, (addE s ⟨(mulE ⟨(prE y (gti l i)).n, (prE y (gti l i)).d⟩ (Fr.of (if (prE y (gti l i)).n < 0 then gti hi i else gti lo i))).n, (mulE ⟨(prE y (gti l i)).n, (prE y (gti l i)).d⟩ (Fr.of (if (prE y (gti l i)).n < 0 then gti hi i else gti lo i))).d⟩).d⟩
def bdE (d : List Int) (l : List Sft) (lo hi : List Int) (y : List Fr) : Fr × Bool := if (dotE (d.map Fr.of) y).e ≠ 0 then (⟨0, 0⟩, false) else bdG l lo hi y l.length 0 ⟨(dotE (d.map Fr.of) y).n, (dotE (d.map Fr.of) y).d⟩
def eFB (r : Fr × Bool) : AV := .tup [eF r.1, eB r.2]
theorem ofL_gti {d : List Int} {k : Nat} (h : k < d.length) : gti (d.map Fr.of) k = Fr.of (gti d k) := by
 have h1 : (d.map Fr.of)[k]? = some (Fr.of (gti d k)) := by rw [List.getElem?_map, zdp h]; rfl
 unfold gti at *
 rw [h1]; rfl
set_option maxHeartbeats 4000000 in
theorem bound_pf (d : List Int) (l : List Sft) (lo hi : List Int) (y : List Fr) (hv : zb6 d l = true) (hy : y.length = d.length) (hlo : lo.length = l.length) (hhi : hi.length = l.length) : Pure P 75 [eL eI d, eL eSh l, eBx lo hi, eL eF y] (eFB (bdE d l lo hi y)) := by
 obtain ⟨⟨q1, q2, q3⟩, qd, ql⟩ := zb0 hv
 have HI : bdE d l lo hi y = if (dotE (d.map Fr.of) y).e ≠ 0 then (⟨0, 0⟩, false) else bdG l lo hi y l.length 0 ⟨(dotE (d.map Fr.of) y).n, (dotE (d.map Fr.of) y).d⟩ := rfl
 generalize bdE d l lo hi y = R at HI ⊢
 refine zcu (by rw [IsP.eq (P := P)]; exact Try.func75) rfl rfl rfl rfl rfl (by repeat' (first | exact Lo.s _ | exact zak | refine zag ?_ ?_ | refine zan ?_ | refine Lo.agg _ ?_ | refine Lo.sl _ ?_ | intro _)) (by repeat' (first | exact Lo.s _ | exact zak | refine zag ?_ ?_ | refine zan ?_ | refine Lo.cells ?_ | refine Lo.agg _ ?_ | refine Lo.ref _ ?_ | refine Lo.tup _ ?_ | refine Lo.fn _ _ ?_ | refine Lo.sl _ ?_ | intro _)) (by simp only [argF]; rfl) ?_
 refine zah (zab (zaf rfl rfl (zaa rfl) (zb4 rfl rfl rfl rfl) ?_))
 refine za5 (zbs (id := 0) rfl) (za5 (zch (d := 6) rfl rfl rfl) ?_)
 refine zaf rfl rfl (zaa rfl) (za0 rfl ti51 rfl rfl) (zac rfl (zae (zah (zab (zac rfl (zae (zah (zah (zab (zac rfl (zaf rfl rfl (zaa rfl) (zao rfl ts22 rfl) (zac rfl (zae (zai (zaw ?_)))))))))))))))
 refine zbi (wk_own (d := 10) 2 rfl (.inr rfl)) ?_
 refine zca (S := Nat) (fun k => [(1, eL eSh l), (3, eL eF y), (6, .ref (eBx lo hi).cells), (8, .ptr 0 2 0 0), (9, eB false), (23, eL eI d), (24, eI d.length), (25, eI k), (10, .own 1 2 k)]) (fun k => [.row 2 [.agg [eI 0, eI 0]], .row 2 (((d.map Fr.of).take k).map eF)]) (fun k => k ≤ d.length) (fun k => d.length - k) 0 (zck [1, 2] (by decide) ⟨⟨_, rfl, .rowE (by repeat' (first | exact Lo.s _ | exact za2 | refine zax ?_ ?_ | refine zar ?_ | refine Lo.cells ?_ | refine Lo.agg _ ?_ | exact zak | refine zag ?_ ?_ | intro _)) rfl⟩, ⟨_, rfl, .rowE (za2) rfl⟩, trivial⟩ ⟨.lo _ (by repeat' (first | exact Lo.s _ | exact zak | refine zag ?_ ?_ | refine zan ?_ | refine Lo.agg _ ?_ | refine Lo.sl _ ?_ | intro _)), .lo _ (by repeat' (first | exact Lo.s _ | exact zak | refine zag ?_ ?_ | refine zan ?_ | refine Lo.agg _ ?_ | refine Lo.sl _ ?_ | intro _)), .lo _ (by repeat' (first | exact Lo.s _ | exact zak | refine zag ?_ ?_ | refine zan ?_ | refine Lo.cells ?_ | refine Lo.agg _ ?_ | refine Lo.ref _ ?_ | refine Lo.tup _ ?_ | refine Lo.fn _ _ ?_ | refine Lo.sl _ ?_ | intro _)), .ptr 1 0 2 0 0 rfl, .lo _ (.s _), .lo _ (zan fun _ => .s _), .lo _ (.s _), .lo _ (.s _), .own 2 1 2 _ _ rfl rfl, trivial⟩) (Nat.zero_le _) (fun k hk => ?_)
 have hol : (d.map Fr.of).length = d.length := by simp
 refine zah (zab ?_)
 refine za3 rfl rfl (zaa rfl) (za4 rfl rfl rfl) (fun h26 => ?_) (fun h26 => ?_)
 all_goals refine zae (zah ?_)
 all_goals (first | refine za7 rfl ?_ | refine za1 rfl ?_)
 all_goals (repeat (first | refine zah ?_ | refine zat ?_ | refine zaw ?_))
 ·
  have hlt : k < d.length := by omega
  have htk : (((d.map Fr.of).take k).map eF).length = k := by simp; omega
  have hrow : ((d.map Fr.of).take (k + 1)).map eF = ((d.map Fr.of).take k).map eF ++ [eF (Fr.of (gti d k))] := by
   rw [zcw (by omega), List.map_append, ofL_gti hlt]; rfl
  refine zab (zaf rfl rfl (zaa rfl) (zal rfl ts22 ti3 rfl rfl rfl (zbd (by omega)) rfl) (zby ta3 rfl (zac rfl (zae (zai (zab (zac rfl (zac rfl (zaf rfl rfl (zaa rfl) (zam rfl rfl ((whole_pf _)) (zad rfl zaq)) (zaf rfl rfl (zaa rfl) (zcr rfl ts30 ti51 rfl rfl (by decide) (by decide) rfl rfl rfl (.agg _ (zag (.s _) (zag (.s _) zak)))) ?_))))))))))
  refine zaf rfl rfl (zaa rfl) (zbm rfl ts30 ti51 rfl (by decide) rfl rfl (by first | rfl | (simp; done) | (simp; omega)) rfl (by first | exact .own _ _ _ rfl rfl _ (by first | rfl | simp) | exact .emp | exact .nil | exact .sl _ (by first | simp; done | intro e he; simp at he; obtain ⟨_, _, rfl⟩ := he; rfl)) (by first | omega | (simp; omega) | (unfold maxLen; simp; omega)) (by first | omega | (simp; omega) | (unfold maxLen; simp; omega))) ?_
  refine zac rfl (zae (zbu (zai (zab (zaf rfl rfl (zaa rfl) (zav rfl rfl rfl (IntWalk.i64_in _ (by omega))) (zac rfl (zae (zai ?_))))))))
  exact ⟨k + 1, by omega, by omega, zck [0, 2] (by decide) ⟨⟨_, rfl, .rowE (by repeat' (first | exact Lo.s _ | exact za2 | refine zax ?_ ?_ | refine zar ?_ | refine Lo.cells ?_ | refine Lo.agg _ ?_ | exact zak | refine zag ?_ ?_ | intro _)) rfl⟩, ⟨_, rfl, .rowE (by repeat' (first | exact Lo.s _ | exact za2 | refine zax ?_ ?_ | refine zar ?_ | refine Lo.cells ?_ | refine Lo.agg _ ?_ | exact zak | refine zag ?_ ?_ | intro _)) (Eq.trans (b := ((d.map Fr.of).take k).map eF ++ [eF (Fr.of (gti d k))]) rfl hrow.symm)⟩, trivial⟩ ⟨.lo _ (by repeat' (first | exact Lo.s _ | exact zak | refine zag ?_ ?_ | refine zan ?_ | refine Lo.agg _ ?_ | refine Lo.sl _ ?_ | intro _)), .lo _ (by repeat' (first | exact Lo.s _ | exact zak | refine zag ?_ ?_ | refine zan ?_ | refine Lo.agg _ ?_ | refine Lo.sl _ ?_ | intro _)), .lo _ (by repeat' (first | exact Lo.s _ | exact zak | refine zag ?_ ?_ | refine zan ?_ | refine Lo.cells ?_ | refine Lo.agg _ ?_ | refine Lo.ref _ ?_ | refine Lo.tup _ ?_ | refine Lo.fn _ _ ?_ | refine Lo.sl _ ?_ | intro _)), .ptr 0 0 2 0 0 rfl, .lo _ (.s _), .lo _ (zan fun _ => .s _), .lo _ (.s _), .lo _ (.s _), .own 2 1 2 _ _ rfl (by simp; omega), trivial⟩⟩
 (refine zcl ?_; repeat (first | refine zc3 ?_ | refine zb2 ?_ | refine zbq rfl ?_ | refine zbu ?_ | refine zai ?_ | refine zah ?_ | refine zat ?_ | refine zaw ?_))
 have e : (d.map Fr.of).take k = d.map Fr.of := List.take_of_length_le (by omega)
 rw [e]
 have hdot := fDot_pf (P := P) (d.map Fr.of) y
 generalize dotE (d.map Fr.of) y = dt at HI hdot
 refine zab (zac rfl ?_)
 refine za5 (zbs (id := 1) rfl) (za5 (wk_sl (d := 36) rfl rfl (by first | rfl | (simp; done) | (simp; omega))) ?_)
 refine zac rfl (zaf rfl rfl (zaa rfl) (zam rfl rfl (hdot) (zad rfl (zad rfl zaq))) (zac rfl (zac rfl (zac rfl (zaf rfl rfl (zaa rfl) (za0 rfl ti51 rfl rfl) (zbe rfl (zaa rfl) (zaj rfl ti51 rfl rfl rfl rfl rfl rfl (by decide) (by decide)) (zac rfl (zae (zah (zah (zab (zac rfl ?_))))))))))))
 refine za3 rfl rfl (zaa rfl) (zbw rfl rfl rfl) (fun h42 => ?_) (fun h42 => ?_)
 all_goals refine zae (zai ?_)
 all_goals (first | refine za7 rfl ?_ | refine za1 rfl ?_)
 all_goals (repeat (first | refine zah ?_ | refine zat ?_))
 ·
  rw [if_pos (by omega)] at HI
  refine zab (zaf rfl rfl (zaa rfl) (za6 rfl ti51 tp51 rfl rfl) (zbe rfl (zaa rfl) (zaj rfl ti51 rfl rfl rfl rfl rfl rfl (by decide) (by decide)) (zac rfl (zae (zai ?_)))))
  (refine za8 ?_; repeat (first | refine zbg ?_ | refine zbh ?_))
  exact post_ct (.inr rfl) ta51 ti51 rfl rfl rfl rfl rfl rfl (by rw [HI]; rfl)
 rw [if_neg (by omega)] at HI
 refine zab (zac rfl (zaf rfl rfl (zaa rfl) (zao rfl ts23 rfl) (zac rfl (zae (zai (zaw ?_))))))
 refine zca (S := Fr × Nat) (fun s => [(3, eL eF y), (6, .ref (eBx lo hi).cells), (8, .ptr 0 2 0 0), (13, .ptr 1 2 0 0), (44, eL eSh l), (45, eI l.length), (46, eI s.2)]) (fun s => [.row 2 [.agg [eI 0, eI 0]], .row 2 [eF s.1]]) (fun s => s.2 ≤ l.length ∧ R = bdG l lo hi y (l.length - s.2) s.2 s.1) (fun s => l.length - s.2) (⟨dt.n, dt.d⟩, 0) (zck [0, 2] (by decide) ⟨⟨_, rfl, .rowE (by repeat' (first | exact Lo.s _ | exact za2 | refine zax ?_ ?_ | refine zar ?_ | refine Lo.cells ?_ | refine Lo.agg _ ?_ | exact zak | refine zag ?_ ?_ | intro _)) rfl⟩, ⟨_, rfl, .rowE (by repeat' (first | exact Lo.s _ | exact za2 | refine zax ?_ ?_ | refine zar ?_ | refine Lo.cells ?_ | refine Lo.agg _ ?_ | exact zak | refine zag ?_ ?_ | intro _)) rfl⟩, trivial⟩ ⟨.lo _ (by repeat' (first | exact Lo.s _ | exact zak | refine zag ?_ ?_ | refine zan ?_ | refine Lo.agg _ ?_ | refine Lo.sl _ ?_ | intro _)), .lo _ (by repeat' (first | exact Lo.s _ | exact zak | refine zag ?_ ?_ | refine zan ?_ | refine Lo.cells ?_ | refine Lo.agg _ ?_ | refine Lo.ref _ ?_ | refine Lo.tup _ ?_ | refine Lo.fn _ _ ?_ | refine Lo.sl _ ?_ | intro _)), .ptr 0 0 2 0 0 rfl, .ptr 2 1 2 0 0 rfl, .lo _ (by repeat' (first | exact Lo.s _ | exact zak | refine zag ?_ ?_ | refine zan ?_ | refine Lo.agg _ ?_ | refine Lo.sl _ ?_ | intro _)), .lo _ (.s _), .lo _ (.s _), trivial⟩) ⟨Nat.zero_le _, HI⟩ (fun s hs => ?_)
 obtain ⟨sm, i⟩ := s
 obtain ⟨hi1, HJ⟩ := hs
 dsimp only at hi1 HJ ⊢
 clear HI hdot e
 refine zah (zab ?_)
 refine za3 rfl rfl (zaa rfl) (za4 rfl rfl rfl) (fun h47 => ?_) (fun h47 => ?_)
 all_goals refine zae (zah ?_)
 all_goals (first | refine za7 rfl ?_ | refine za1 rfl ?_)
 all_goals (repeat (first | refine zah ?_ | refine zat ?_ | refine zaw ?_))
 ·
  have hlt : i < l.length := by omega
  rw [show l.length - i = (l.length - (i + 1)) + 1 by omega, bdG] at HJ
  obtain ⟨sf, hsf⟩ : ∃ sf, gti l i = sf := ⟨_, rfl⟩
  have hix : (l.map eSh)[i]? = some (eSh sf) := by rw [← hsf]; exact zbd hlt
  have hsl := (ql i hlt).2
  rw [hsf] at hsl HJ
  refine zab (zac rfl (zaf rfl rfl (zaa rfl) (zal rfl ts23 ti39 rfl rfl rfl hix rfl) (zc5 ta39 ti39 rfl (zaf rfl rfl (zaa rfl) (za0 rfl ti39 rfl rfl) (zac rfl (zbe rfl (zaa rfl) (zaj rfl ti39 rfl rfl rfl rfl rfl rfl (by decide) (by decide)) (zae (zah ?_))))))))
  refine zbi (zbs (id := 2) rfl) ?_
  refine zbi (zch (d := 16) rfl rfl rfl) ?_
  refine zab (zb1 tf39_1 rfl (zby ta3 rfl (zaf rfl rfl (zaa rfl) (zam rfl rfl ((whole_pf _)) (zad rfl zaq)) (zaf rfl rfl (zaa rfl) (za0 rfl ti51 rfl rfl) (zbe rfl (zaa rfl) (zaj rfl ti51 rfl rfl rfl rfl rfl rfl (by decide) (by decide)) (zae (zah (zah (zab (zb1 tf39_0 rfl (zby ta22 rfl (zaf rfl rfl (zaa rfl) (zao rfl ts22 rfl) (zac rfl (zae (zai (zaw ?_))))))))))))))))
  refine aw_bdm (d := 55) rfl (fun hm3 => ?_)
  unfold maxLen at hm3
  obtain ⟨pe, hpe⟩ : ∃ pe, pe = prE y sf := ⟨_, rfl⟩
  rw [← hpe] at HJ
  have HK : pe = prG y sf.pd sf.pd.length 0 (Fr.of sf.cost) := hpe
  clear hpe
  refine zca (S := Fr × Nat) (fun s => [(3, eL eF y), (6, .ref (eBx lo hi).cells), (8, .ptr 0 2 0 0), (13, .ptr 1 2 0 0), (17, .ptr 2 2 0 0), (15, eI i), (44, eL eSh l), (45, eI l.length), (46, eI i), (55, eL eI sf.pd), (56, eI sf.pd.length), (57, eI s.2)]) (fun s => [.row 2 [.agg [eI 0, eI 0]], .row 2 [eF sm], .row 2 [eF s.1]]) (fun s => s.2 ≤ sf.pd.length ∧ pe = prG y sf.pd (sf.pd.length - s.2) s.2 s.1) (fun s => sf.pd.length - s.2) (Fr.of sf.cost, 0) (zck [0, 1, 3] (by decide) ⟨⟨_, rfl, .rowE (by repeat' (first | exact Lo.s _ | exact za2 | refine zax ?_ ?_ | refine zar ?_ | refine Lo.cells ?_ | refine Lo.agg _ ?_ | exact zak | refine zag ?_ ?_ | intro _)) rfl⟩, ⟨_, rfl, .rowE (by repeat' (first | exact Lo.s _ | exact za2 | refine zax ?_ ?_ | refine zar ?_ | refine Lo.cells ?_ | refine Lo.agg _ ?_ | exact zak | refine zag ?_ ?_ | intro _)) rfl⟩, ⟨_, rfl, .rowE (by repeat' (first | exact Lo.s _ | exact za2 | refine zax ?_ ?_ | refine zar ?_ | refine Lo.cells ?_ | refine Lo.agg _ ?_ | exact zak | refine zag ?_ ?_ | intro _)) rfl⟩, trivial⟩ ⟨.lo _ (by repeat' (first | exact Lo.s _ | exact zak | refine zag ?_ ?_ | refine zan ?_ | refine Lo.agg _ ?_ | refine Lo.sl _ ?_ | intro _)), .lo _ (by repeat' (first | exact Lo.s _ | exact zak | refine zag ?_ ?_ | refine zan ?_ | refine Lo.cells ?_ | refine Lo.agg _ ?_ | refine Lo.ref _ ?_ | refine Lo.tup _ ?_ | refine Lo.fn _ _ ?_ | refine Lo.sl _ ?_ | intro _)), .ptr 0 0 2 0 0 rfl, .ptr 1 1 2 0 0 rfl, .ptr 3 2 2 0 0 rfl, .lo _ (.s _), .lo _ (by repeat' (first | exact Lo.s _ | exact zak | refine zag ?_ ?_ | refine zan ?_ | refine Lo.agg _ ?_ | refine Lo.sl _ ?_ | intro _)), .lo _ (.s _), .lo _ (.s _), .lo _ (zan fun _ => .s _), .lo _ (.s _), .lo _ (.s _), trivial⟩) ⟨Nat.zero_le _, HK⟩ (fun s hs => ?_)
  obtain ⟨pr, j⟩ := s
  obtain ⟨hj, HK⟩ := hs
  dsimp only at hj HK ⊢
  refine zah (zab ?_)
  refine za3 rfl rfl (zaa rfl) (za4 rfl rfl rfl) (fun h58 => ?_) (fun h58 => ?_)
  all_goals refine zae (zah ?_)
  all_goals (first | refine za7 rfl ?_ | refine za1 rfl ?_)
  all_goals (repeat (first | refine zah ?_ | refine zat ?_ | refine zaw ?_))
  ·
   have hlt2 : j < sf.pd.length := by omega
   obtain ⟨g1, g2, g3⟩ := hsl j hlt2
   obtain ⟨p, hp⟩ : ∃ p : Nat, gti sf.pd j = (p : Int) := ⟨(gti sf.pd j).toNat, by omega⟩
   have hpy : p < y.length := by omega
   rw [show sf.pd.length - j = (sf.pd.length - (j + 1)) + 1 by omega, prG, hp, Int.toNat_natCast] at HK
   have hsub := fSub_pf (P := P) pr (gti y p)
   generalize subE pr (gti y p) = x at HK hsub
   refine zab (zaf rfl rfl (zaa rfl) (zal rfl ts22 ti3 rfl rfl rfl (zbd (by omega)) rfl) (zby ta3 rfl (zac rfl (zae (zah ?_)))))
   refine zcj hmix ?_
   refine zdg ?_
   refine zbt rfl rfl (zaa rfl) (look_whole rfl ta51 ti51 rfl rfl rfl rfl rfl) (ex_s rfl (ex_s rfl (zaz rfl rfl (zaa rfl) (fun _ => (zal rfl ts30 ti51 rfl rfl hp (zbd hpy) rfl)) (ex_w ta51 ti51 rfl (zaz rfl rfl (zaa rfl) (fun _ => (zam rfl rfl (hsub) (zad rfl (zad rfl zaq)))) (ex_s rfl (ex_s rfl (ex_s rfl ?_))))))))
   refine zci rfl (zaa rfl) (zaj rfl ti51 rfl rfl rfl rfl rfl rfl (by decide) (by decide)) (fun _ h => zbr h) ?_
   refine ex_s rfl ?_
   refine zcc (by kernel_rfl) ?_
   refine zah (zab (zac rfl ?_))
   refine za3 rfl rfl (zaa rfl) (zbw rfl rfl rfl) (fun h71 => ?_) (fun h71 => ?_)
   all_goals refine zae (zai ?_)
   all_goals (first | refine za7 rfl ?_ | refine za1 rfl ?_)
   all_goals (repeat (first | refine zah ?_ | refine zai ?_ | refine zat ?_ | refine zbu ?_))
   ·
    rw [if_pos (by omega)] at HK
    subst HK
    rw [if_pos (by show x.e ≠ 0; omega)] at HJ
    refine zab (zaf rfl rfl (zaa rfl) (za6 rfl ti51 tp51 rfl rfl) (zbe rfl (zaa rfl) (zaj rfl ti51 rfl rfl rfl rfl rfl rfl (by decide) (by decide)) (zac rfl (zae (zai ?_)))))
    (refine za8 ?_; repeat (first | refine zbg ?_ | refine zbh ?_))
    exact post_ct (.inr rfl) ta51 ti51 rfl rfl rfl rfl rfl rfl (by rw [HJ]; rfl)
   ·
    rw [if_neg (by omega)] at HK
    refine zab (zaf rfl rfl (zaa rfl) (zav rfl rfl rfl (IntWalk.i64_in _ (by omega))) (zac rfl (zae (zai ?_))))
    exact ⟨(⟨x.n, x.d⟩, j + 1), ⟨by dsimp only; omega, HK⟩, by dsimp only; omega, zck [0, 1, 2] (by decide) ⟨⟨_, rfl, .rowE (by repeat' (first | exact Lo.s _ | exact za2 | refine zax ?_ ?_ | refine zar ?_ | refine Lo.cells ?_ | refine Lo.agg _ ?_ | exact zak | refine zag ?_ ?_ | intro _)) rfl⟩, ⟨_, rfl, .rowE (by repeat' (first | exact Lo.s _ | exact za2 | refine zax ?_ ?_ | refine zar ?_ | refine Lo.cells ?_ | refine Lo.agg _ ?_ | exact zak | refine zag ?_ ?_ | intro _)) rfl⟩, ⟨_, rfl, .rowE (by repeat' (first | exact Lo.s _ | exact za2 | refine zax ?_ ?_ | refine zar ?_ | refine Lo.cells ?_ | refine Lo.agg _ ?_ | exact zak | refine zag ?_ ?_ | intro _)) rfl⟩, trivial⟩ ⟨.lo _ (by repeat' (first | exact Lo.s _ | exact zak | refine zag ?_ ?_ | refine zan ?_ | refine Lo.agg _ ?_ | refine Lo.sl _ ?_ | intro _)), .lo _ (by repeat' (first | exact Lo.s _ | exact zak | refine zag ?_ ?_ | refine zan ?_ | refine Lo.cells ?_ | refine Lo.agg _ ?_ | refine Lo.ref _ ?_ | refine Lo.tup _ ?_ | refine Lo.fn _ _ ?_ | refine Lo.sl _ ?_ | intro _)), .ptr 0 0 2 0 0 rfl, .ptr 1 1 2 0 0 rfl, .ptr 2 2 2 0 0 rfl, .lo _ (.s _), .lo _ (by repeat' (first | exact Lo.s _ | exact zak | refine zag ?_ ?_ | refine zan ?_ | refine Lo.agg _ ?_ | refine Lo.sl _ ?_ | intro _)), .lo _ (.s _), .lo _ (.s _), .lo _ (zan fun _ => .s _), .lo _ (.s _), .lo _ (.s _), trivial⟩⟩
  ·
   rw [show sf.pd.length - j = 0 by omega, prG] at HK
   subst HK
   rw [if_neg (by simp)] at HJ
   dsimp only at HJ
   obtain ⟨ch, hch⟩ : ∃ ch, gti hi i = ch := ⟨_, rfl⟩
   obtain ⟨cl, hcl⟩ : ∃ cl, gti lo i = cl := ⟨_, rfl⟩
   have hixh : (hi.map eI)[i]? = some (eI ch) := by rw [← hch]; exact zbd (by omega)
   have hixl : (lo.map eI)[i]? = some (eI cl) := by rw [← hcl]; exact zbd (by omega)
   rw [hch, hcl] at HJ
   obtain ⟨CH, hCH⟩ : ∃ CH, CH = if pr.n < 0 then ch else cl := ⟨_, rfl⟩
   rw [← hCH] at HJ
   clear hch hcl
   (refine zcl ?_; repeat (first | refine zc3 ?_ | refine zb2 ?_ | refine zbq rfl ?_ | refine zbu ?_ | refine zai ?_ | refine zah ?_ | refine zat ?_ | refine zaw ?_))
   refine zab (zb1 tf74_0 rfl (zby ta22 rfl (zac rfl (zaf rfl rfl (zaa rfl) (zal rfl ts22 ti3 rfl rfl rfl hixl rfl) (zby ta3 rfl (zac rfl (zae (zah (zah (zab (zb1 tf51_0 rfl (zaf rfl rfl (zaa rfl) (zap rfl ta3 rfl rfl rfl rfl rfl) ?_))))))))))))
   refine za3 rfl rfl (zaa rfl) (za4 rfl rfl rfl) (fun h81 => ?_) (fun h81 => ?_)
   all_goals refine zae (zai ?_)
   all_goals (first | refine za7 rfl ?_ | refine za1 rfl ?_)
   all_goals (repeat (first | refine zah ?_ | refine zat ?_))
   all_goals first
    |
     refine zab (zb1 tf74_1 rfl (zby ta22 rfl (zac rfl (zaf rfl rfl (zaa rfl) (zal rfl ts22 ti3 rfl rfl rfl hixh rfl) (zby ta3 rfl (zac rfl (zae (zah ?_))))))))
     rw [if_pos (by omega)] at hCH
     subst hCH
    |
     rw [if_neg (by omega)] at hCH
     subst hCH
   all_goals have hmul := fMul_pf (P := P) pr (Fr.of CH)
   all_goals generalize mulE pr (Fr.of CH) = x at HJ hmul
   all_goals all_goals refine zcj hmix ?_
   all_goals all_goals refine zdg ?_
   all_goals (all_goals (first | refine zaz rfl rfl (zaa rfl) (fun _ => (zcv rfl ta51 ti51 rfl rfl)) ?_ | refine zbt rfl rfl (zaa rfl) (look_whole rfl ta51 ti51 rfl rfl rfl rfl rfl) ?_ | refine zaz rfl rfl (zaa rfl) (fun _ => (does_load_refs rfl ta51 ti51 rfl (Nat.le_of_ble_eq_true rfl))) ?_ | refine zbt rfl rfl (zaa rfl) (look_ptrs rfl ta51 ti51 rfl rfl rfl rfl (Nat.le_of_ble_eq_true rfl)) ?_))
   all_goals all_goals refine zaz rfl rfl (zaa rfl) (fun _ => (mv_s (.inl rfl) rfl)) ?_
   all_goals all_goals refine zaz rfl rfl (zaa rfl) (fun _ => (zam rfl rfl ((whole_pf _)) (zad rfl zaq))) ?_
   all_goals all_goals refine zaz rfl rfl (zaa rfl) (fun _ => (zam rfl rfl (hmul) (zad rfl (zad rfl zaq)))) ?_
   all_goals (all_goals (first | refine zaz rfl rfl (zaa rfl) (fun _ => (mv_tup (.inl rfl) rfl)) ?_ | refine zaz rfl rfl (zaa rfl) (fun _ => (mv_s (.inl rfl) rfl)) ?_))
   all_goals all_goals refine zaz rfl rfl (zaa rfl) (fun _ => (zde rfl rfl rfl)) ?_
   all_goals all_goals refine zaz rfl rfl (zaa rfl) (fun _ => (zde rfl rfl rfl)) ?_
   all_goals all_goals refine zdh rfl rfl (zaa rfl) (za0 rfl ti51 rfl rfl) (fun _ h => zdr h) ?_
   all_goals all_goals refine zci rfl (zaa rfl) (zaj rfl ti51 rfl rfl rfl rfl rfl rfl (by decide) (by decide)) (fun _ h => zbr h) ?_
   all_goals all_goals refine zaz rfl rfl (zaa rfl) (fun _ => (mv_s (.inr rfl) rfl)) ?_
   all_goals all_goals refine zcc (by kernel_rfl) ?_
   all_goals (all_goals (repeat (first | refine zah ?_ | refine zai ?_ | refine zat ?_ | refine zbu ?_ | refine zaw ?_)))
   all_goals all_goals refine zab ?_
   all_goals all_goals refine zaf rfl rfl (zaa rfl) (mv_s (.inl rfl) rfl) ?_
   all_goals (all_goals (first | refine za3 rfl rfl (zaa rfl) (zbw rfl rfl rfl) (fun h95 => ?_) (fun h95 => ?_) | refine zcx rfl rfl (zaa rfl) (zbw rfl rfl rfl) (fun h95 => ?_) (fun h95 => ?_)))
   all_goals all_goals refine zae ?_
   all_goals (all_goals (repeat (first | refine zah ?_ | refine zai ?_ | refine zat ?_ | refine zbu ?_ | refine zaw ?_)))
   all_goals (all_goals (first | refine za7 rfl ?_ | refine za1 rfl ?_))
   all_goals (all_goals (repeat (first | refine zah ?_ | refine zai ?_ | refine zat ?_ | refine zbu ?_ | refine zaw ?_)))
   all_goals first
    |
     rw [if_pos (by omega)] at HJ
     refine zab (zaf rfl rfl (zaa rfl) (za6 rfl ti51 tp51 rfl rfl) (zbe rfl (zaa rfl) (zaj rfl ti51 rfl rfl rfl rfl rfl rfl (by decide) (by decide)) (zac rfl (zae (zai ?_)))))
     (refine za8 ?_; repeat (first | refine zbg ?_ | refine zbh ?_))
     exact post_ct (.inr rfl) ta51 ti51 rfl rfl rfl rfl rfl rfl (by rw [HJ]; rfl)
    |
     rw [if_neg (by omega)] at HJ
   all_goals have hadd := fAdd_pf (P := P) sm ⟨x.n, x.d⟩
   all_goals generalize addE sm ⟨x.n, x.d⟩ = t at HJ hadd
   all_goals refine zab (zaf rfl rfl (zaa rfl) (zba rfl ta51 ti51 rfl rfl rfl rfl rfl) (zaf rfl rfl (zaa rfl) (zba rfl ta51 ti51 rfl rfl rfl rfl rfl) (zaf rfl rfl (zaa rfl) (zam rfl rfl (hadd) (zad rfl (zad rfl zaq))) (zac rfl (zac rfl (zac rfl (zbe rfl (zaa rfl) (zaj rfl ti51 rfl rfl rfl rfl rfl rfl (by decide) (by decide)) (zac rfl (zae (zah ?_))))))))))
   all_goals all_goals refine zab ?_
   all_goals all_goals refine zaf rfl rfl (zaa rfl) (mv_s (.inl rfl) rfl) ?_
   all_goals (all_goals (first | refine za3 rfl rfl (zaa rfl) (zbw rfl rfl rfl) (fun h104 => ?_) (fun h104 => ?_) | refine zcx rfl rfl (zaa rfl) (zbw rfl rfl rfl) (fun h104 => ?_) (fun h104 => ?_)))
   all_goals all_goals refine zae ?_
   all_goals (all_goals (repeat (first | refine zah ?_ | refine zai ?_ | refine zat ?_ | refine zbu ?_ | refine zaw ?_)))
   all_goals (all_goals (first | refine za7 rfl ?_ | refine za1 rfl ?_))
   all_goals (all_goals (repeat (first | refine zah ?_ | refine zai ?_ | refine zat ?_ | refine zbu ?_ | refine zaw ?_)))
   all_goals first
    |
     rw [if_pos (by omega)] at HJ
     refine zab (zaf rfl rfl (zaa rfl) (za6 rfl ti51 tp51 rfl rfl) (zbe rfl (zaa rfl) (zaj rfl ti51 rfl rfl rfl rfl rfl rfl (by decide) (by decide)) (zac rfl (zae (zai ?_)))))
     (refine za8 ?_; repeat (first | refine zbg ?_ | refine zbh ?_))
     exact post_ct (.inr rfl) ta51 ti51 rfl rfl rfl rfl rfl rfl (by rw [HJ]; rfl)
    |
     rw [if_neg (by omega)] at HJ
     refine zab (zaf rfl rfl (zaa rfl) (zav rfl rfl rfl (IntWalk.i64_in _ (by omega))) (zac rfl (zae (zai ?_))))
     exact ⟨(⟨t.n, t.d⟩, i + 1), ⟨by dsimp only; omega, HJ⟩, by dsimp only; omega, zck [0, 1] (by decide) ⟨⟨_, rfl, .rowE (by repeat' (first | exact Lo.s _ | exact za2 | refine zax ?_ ?_ | refine zar ?_ | refine Lo.cells ?_ | refine Lo.agg _ ?_ | exact zak | refine zag ?_ ?_ | intro _)) rfl⟩, ⟨_, rfl, .rowE (by repeat' (first | exact Lo.s _ | exact za2 | refine zax ?_ ?_ | refine zar ?_ | refine Lo.cells ?_ | refine Lo.agg _ ?_ | exact zak | refine zag ?_ ?_ | intro _)) rfl⟩, trivial⟩ ⟨.lo _ (by repeat' (first | exact Lo.s _ | exact zak | refine zag ?_ ?_ | refine zan ?_ | refine Lo.agg _ ?_ | refine Lo.sl _ ?_ | intro _)), .lo _ (by repeat' (first | exact Lo.s _ | exact zak | refine zag ?_ ?_ | refine zan ?_ | refine Lo.cells ?_ | refine Lo.agg _ ?_ | refine Lo.ref _ ?_ | refine Lo.tup _ ?_ | refine Lo.fn _ _ ?_ | refine Lo.sl _ ?_ | intro _)), .ptr 0 0 2 0 0 rfl, .ptr 1 1 2 0 0 rfl, .lo _ (by repeat' (first | exact Lo.s _ | exact zak | refine zag ?_ ?_ | refine zan ?_ | refine Lo.agg _ ?_ | refine Lo.sl _ ?_ | intro _)), .lo _ (.s _), .lo _ (.s _), trivial⟩⟩
 ·
  rw [show l.length - i = 0 by omega, bdG] at HJ
  (refine zcl ?_; repeat (first | refine zc3 ?_ | refine zb2 ?_ | refine zbq rfl ?_ | refine zbu ?_ | refine zai ?_ | refine zah ?_ | refine zat ?_ | refine zaw ?_))
  refine zab (zaf rfl rfl (zaa rfl) (zba rfl ta51 ti51 rfl rfl rfl rfl rfl) (zbe rfl (zaa rfl) (zaj rfl ti51 rfl rfl rfl rfl rfl rfl (by decide) (by decide)) (zac rfl (zae (zai ?_)))))
  (refine za8 ?_; repeat (first | refine zbg ?_ | refine zbh ?_))
  exact post_ct (.inr rfl) ta51 ti51 rfl rfl rfl rfl rfl rfl (by rw [HJ]; rfl)
def badM (a : Fr) : Bool := !a.okB || decide (a.n < 0)
theorem proves1_pf (a : Fr) : Pure P 73 [eF a] (eB (badM a)) := by
 have hd : badM a = (!a.okB || decide (a.n < 0)) := rfl
 have hv := fValid_pf (P := P) a
 generalize a.okB = z at hd hv
 generalize badM a = R at hd ⊢
 refine zcu (by rw [IsP.eq (P := P)]; exact Try.func73) rfl rfl rfl rfl rfl (by repeat' (first | exact Lo.s _ | exact zak | refine zag ?_ ?_ | refine zan ?_ | refine Lo.agg _ ?_ | refine Lo.sl _ ?_ | intro _)) (.s _) (by simp only [argF]; rfl) ?_
 refine zah (zab (zaf rfl rfl (zaa rfl) (zb4 rfl rfl rfl rfl) ?_))
 refine za5 (zbs (id := 0) rfl) (za5 (zch (d := 1) rfl rfl rfl) ?_)
 refine zac rfl (zae (zah (zab (zc5 ta51 ti51 rfl ?_))))
 refine zcx rfl rfl (zaa rfl) (zam rfl rfl (hv) (zad rfl zaq)) (fun h4 => ?_) (fun h4 => ?_)
 all_goals refine zaf rfl rfl (zaa rfl) (zbv rfl rfl) (zac rfl ?_)
 all_goals (first | refine zb1 tf51_0 rfl ?_ | refine zay rfl ?_)
 all_goals (first | refine zby ta3 rfl ?_ | refine zay rfl ?_)
 all_goals (first | refine za3 rfl rfl (zas rfl rfl rfl) (za4 rfl rfl rfl) (fun h9 => ?_) (fun h9 => ?_) | refine zay rfl ?_)
 all_goals refine zac rfl (zac rfl (zae (zai (za8 ?_))))
 all_goals exact zcb (.inr rfl) rfl (congrArg eB (by
  rw [hd, h4]
  first
  | rfl
  | (rw [decide_eq_true (by omega)]; rfl)
  | (rw [decide_eq_false (by omega)]; rfl)))
def mulB (d : List Int) (y : List Fr) : Bool := decide (y.length = d.length) && !(y.any badM)
def prvB (d : List Int) (l : List Sft) (lo hi : List Int) (y : List Fr) (c : Int) : Bool := mulB d y && ((bdE d l lo hi y).2 && (decide ((cmpE (bdE d l lo hi y).1 (Fr.of (c - 1))).2 = 0) && decide (0 < (cmpE (bdE d l lo hi y).1 (Fr.of (c - 1))).1)))
set_option maxHeartbeats 2000000 in
theorem proves_pf (d : List Int) (l : List Sft) (lo hi : List Int) (y : List Fr) (c : Int) (hv : zb6 d l = true) (hlo : lo.length = l.length) (hhi : hi.length = l.length) (hc1 : 0 ≤ c) (hc2 : c ≤ 1000000) : Pure P 41 [eL eI d, eL eSh l, eBx lo hi, eL eF y, eI c] (eB (prvB d l lo hi y c)) := by
 have hcb := containsFF_pf (P := P) 73 [] badM y lo_F (.fn _ _ (by simp)) (fun a _ => proves1_pf a)
 have HI : prvB d l lo hi y c = (mulB d y && ((bdE d l lo hi y).2 && (decide ((cmpE (bdE d l lo hi y).1 (Fr.of (c - 1))).2 = 0) && decide (0 < (cmpE (bdE d l lo hi y).1 (Fr.of (c - 1))).1)))) := rfl
 generalize prvB d l lo hi y c = R at HI ⊢
 have hm : mulB d y = (decide (y.length = d.length) && !(y.any badM)) := rfl
 generalize y.any badM = z at hcb hm
 generalize mulB d y = zm at hm HI
 refine zcu (by rw [IsP.eq (P := P)]; exact Try.func41) rfl rfl rfl rfl rfl (by repeat' (first | exact Lo.s _ | exact zak | refine zag ?_ ?_ | refine zan ?_ | refine Lo.agg _ ?_ | refine Lo.sl _ ?_ | intro _)) (.s _) (by simp only [argF]; rfl) ?_
 refine zah ?_
 refine aw_bdm (d := 0) rfl (fun hm1 => ?_)
 refine aw_bdm (d := 3) rfl (fun hm2 => ?_)
 unfold maxLen at hm1 hm2
 refine zab (zaf rfl rfl (zaa rfl) (zb4 rfl rfl rfl rfl) ?_)
 refine za5 (zbs (id := 0) rfl) (za5 (zch (d := 7) rfl rfl rfl) ?_)
 refine zac rfl (zae (zah (zah (zab (zac rfl (zaf rfl rfl (zaa rfl) (zao rfl ts30 rfl) (zac rfl (zaf rfl rfl (zaa rfl) (zao rfl ts22 rfl) ?_))))))))
 refine za3 rfl rfl (zaa rfl) (zbw rfl rfl rfl) (fun h19 => ?_) (fun h19 => ?_)
 all_goals refine zac rfl ?_
 all_goals (first | refine zac rfl ?_ | refine zay rfl ?_)
 all_goals (first | refine zcx rfl rfl (zas rfl rfl rfl) (zam rfl rfl (hcb) (zad rfl (zad rfl zaq))) (fun h22 => ?_) (fun h22 => ?_) | refine zay rfl ?_)
 all_goals refine zac rfl (zae (zai ?_))
 all_goals (first | refine za7 rfl ?_ | refine za1 rfl ?_)
 all_goals (repeat (first | refine zah ?_ | refine zat ?_))
 all_goals first
  |
   refine zab (zac rfl (zae (zai ?_)))
   (refine za8 ?_; repeat (first | refine zbg ?_ | refine zbh ?_))
   exact zcb (.inr rfl) rfl (congrArg eB (by
    rw [HI, hm]
    first
    | (rw [h22, Bool.not_true, Bool.and_false]; rfl)
    | (rw [decide_eq_false (by omega)]; rfl)))
  | skip
 have hyl : y.length = d.length := by omega
 have hzm : zm = true := by rw [hm, h22, decide_eq_true hyl]; rfl
 rw [hzm, Bool.true_and] at HI
 have hbd := bound_pf (P := P) d l lo hi y hv hyl hlo hhi
 generalize bdE d l lo hi y = b at HI hbd
 obtain ⟨bf, bz⟩ := b
 replace hbd : Pure P 75 [eL eI d, eL eSh l, eBx lo hi, eL eF y] (.tup [eF bf, eB bz]) := hbd
 dsimp only at HI
 cases bz with
 | false =>
  refine zab (zac rfl (zac rfl (zc5 ta74 ti74 rfl (zac rfl (zaf rfl rfl (zaa rfl) (zam rfl rfl (hbd) (zad rfl (zad rfl (zad rfl (zad rfl zaq))))) (zac rfl (zac rfl (zac rfl (zaf rfl rfl (zaa rfl) (za0 rfl ti51 rfl rfl) (zbe rfl (zaa rfl) (zaj rfl ti51 rfl rfl rfl rfl rfl rfl (by decide) (by decide)) (zac rfl (zae (zah (zah (zab (zac rfl (zaf rfl rfl (zaa rfl) (zbv rfl rfl) (zae (zai (za7 rfl (zah (zab (zac rfl (zae (zai ?_)))))))))))))))))))))))))
  (refine za8 ?_; repeat (first | refine zbg ?_ | refine zbh ?_))
  exact zcb (.inr rfl) rfl (congrArg eB (by rw [HI]; rfl))
 | true =>
  rw [Bool.true_and] at HI
  have hcm := fCmp_pf (P := P) bf (Fr.of (c - 1))
  generalize cmpE bf (Fr.of (c - 1)) = cm at HI hcm
  refine zab (zac rfl (zac rfl (zc5 ta74 ti74 rfl (zac rfl (zaf rfl rfl (zaa rfl) (zam rfl rfl (hbd) (zad rfl (zad rfl (zad rfl (zad rfl zaq))))) (zac rfl (zac rfl (zac rfl (zaf rfl rfl (zaa rfl) (za0 rfl ti51 rfl rfl) (zbe rfl (zaa rfl) (zaj rfl ti51 rfl rfl rfl rfl rfl rfl (by decide) (by decide)) (zac rfl (zae (zah (zah (zab (zac rfl (zaf rfl rfl (zaa rfl) (zbv rfl rfl) (zae (zai (za1 rfl (zat (zah ?_))))))))))))))))))))))
  refine zcj hmix ?_
  refine zcm (by kernel_rfl) ?_
  refine zcn rfl rfl (zaa rfl) (zba rfl ta51 ti51 rfl rfl rfl rfl rfl) (qx_s rfl (zcn rfl rfl (zaa rfl) (does_sub rfl rfl rfl (IntWalk.i64_in _ (by omega))) (zcn rfl rfl (zaa rfl) (zam rfl rfl ((whole_pf _)) (zad rfl zaq)) (zcn rfl rfl (zaa rfl) (zam rfl rfl (hcm) (zad rfl (zad rfl zaq))) (qx_s rfl (qx_s rfl (qx_s rfl (qx_s rfl (qx_s rfl ?_)))))))))
  refine qx_nil ?_
  refine zah (zab (zac rfl ?_))
  refine za3 rfl rfl (zaa rfl) (zbk rfl rfl rfl) (fun h43 => ?_) (fun h43 => ?_)
  all_goals refine zac rfl ?_
  all_goals (first | refine zac rfl ?_ | refine zay rfl ?_)
  all_goals (first | refine za3 rfl rfl (zas rfl rfl rfl) (zb5 rfl rfl rfl) (fun h46 => ?_) (fun h46 => ?_) | refine zay rfl ?_)
  all_goals refine zac rfl (zac rfl (zae (zai (za8 ?_))))
  all_goals exact zcb (.inr rfl) rfl (congrArg eB (by
   rw [HI]
   first
   | (rw [decide_eq_false (show ¬ (cm.2 = 0) by omega)]; rfl)
   | (rw [decide_eq_true (show cm.2 = 0 by omega), decide_eq_true (show 0 < cm.1 by omega)]; rfl)
   | (rw [decide_eq_true (show cm.2 = 0 by omega), decide_eq_false (show ¬ (0 < cm.1) by omega)]; rfl)))
end Go.Proofs.Ytllkbjcemecmjaa.Aw
end
section
namespace Go.Proofs.Ytllkbjcemecmjaa.Aw
open Go.RowKit Go.Proofs
variable {P : Program} [IsP P]
inductive Br where
 | mk (s t : Int) (l : List Br) (y : List Fr)
instance : Inhabited Br := ⟨.mk 0 0 [] []⟩
mutual
def eBr : Br → AV
 | .mk s t l y => .agg [eI s, eI t, .sl (eBrs l), eL eF y]
def eBrs : List Br → List AV
 | [] => []
 | b :: l => eBr b :: eBrs l
end
theorem eBrs_map : ∀ l : List Br, eBrs l = l.map eBr
 | [] => by simp [eBrs]
 | b :: l => by simp [eBrs, eBrs_map l]
theorem eBr_mk (s t : Int) (l : List Br) (y : List Fr) : eBr (.mk s t l y) = .agg [eI s, eI t, eL eBr l, eL eF y] := by
 rw [eBr, eBrs_map]; rfl
mutual
theorem lo_Br : ∀ b : Br, Lo 0 (eBr b)
 | .mk s t l y => by
  rw [eBr]
  exact .agg _ (zag (.s _) (zag (.s _) (zag (.sl _ (lo_Brs l)) (zag (lo_Fs y) zak))))
theorem lo_Brs : ∀ l : List Br, ∀ c ∈ eBrs l, Lo 0 c
 | [], c, h => by simp [eBrs] at h
 | b :: l, c, h => by
  rw [eBrs] at h
  rcases List.mem_cons.1 h with e | h
  ·
   rw [e]; exact lo_Br b
  ·
   exact lo_Brs l c h
end
def rgtE (d : List Int) (l : List Sft) (c : Int) : Br → List Int → List Int → Int → Bool × Int
 | .mk s t [] y, lo, hi, n => if n ≤ 0 then (false, 0) else (decide (s = 0) && (decide (t = 0) && prvB d l lo hi y c), n - 1)
 | .mk s t [a, b] y, lo, hi, n => if n ≤ 0 then (false, 0) else if ¬ (y.length = 0 ∧ 0 ≤ s ∧ s < (l.length : Int) ∧ gti lo s.toNat ≤ t ∧ t < gti hi s.toNat) then (false, n - 1) else if (rgtE d l c a lo (setI hi s.toNat t) (n - 1)).1 = false then (false, (rgtE d l c a lo (setI hi s.toNat t) (n - 1)).2) else rgtE d l c b (setI lo s.toNat (t + 1)) hi (rgtE d l c a lo (setI hi s.toNat t) (n - 1)).2
 | .mk s t (_ :: []) y, lo, hi, n => if n ≤ 0 then (false, 0) else (false, n - 1)
 | .mk s t (_ :: _ :: _ :: _) y, lo, hi, n => if n ≤ 0 then (false, 0) else (false, n - 1)
theorem rgtE_bd (d : List Int) (l : List Sft) (c : Int) : ∀ (b : Br) (lo hi : List Int) (n : Int), 0 ≤ n → 0 ≤ (rgtE d l c b lo hi n).2 ∧ (rgtE d l c b lo hi n).2 ≤ n
 | .mk s t [] y, lo, hi, n, h => by
  rw [rgtE]; split
  ·
   exact ⟨Int.le_refl _, h⟩
  ·
   dsimp only; omega
 | .mk s t [a, b] y, lo, hi, n, h => by
  rw [rgtE]; split
  ·
   exact ⟨Int.le_refl _, h⟩
  ·
   split
   ·
    dsimp only; omega
   ·
    have h1 := rgtE_bd d l c a lo (setI hi s.toNat t) (n - 1) (by omega)
    split
    ·
     dsimp only; omega
    ·
     have h2 := rgtE_bd d l c b (setI lo s.toNat (t + 1)) hi _ h1.1
     omega
 | .mk s t (_ :: []) y, lo, hi, n, h => by
  rw [rgtE]; split
  ·
   exact ⟨Int.le_refl _, h⟩
  ·
   dsimp only; omega
 | .mk s t (_ :: _ :: _ :: _) y, lo, hi, n, h => by
  rw [rgtE]; split
  ·
   exact ⟨Int.le_refl _, h⟩
  ·
   dsimp only; omega
structure BX (l : List Sft) (lo hi : List Int) : Prop where
 l1 : lo.length = l.length
 l2 : hi.length = l.length
 b1 : ∀ k, k < l.length → 0 ≤ gti lo k ∧ gti lo k ≤ 20
 b2 : ∀ k, k < l.length → 0 ≤ gti hi k ∧ gti hi k ≤ 20
theorem setI_len (l : List Int) (k : Nat) (x : Int) : (setI l k x).length = l.length := by simp [setI]
theorem setI_gti {l : List Int} {k : Nat} {x : Int} (h : k < l.length) (j : Nat) : gti (setI l k x) j = if j = k then x else gti l j := by
 unfold gti setI
 rw [List.getElem?_set]
 by_cases e : j = k
 ·
  subst e; rw [if_pos rfl, if_pos rfl, if_pos h]; rfl
 ·
  rw [if_neg (Ne.symm e), if_neg e]
theorem BX.hi {l : List Sft} {lo hi : List Int} (h : BX l lo hi) {k : Nat} {t : Int} (hk : k < l.length) (h1 : 0 ≤ t) (h2 : t ≤ 20) : BX l lo (setI hi k t) :=
 ⟨h.l1, by rw [setI_len]; exact h.l2, h.b1, fun j hj => by rw [setI_gti (by rw [h.l2]; exact hk)]; split <;> first | exact ⟨h1, h2⟩ | exact h.b2 j hj⟩
theorem BX.lo {l : List Sft} {lo hi : List Int} (h : BX l lo hi) {k : Nat} {t : Int} (hk : k < l.length) (h1 : 0 ≤ t) (h2 : t ≤ 20) : BX l (setI lo k t) hi :=
 ⟨by rw [setI_len]; exact h.l1, h.l2, fun j hj => by rw [setI_gti (by rw [h.l1]; exact hk)]; split <;> first | exact ⟨h1, h2⟩ | exact h.b1 j hj, h.b2⟩
def zc1 (n : Nat) : List Int := List.replicate n 0
theorem first_box {d : List Int} {l : List Sft} (hv : zb6 d l = true) : BX l (zc1 l.length) (zb7 l) := by
 obtain ⟨⟨_, _, q3⟩, _, ql⟩ := zb0 hv
 refine ⟨by simp [zc1], mostL_len l, fun k hk => ?_, fun k hk => ?_⟩
 ·
  unfold zc1 gti
  rw [List.getElem?_replicate, if_pos hk]
  exact ⟨Int.le_refl _, by decide⟩
 ·
  rw [mostL_gti hk]; have := (ql k hk).1; omega
set_option maxHeartbeats 1000000 in
theorem first_pf (l : List Sft) (hl : l.length ≤ 12) : Pure P 28 [eL eSh l] (eBx (zc1 l.length) (zb7 l)) := by
 have hz : List.replicate l.length (eI 0) = (zc1 l.length).map eI := by simp [zc1]
 refine zcu (by rw [IsP.eq (P := P)]; exact Try.func28) rfl rfl rfl rfl rfl (by repeat' (first | exact Lo.s _ | exact zak | refine zag ?_ ?_ | refine zan ?_ | refine Lo.agg _ ?_ | refine Lo.sl _ ?_ | intro _)) (by repeat' (first | exact Lo.s _ | exact zak | refine zag ?_ ?_ | refine zan ?_ | refine Lo.agg _ ?_ | refine Lo.sl _ ?_ | intro _)) (by simp only [argF]; rfl) ?_
 refine zah (zab (zaf rfl rfl (zaa rfl) (za0 rfl ti74 rfl rfl) (zae (zah ?_))))
 refine zcj hmix ?_
 refine zdg ?_
 refine ex_s rfl (zaz rfl rfl (zaa rfl) (fun _ => (zao rfl ts23 rfl)) ?_)
 refine zdh rfl rfl (zaa rfl) (does_make rfl ts22 ti3 rfl rfl (by decide) rfl rfl rfl rfl (by omega) (by omega) (by omega)) (fun _ h => zdr h) ?_
 refine ex_s rfl (zaz rfl rfl (zaa rfl) (fun _ => (zam rfl rfl ((most_pf l hl)) (zad rfl zaq))) (zaz rfl rfl (zaa rfl) (fun _ => (za6 rfl ti74 tp74 rfl rfl)) ?_))
 refine zci rfl (zaa rfl) (zaj rfl ti74 rfl rfl rfl rfl rfl rfl (by decide) (by decide)) (fun _ h => zbr h) ?_
 refine zcc (by kernel_rfl) ?_
 refine zai ?_
 (refine za8 ?_; repeat (first | refine zbg ?_ | refine zbh ?_))
 refine post_c1 (N := 0) (.inr rfl) ta74 ti74 rfl rfl rfl rfl rfl ?_
 refine .agg _ _ rfl (zbb.cons ?_ (zbb.cons (.refl _) zbb.nil)).2
 unfold eL
 rw [← hz]
 exact .own _ _ _ _ _ rfl rfl (by simp)
def eBI (r : Bool × Int) : AV := .tup [eB r.1, eI r.2]
theorem post_bi {N : Nat} {F : Frm} {σ : List Ob} {t u : Nat} {r : Bool × Int} {b : Bool} {n : Int} {e : Exit} (he : e = .normal ∨ e = .ret) (h : F.get t = eB b) (h' : F.get u = eI n) (hr : r = (b, n)) : APost P [.tmp t, .tmp u] (eBI r) e F σ := by
 subst hr
 exact post2 he h h' (.refl _) (.refl _)
theorem rgt_0 {d : List Int} {l : List Sft} {c s t : Int} {L : List Br} {y : List Fr} {lo hi : List Int} {n : Int} (h : n ≤ 0) : rgtE d l c (.mk s t L y) lo hi n = (false, 0) := by
 match L with
 | [] => rw [rgtE, if_pos h]
 | [_] => rw [rgtE, if_pos h]
 | [_, _] => rw [rgtE, if_pos h]
 | _ :: _ :: _ :: _ => rw [rgtE, if_pos h]
theorem rgt_leaf {d : List Int} {l : List Sft} {c s t : Int} {L : List Br} {y : List Fr} {lo hi : List Int} {n : Int} (h : ¬ n ≤ 0) (hL : L.length = 0) : rgtE d l c (.mk s t L y) lo hi n = (decide (s = 0) && (decide (t = 0) && prvB d l lo hi y c), n - 1) := by
 match L, hL with
 | [], _ => rw [rgtE, if_neg h]
theorem rgt_bad {d : List Int} {l : List Sft} {c s t : Int} {L : List Br} {y : List Fr} {lo hi : List Int} {n : Int} (h : ¬ n ≤ 0) (hL : L.length ≠ 0) (hb : ¬ (L.length = 2 ∧ y.length = 0 ∧ 0 ≤ s ∧ s < (l.length : Int) ∧ gti lo s.toNat ≤ t ∧ t < gti hi s.toNat)) : rgtE d l c (.mk s t L y) lo hi n = (false, n - 1) := by
 match L, hL, hb with
 | [_], _, _ => rw [rgtE, if_neg h]
 | [_, _], _, hb => rw [rgtE, if_neg h, if_pos (fun g => hb ⟨rfl, g⟩)]
 | _ :: _ :: _ :: _, _, _ => rw [rgtE, if_neg h]
theorem rgt_two {d : List Int} {l : List Sft} {c s t : Int} {a b : Br} {y : List Fr} {lo hi : List Int} {n : Int} (h : ¬ n ≤ 0) (hb : y.length = 0 ∧ 0 ≤ s ∧ s < (l.length : Int) ∧ gti lo s.toNat ≤ t ∧ t < gti hi s.toNat) : rgtE d l c (.mk s t [a, b] y) lo hi n = if (rgtE d l c a lo (setI hi s.toNat t) (n - 1)).1 = false then (false, (rgtE d l c a lo (setI hi s.toNat t) (n - 1)).2) else rgtE d l c b (setI lo s.toNat (t + 1)) hi (rgtE d l c a lo (setI hi s.toNat t) (n - 1)).2 := by
 rw [rgtE, if_neg h, if_neg (fun g => g hb)]
theorem two_of {L : List Br} (h : L.length = 2) : ∃ a b, L = [a, b] := by
 match L, h with
 | [a, b], _ => exact ⟨a, b, rfl⟩
set_option maxHeartbeats 8000000 in
theorem right_n (d : List Int) (l : List Sft) (c : Int) (hv : zb6 d l = true) (hc1 : 0 ≤ c) (hc2 : c ≤ 1000000) : ∀ (m : Nat) (b : Br) (lo hi : List Int) (n : Int), SizeOf.sizeOf b < m → BX l lo hi → 0 ≤ n → n ≤ 20000 → Pure P 31 [eL eI d, eL eSh l, eBx lo hi, eBr b, eI c, eI n] (eBI (rgtE d l c b lo hi n)) := by
 intro m
 induction m
 ·
  intro b lo hi n h; omega
 rename_i m IH0
 intro b lo hi n hsz hb hn1 hn2
 obtain ⟨s, t, L, y⟩ := b
 have IH : ∀ b', b' ∈ L → ∀ (lo hi : List Int) (n : Int), BX l lo hi → 0 ≤ n → n ≤ 20000 → Pure P 31 [eL eI d, eL eSh l, eBx lo hi, eBr b', eI c, eI n] (eBI (rgtE d l c b' lo hi n)) := fun b' hb' lo hi n h1 h2 h3 => IH0 b' lo hi n (by have := List.sizeOf_lt_of_mem hb'; simp at hsz; omega) h1 h2 h3
 clear IH0 hsz
 obtain ⟨⟨q1, q2, q3⟩, qd, ql⟩ := zb0 hv
 obtain ⟨z1, z2, z3, z4⟩ := hb
 obtain ⟨R, HR⟩ : ∃ R, R = rgtE d l c (.mk s t L y) lo hi n := ⟨_, rfl⟩
 rw [← HR]
 have hlo : ∀ x ∈ [eL eI d, eL eSh l, eBx lo hi, eBr (.mk s t L y), eI c, eI n], Lo 0 x := zag (zan fun _ => .s _) (zag (zan lo_Sh) (zag (by repeat' (first | exact Lo.s _ | exact zak | refine zag ?_ ?_ | refine zan ?_ | refine Lo.agg _ ?_ | refine Lo.sl _ ?_ | intro _)) (zag (lo_Br _) (zag (.s _) (zag (.s _) zak)))))
 have hloR : Lo 0 (eBI R) := (.tup _ (zag (.s _) (zag (.s _) zak)))
 rw [eBr_mk] at hlo ⊢
 refine zcu (by rw [IsP.eq (P := P)]; exact Try.func31) rfl rfl rfl rfl rfl hlo hloR (by simp only [argF]; rfl) ?_
 refine zah ?_
 refine aw_bdm (d := 1) rfl (fun hm1 => ?_)
 unfold maxLen at hm1
 refine zab (zaf rfl rfl (zaa rfl) (zb4 rfl rfl rfl rfl) ?_)
 refine za5 (zbs (id := 0) rfl) (za5 (zch (d := 8) rfl rfl rfl) ?_)
 refine zaf rfl rfl (zaa rfl) (zb4 rfl rfl rfl rfl) ?_
 refine za5 (zbs (id := 1) rfl) (za5 (zch (d := 9) rfl rfl rfl) ?_)
 refine zac rfl (zac rfl (zae (zah (zah (zab (zac rfl ?_))))))
 refine za3 rfl rfl (zaa rfl) (does_leq rfl rfl rfl) (fun h18 => ?_) (fun h18 => ?_)
 all_goals refine zae (zai ?_)
 all_goals (first | refine za7 rfl ?_ | refine za1 rfl ?_)
 all_goals (repeat (first | refine zah ?_ | refine zat ?_))
 ·
  rw [rgt_0 (by omega)] at HR
  refine zab (zac rfl (zac rfl (zae (zai ?_))))
  (refine za8 ?_; repeat (first | refine zbg ?_ | refine zbh ?_))
  exact post_bi (N := 0) (.inr rfl) rfl rfl HR
 have hn0 : ¬ n ≤ 0 := by omega
 refine zab (zac rfl (zaf rfl rfl (zaa rfl) (does_sub rfl rfl rfl (IntWalk.i64_in _ (by omega))) (zac rfl (zae (zah (zah (zab (zb1 tf32_2 rfl (zby ta29 rfl (zaf rfl rfl (zaa rfl) (zao rfl ts29 rfl) (zaf rfl rfl (zaa rfl) (zbk rfl rfl rfl) (zae (zai ?_)))))))))))))
 refine aw_bdm (d := 22) rfl (fun hm2 => ?_)
 unfold maxLen at hm2
 refine aw_if rfl (fun h => ?_) (fun h => ?_)
 ·
  refine zah ?_
  rw [rgt_leaf hn0 (by omega)] at HR
  have hpr := proves_pf (P := P) d l lo hi y c hv z1 z2 hc1 hc2
  generalize prvB d l lo hi y c = zp at HR hpr
  refine zab (zb1 tf32_0 rfl (zby ta3 rfl ?_))
  refine za3 rfl rfl (zaa rfl) (zbk rfl rfl rfl) (fun h27 => ?_) (fun h27 => ?_)
  all_goals refine zac rfl ?_
  all_goals (first | refine zb1 tf32_1 rfl ?_ | refine zay rfl ?_)
  all_goals (first | refine zby ta3 rfl ?_ | refine zay rfl ?_)
  all_goals (first | refine za3 rfl rfl (zas rfl rfl rfl) (zbk rfl rfl rfl) (fun h31 => ?_) (fun h31 => ?_) | refine zay rfl ?_)
  all_goals refine zac rfl (zac rfl ?_)
  all_goals (first | refine zac rfl ?_ | refine zay rfl ?_)
  all_goals (first | refine zac rfl ?_ | refine zay rfl ?_)
  all_goals (first | refine zc5 ta74 ti74 rfl ?_ | refine zay rfl ?_)
  all_goals (first | refine zb1 tf32_3 rfl ?_ | refine zay rfl ?_)
  all_goals (first | refine zby ta30 rfl ?_ | refine zay rfl ?_)
  all_goals (first | refine zac rfl ?_ | refine zay rfl ?_)
  all_goals (first | refine zcx rfl rfl (zas rfl rfl rfl) (zam rfl rfl (hpr) (zad rfl (zad rfl (zad rfl (zad rfl (zad rfl zaq)))))) (fun h40 => ?_) (fun h40 => ?_) | refine zay rfl ?_)
  all_goals refine zac rfl (zac rfl (zac rfl (zac rfl (zae (zai (za8 (zbg ?_)))))))
  all_goals exact post_bi (N := 0) (.inr rfl) rfl rfl (by
   rw [HR]
   first
   | (rw [decide_eq_false (show ¬ (s = 0) by omega)]; rfl)
   | (rw [decide_eq_true (show s = 0 by omega), decide_eq_false (show ¬ (t = 0) by omega)]; rfl)
   | (rw [decide_eq_true (show s = 0 by omega), decide_eq_true (show t = 0 by omega), h40]; rfl))
 have hL0 : L.length ≠ 0 := by omega
 refine zat (zah (zah ?_))
 refine aw_bdm (d := 22) rfl (fun hm4 => ?_)
 refine zcj hmix ?_
 refine zcm (by kernel_rfl) ?_
 refine qx_f tf32_2 rfl (qx_l ta29 rfl (zcn rfl rfl (zaa rfl) (zao rfl ts29 rfl) ?_))
 refine qx_opP rfl rfl (zaa rfl) (zbw rfl rfl rfl) (fun h46 => ?_) (fun h46 => ?_)
 all_goals refine qx_s rfl ?_
 all_goals (first | refine qx_f tf32_3 rfl ?_ | refine qx_z rfl ?_)
 all_goals (first | refine qx_l ta30 rfl ?_ | refine qx_z rfl ?_)
 all_goals (first | refine zcn rfl rfl (zas rfl rfl rfl) (zao rfl ts30 rfl) ?_ | refine qx_z rfl ?_)
 all_goals (first | refine qx_opP rfl rfl (zas rfl rfl rfl) (zb5 rfl rfl rfl) (fun h51 => ?_) (fun h51 => ?_) | refine qx_z rfl ?_)
 all_goals refine qx_s rfl (qx_s rfl ?_)
 all_goals (first | refine qx_f tf32_0 rfl ?_ | refine qx_z rfl ?_)
 all_goals (first | refine qx_l ta3 rfl ?_ | refine qx_z rfl ?_)
 all_goals (first | refine qx_opP rfl rfl (zas rfl rfl rfl) (za4 rfl rfl rfl) (fun h56 => ?_) (fun h56 => ?_) | refine qx_z rfl ?_)
 all_goals refine qx_s rfl (qx_s rfl ?_)
 all_goals (first | refine qx_f tf32_0 rfl ?_ | refine qx_z rfl ?_)
 all_goals (first | refine qx_l ta3 rfl ?_ | refine qx_z rfl ?_)
 all_goals (first | refine qx_s rfl ?_ | refine qx_z rfl ?_)
 all_goals (first | refine zcn rfl rfl (zas rfl rfl rfl) (zao rfl ts23 rfl) ?_ | refine qx_z rfl ?_)
 all_goals (first | refine qx_opP rfl rfl (zas rfl rfl rfl) (zcz rfl rfl rfl) (fun h63 => ?_) (fun h63 => ?_) | refine qx_z rfl ?_)
 all_goals refine qx_s rfl (qx_s rfl ?_)
 all_goals (first | refine qx_f tf32_1 rfl ?_ | refine qx_z rfl ?_)
 all_goals (first | refine qx_l ta3 rfl ?_ | refine qx_z rfl ?_)
 all_goals (first | refine qx_f tf74_0 rfl ?_ | refine qx_z rfl ?_)
 all_goals (first | refine qx_l ta22 rfl ?_ | refine qx_z rfl ?_)
 all_goals (first | refine qx_f tf32_0 rfl ?_ | refine qx_z rfl ?_)
 all_goals (first | refine qx_l ta3 rfl ?_ | refine qx_z rfl ?_)
 all_goals (first | refine zcn rfl rfl (zas rfl rfl rfl) (zal rfl ts22 ti3 rfl rfl (by omega) (zbd (k := s.toNat) (by omega)) rfl) ?_ | refine qx_z rfl ?_)
 all_goals (first | refine qx_l ta3 rfl ?_ | refine qx_z rfl ?_)
 all_goals (first | refine qx_opP rfl rfl (zas rfl rfl rfl) (za4 rfl rfl rfl) (fun h74 => ?_) (fun h74 => ?_) | refine qx_z rfl ?_)
 all_goals refine qx_s rfl (qx_s rfl ?_)
 all_goals (first | refine qx_f tf32_1 rfl ?_ | refine qx_z rfl ?_)
 all_goals (first | refine qx_l ta3 rfl ?_ | refine qx_z rfl ?_)
 all_goals (first | refine qx_f tf74_1 rfl ?_ | refine qx_z rfl ?_)
 all_goals (first | refine qx_l ta22 rfl ?_ | refine qx_z rfl ?_)
 all_goals (first | refine qx_f tf32_0 rfl ?_ | refine qx_z rfl ?_)
 all_goals (first | refine qx_l ta3 rfl ?_ | refine qx_z rfl ?_)
 all_goals (first | refine zcn rfl rfl (zas rfl rfl rfl) (zal rfl ts22 ti3 rfl rfl (by omega) (zbd (k := s.toNat) (by omega)) rfl) ?_ | refine qx_z rfl ?_)
 all_goals (first | refine qx_l ta3 rfl ?_ | refine qx_z rfl ?_)
 all_goals (first | refine qx_opP rfl rfl (zas rfl rfl rfl) (zcz rfl rfl rfl) (fun h85 => ?_) (fun h85 => ?_) | refine qx_z rfl ?_)
 all_goals refine qx_s rfl ?_
 all_goals refine qx_nil ?_
 all_goals refine zai ?_
 all_goals (first | refine za7 rfl ?_ | refine za1 rfl ?_)
 all_goals (repeat (first | refine zah ?_ | refine zat ?_))
 all_goals first
  |
   rw [rgt_bad hn0 hL0 (by omega)] at HR
   refine zab (zac rfl (zac rfl (zac rfl (zae (zai ?_)))))
   (refine za8 ?_; repeat (first | refine zbg ?_ | refine zbh ?_))
   exact post_bi (N := 0) (.inr rfl) rfl rfl HR
  | skip
 have hs : s = (s.toNat : Int) := by omega
 have hsl : s.toNat < l.length := by omega
 have b1 := z3 s.toNat hsl
 have b2 := z4 s.toNat hsl
 obtain ⟨a, b, hab⟩ := two_of (L := L) (by omega)
 subst hab
 rw [rgt_two hn0 ⟨by omega, by omega, by omega, by omega, by omega⟩] at HR
 have hbx : BX l lo hi := ⟨z1, z2, z3, z4⟩
 have hhv := halves_pf (P := P) lo hi s.toNat t (by omega) (by omega) (by omega) (by omega) (by omega)
 rw [← hs] at hhv
 have r1 := IH a (by simp) lo (setI hi s.toNat t) (n - 1) (hbx.hi hsl (by omega) (by omega)) (by omega) (by omega)
 have r1b := rgtE_bd d l c a lo (setI hi s.toNat t) (n - 1) (by omega)
 generalize rgtE d l c a lo (setI hi s.toNat t) (n - 1) = x at HR r1 r1b
 have r2 := IH b (by simp) (setI lo s.toNat (t + 1)) hi x.2 (hbx.lo hsl (by omega) (by omega)) r1b.1 (by omega)
 obtain ⟨xz, xn⟩ := x
 replace r1 : Pure P 31 [eL eI d, eL eSh l, eBx lo (setI hi s.toNat t), eBr a, eI c, eI (n - 1)] (.tup [eB xz, eI xn]) := r1
 dsimp only at HR r2
 generalize rgtE d l c b (setI lo s.toNat (t + 1)) hi xn = x2 at HR r2
 obtain ⟨yz, yn⟩ := x2
 replace r2 : Pure P 31 [eL eI d, eL eSh l, eBx (setI lo s.toNat (t + 1)) hi, eBr b, eI c, eI xn] (.tup [eB yz, eI yn]) := r2
 obtain ⟨sa, ta, La, ya⟩ := a
 obtain ⟨sb, tb, Lb, yb⟩ := b
 have hixa : (List.map eBr [.mk sa ta La ya, .mk sb tb Lb yb])[0]? = some (.agg [eI sa, eI ta, eL eBr La, eL eF ya]) := by rw [← eBr_mk]; rfl
 have hixb : (List.map eBr [.mk sa ta La ya, .mk sb tb Lb yb])[1]? = some (.agg [eI sb, eI tb, eL eBr Lb, eL eF yb]) := by rw [← eBr_mk]; rfl
 rw [eBr_mk] at r1 r2
 cases xz with
 | false =>
  rw [if_pos rfl] at HR
  refine zab (zc5 ta74 ti74 rfl (zb1 tf32_0 rfl (zby ta3 rfl (zb1 tf32_1 rfl (zby ta3 rfl (zaf rfl rfl (zaa rfl) (zam rfl rfl (hhv) (zad rfl (zad rfl (zad rfl zaq)))) (zac rfl (zac rfl (zac rfl (zaf rfl rfl (zaa rfl) (za0 rfl ti74 rfl rfl) (zaf rfl rfl (zaa rfl) (za0 rfl ti74 rfl rfl) (zbe rfl (zaa rfl) (zaj rfl ti74 rfl rfl rfl rfl rfl rfl (by decide) (by decide)) (zbe rfl (zaa rfl) (zaj rfl ti74 rfl rfl rfl rfl rfl rfl (by decide) (by decide)) (zae (zah ?_)))))))))))))))
  refine zbi (zbs (id := 2) rfl) ?_
  refine zbi (zch (d := 14) rfl rfl rfl) ?_
  refine zbi (zbs (id := 3) rfl) ?_
  refine zbi (zch (d := 15) rfl rfl rfl) ?_
  refine zcj hmix ?_
  refine zdg ?_
  refine ex_s rfl (ex_s rfl (ex_w ta74 ti74 rfl (ex_f tf32_2 rfl (ex_l ta29 rfl (zaz rfl rfl (zaa rfl) (fun _ => (zal rfl ts29 ti32 rfl rfl (show (0 : Int) = ((0 : Nat) : Int) from rfl) hixa rfl)) (ex_w ta32 ti32 rfl (ex_s rfl (ex_s rfl (zaz rfl rfl (zaa rfl) (fun _ => (zam rfl rfl (r1) (zad rfl (zad rfl (zad rfl (zad rfl (zad rfl (zad rfl zaq)))))))) (ex_s rfl (ex_s rfl (ex_s rfl (ex_s rfl (ex_s rfl ?_))))))))))))))
  refine zcc (by kernel_rfl) ?_
  refine zah (zah (zab (zac rfl (zaf rfl rfl (zaa rfl) (zbv rfl rfl) (zae (zai (za7 rfl (zah (zab (zac rfl (zac rfl (zac rfl (zae (zai ?_))))))))))))))
  (refine za8 ?_; repeat (first | refine zbg ?_ | refine zbh ?_))
  exact post_bi (N := 0) (.inr rfl) rfl rfl HR
 | true =>
  rw [if_neg (by simp)] at HR
  refine zab (zc5 ta74 ti74 rfl (zb1 tf32_0 rfl (zby ta3 rfl (zb1 tf32_1 rfl (zby ta3 rfl (zaf rfl rfl (zaa rfl) (zam rfl rfl (hhv) (zad rfl (zad rfl (zad rfl zaq)))) (zac rfl (zac rfl (zac rfl (zaf rfl rfl (zaa rfl) (za0 rfl ti74 rfl rfl) (zaf rfl rfl (zaa rfl) (za0 rfl ti74 rfl rfl) (zbe rfl (zaa rfl) (zaj rfl ti74 rfl rfl rfl rfl rfl rfl (by decide) (by decide)) (zbe rfl (zaa rfl) (zaj rfl ti74 rfl rfl rfl rfl rfl rfl (by decide) (by decide)) (zae (zah ?_)))))))))))))))
  refine zbi (zbs (id := 2) rfl) ?_
  refine zbi (zch (d := 14) rfl rfl rfl) ?_
  refine zbi (zbs (id := 3) rfl) ?_
  refine zbi (zch (d := 15) rfl rfl rfl) ?_
  refine zcj hmix ?_
  refine zdg ?_
  refine ex_s rfl (ex_s rfl (ex_w ta74 ti74 rfl (ex_f tf32_2 rfl (ex_l ta29 rfl (zaz rfl rfl (zaa rfl) (fun _ => (zal rfl ts29 ti32 rfl rfl (show (0 : Int) = ((0 : Nat) : Int) from rfl) hixa rfl)) (ex_w ta32 ti32 rfl (ex_s rfl (ex_s rfl (zaz rfl rfl (zaa rfl) (fun _ => (zam rfl rfl (r1) (zad rfl (zad rfl (zad rfl (zad rfl (zad rfl (zad rfl zaq)))))))) (ex_s rfl (ex_s rfl (ex_s rfl (ex_s rfl (ex_s rfl ?_))))))))))))))
  refine zcc (by kernel_rfl) ?_
  refine zah (zah (zab (zac rfl (zaf rfl rfl (zaa rfl) (zbv rfl rfl) (zae (zai (za1 rfl (zat (zah ?_)))))))))
  refine zcj hmix ?_
  refine zdg ?_
  refine ex_s rfl (ex_s rfl (ex_w ta74 ti74 rfl (ex_f tf32_2 rfl (ex_l ta29 rfl (zaz rfl rfl (zaa rfl) (fun _ => (zal rfl ts29 ti32 rfl rfl (show (1 : Int) = ((1 : Nat) : Int) from rfl) hixb rfl)) (ex_w ta32 ti32 rfl (ex_s rfl (ex_s rfl (zaz rfl rfl (zaa rfl) (fun _ => (zam rfl rfl (r2) (zad rfl (zad rfl (zad rfl (zad rfl (zad rfl (zad rfl zaq)))))))) (ex_s rfl (ex_s rfl (ex_s rfl (ex_s rfl ?_)))))))))))))
  refine zcc (by kernel_rfl) ?_
  refine zai ?_
  (refine za8 ?_; repeat (first | refine zbg ?_ | refine zbh ?_))
  exact post_bi (N := 0) (.inr rfl) rfl rfl HR
theorem right_pf (d : List Int) (l : List Sft) (c : Int) (hv : zb6 d l = true) (hc1 : 0 ≤ c) (hc2 : c ≤ 1000000) (b : Br) (lo hi : List Int) (n : Int) (hb : BX l lo hi) (h1 : 0 ≤ n) (h2 : n ≤ 20000) : Pure P 31 [eL eI d, eL eSh l, eBx lo hi, eBr b, eI c, eI n] (eBI (rgtE d l c b lo hi n)) :=
 right_n d l c hv hc1 hc2 (SizeOf.sizeOf b + 1) b lo hi n (Nat.lt_succ_self _) hb h1 h2
end Go.Proofs.Ytllkbjcemecmjaa.Aw
end
section
namespace Go.Proofs.Ytllkbjcemecmjaa.Aw
open Go.RowKit Go.Proofs
variable {P : Program} [IsP P]
def headK (d : List Int) (l : List Sft) (p : Pln) : Prop := zb6 d l = true ∧ cntB l p.c = true ∧ shE d l p.c < 0 ∧ p.cost = prcP l p.c l.length
instance (d : List Int) (l : List Sft) (p : Pln) : Decidable (headK d l p) := by unfold headK; infer_instance
def chkE (d : List Int) (l : List Sft) (p : Pln) (b : Br) : Bool := if headK d l p then (rgtE d l p.cost b (zc1 l.length) (zb7 l) 20000).1 else false
set_option maxHeartbeats 4000000 in
theorem check_pf (d : List Int) (l : List Sft) (p : Pln) (b : Br) : Pure P 14 [eL eI d, eL eSh l, ePl p, eBr b] (eB (chkE d l p b)) := by
 have HI : chkE d l p b = if headK d l p then (rgtE d l p.cost b (zc1 l.length) (zb7 l) 20000).1 else false := rfl
 generalize chkE d l p b = R at HI ⊢
 obtain ⟨s, t, L, y⟩ := b
 have hlo : ∀ x ∈ [eL eI d, eL eSh l, ePl p, eBr (.mk s t L y)], Lo 0 x := zag (zan fun _ => .s _) (zag (zan lo_Sh) (zag (by repeat' (first | exact Lo.s _ | exact zak | refine zag ?_ ?_ | refine zan ?_ | refine Lo.agg _ ?_ | refine Lo.sl _ ?_ | intro _)) (zag (lo_Br _) zak)))
 rw [eBr_mk] at hlo ⊢
 refine zcu (by rw [IsP.eq (P := P)]; exact Try.func14) rfl rfl rfl rfl rfl hlo (.s _) (by simp only [argF]; rfl) ?_
 refine zah (zab (zaf rfl rfl (zaa rfl) (zb4 rfl rfl rfl rfl) ?_))
 refine za5 (zbs (id := 0) rfl) (za5 (zch (d := 6) rfl rfl rfl) ?_)
 refine zaf rfl rfl (zaa rfl) (zb4 rfl rfl rfl rfl) ?_
 refine za5 (zbs (id := 1) rfl) (za5 (zch (d := 7) rfl rfl rfl) ?_)
 refine zac rfl (zae (zah (zah ?_)))
 refine zcj hmix ?_
 refine zcm (by kernel_rfl) ?_
 refine qx_s rfl (qx_s rfl ?_)
 refine qx_opB rfl rfl (zaa rfl) (zam rfl rfl ((sValid_pf54 d l)) (zad rfl (zad rfl zaq))) (fun h13 => ?_) (fun h13 => ?_)
 all_goals refine zcn rfl rfl (zaa rfl) (zbv rfl rfl) (qx_s rfl ?_)
 all_goals (first | refine qx_s rfl ?_ | refine qx_z rfl ?_)
 all_goals (first | refine qx_f tf28_0 rfl ?_ | refine qx_z rfl ?_)
 all_goals (first | refine qx_l ta22 rfl ?_ | refine qx_z rfl ?_)
 all_goals (first | refine qx_opB rfl rfl (zas rfl rfl rfl) (zam rfl rfl ((counts_pf l p.c)) (zad rfl (zad rfl zaq))) (fun h19 => ?_) (fun h19 => ?_) | refine qx_z rfl ?_)
 all_goals (first | refine zcn rfl rfl (zas rfl rfl rfl) (zbv rfl rfl) ?_ | refine qx_z rfl ?_)
 all_goals refine qx_s rfl (qx_s rfl ?_)
 all_goals (first | refine qx_s rfl ?_ | refine qx_z rfl ?_)
 all_goals (first | refine qx_s rfl ?_ | refine qx_z rfl ?_)
 all_goals (first | refine qx_f tf28_0 rfl ?_ | refine qx_z rfl ?_)
 all_goals (first | refine qx_l ta22 rfl ?_ | refine qx_z rfl ?_)
 all_goals (first | refine zcn rfl rfl (zas rfl rfl rfl) (zam rfl rfl ((short_pf d l p.c h13 (okC_of h13 h19))) (zad rfl (zad rfl (zad rfl zaq)))) ?_ | refine qx_z rfl ?_)
 all_goals (first | refine qx_opP rfl rfl (zas rfl rfl rfl) (zcz rfl rfl rfl) (fun h28 => ?_) (fun h28 => ?_) | refine qx_z rfl ?_)
 all_goals refine qx_s rfl (qx_s rfl ?_)
 all_goals (first | refine qx_f tf28_1 rfl ?_ | refine qx_z rfl ?_)
 all_goals (first | refine qx_l ta3 rfl ?_ | refine qx_z rfl ?_)
 all_goals (first | refine qx_s rfl ?_ | refine qx_z rfl ?_)
 all_goals (first | refine qx_f tf28_0 rfl ?_ | refine qx_z rfl ?_)
 all_goals (first | refine qx_l ta22 rfl ?_ | refine qx_z rfl ?_)
 all_goals (first | refine zcn rfl rfl (zas rfl rfl rfl) (zam rfl rfl ((price_pf d l p.c h13 (okC_of h13 h19))) (zad rfl (zad rfl zaq))) ?_ | refine qx_z rfl ?_)
 all_goals (first | refine qx_opP rfl rfl (zas rfl rfl rfl) (zbw rfl rfl rfl) (fun h37 => ?_) (fun h37 => ?_) | refine qx_z rfl ?_)
 all_goals refine qx_s rfl ?_
 all_goals refine qx_nil ?_
 all_goals refine zai ?_
 all_goals (first | refine za7 rfl ?_ | refine za1 rfl ?_)
 all_goals (repeat (first | refine zah ?_ | refine zat ?_))
 all_goals first
  |
   rw [if_neg (by
    unfold headK
    rintro ⟨g1, g2, g3, g4⟩
    first
    | exact Bool.noConfusion (g1.symm.trans h13)
    | exact Bool.noConfusion (g2.symm.trans h19)
    | omega)] at HI
   refine zab (zac rfl (zae (zai ?_)))
   (refine za8 ?_; repeat (first | refine zbg ?_ | refine zbh ?_))
   exact zcb (.inr rfl) rfl (congrArg eB HI.symm)
  | skip
 have hk : headK d l p := ⟨h13, h19, by omega, by omega⟩
 rw [if_pos hk] at HI
 have hbd := prcP_bd h13 (okC_of h13 h19) l.length (Nat.le_refl _)
 have hpc := hk.2.2.2
 have hl12 := (zb0 h13).1.2.2
 have hr := right_pf (P := P) d l p.cost h13 (by omega) (by omega) (.mk s t L y) (zc1 l.length) (zb7 l) 20000 (first_box h13) (by omega) (by omega)
 generalize rgtE d l p.cost (.mk s t L y) (zc1 l.length) (zb7 l) 20000 = x at HI hr
 obtain ⟨xz, xn⟩ := x
 rw [eBr_mk] at hr
 replace hr : Pure P 31 [eL eI d, eL eSh l, eBx (zc1 l.length) (zb7 l), .agg [eI s, eI t, eL eBr L, eL eF y], eI p.cost, eI 20000] (.tup [eB xz, eI xn]) := hr
 refine zcj hmix ?_
 refine zdg ?_
 refine ex_s rfl (ex_s rfl (ex_s rfl (zaz rfl rfl (zaa rfl) (fun _ => (zam rfl rfl ((first_pf l hl12)) (zad rfl zaq))) (ex_w ta32 ti32 rfl (ex_f tf28_1 rfl (ex_l ta3 rfl (zaz rfl rfl (zaa rfl) (fun _ => (zam rfl rfl (hr) (zad rfl (zad rfl (zad rfl (zad rfl (zad rfl (zad rfl zaq)))))))) (ex_s rfl (ex_s rfl (ex_s rfl (ex_s rfl (ex_s rfl ?_))))))))))))
 refine zcc (by kernel_rfl) ?_
 refine zah (zab (zac rfl (zac rfl (zae (zai ?_)))))
 (refine za8 ?_; repeat (first | refine zbg ?_ | refine zbh ?_))
 exact zcb (.inr rfl) rfl (congrArg eB HI.symm)
end Go.Proofs.Ytllkbjcemecmjaa.Aw
end
section
namespace Go.Proofs.Ytllkbjcemecmjaa.Aw
theorem d_pos {a : Fr} (h : a.ok) : 0 < a.d := by have := h.2.2.1; omega
theorem mkF_val {n d : Int} (hd : 0 < d) {c : Fr} (h : mkF n d = some c) : 0 < c.d ∧ c.n * d = n * c.d := by
 unfold mkF at h
 split at h
 ·
  injection h with h
  subst h
  have hg : 0 < (Int.gcd n d : Int) := by have := Int.gcd_pos_iff.2 (Or.inr (show d ≠ 0 by omega) : n ≠ 0 ∨ d ≠ 0); omega
  obtain ⟨k, hk⟩ : (Int.gcd n d : Int) ∣ n := Int.gcd_dvd_left ..
  obtain ⟨m, hm⟩ : (Int.gcd n d : Int) ∣ d := Int.gcd_dvd_right ..
  have h1 := (nf_ok n d (by omega)).1
  refine ⟨by omega, ?_⟩
  unfold nf
  simp only [Int.sign_eq_one_of_pos hd, Int.one_mul, Int.natAbs_of_nonneg (show 0 ≤ d by omega)]
  generalize (Int.gcd n d : Int) = g at *
  rw [hk, hm, Int.mul_ediv_cancel_left _ (by omega), Int.mul_ediv_cancel_left _ (by omega)]
  grind
 ·
  cases h
def val (a : Fr) : Rat := (a.n : Rat) / (a.d : Rat)
theorem cast_ne {d : Int} (h : 0 < d) : (d : Rat) ≠ 0 := by exact_mod_cast (show d ≠ 0 by omega)
theorem val_mkF {n d : Int} (hd : 0 < d) {c : Fr} (h : mkF n d = some c) : val c = (n : Rat) / (d : Rat) := by
 obtain ⟨h1, h2⟩ := mkF_val hd h
 unfold val
 have e1 : (c.n : Rat) * (d : Rat) = (n : Rat) * (c.d : Rat) := by exact_mod_cast h2
 have e2 := cast_ne h1
 have e3 := cast_ne hd
 grind
theorem val_add {a b c : Fr} (ha : a.ok) (hb : b.ok) (h : fadd a b = some c) : val c = val a + val b := by
 rw [val_mkF (Int.mul_pos (d_pos ha) (d_pos hb)) h]
 unfold val
 have e1 := cast_ne (d_pos ha)
 have e2 := cast_ne (d_pos hb)
 push_cast
 grind
theorem val_mul {a b c : Fr} (ha : a.ok) (hb : b.ok) (h : fmul a b = some c) : val c = val a * val b := by
 rw [val_mkF (Int.mul_pos (d_pos ha) (d_pos hb)) h]
 unfold val
 have e1 := cast_ne (d_pos ha)
 have e2 := cast_ne (d_pos hb)
 push_cast
 grind
theorem val_neg (a : Fr) : val (fneg a) = - val a := by
 unfold val fneg
 push_cast
 grind
theorem val_sub {a b c : Fr} (ha : a.ok) (hb : b.ok) (h : fsub a b = some c) : val c = val a - val b := by
 rw [val_add ha (fneg_ok hb) h, val_neg]
 grind
theorem val_nn {a : Fr} (h : a.ok ∧ 0 ≤ a.n) : 0 ≤ val a := by
 have e2 := cast_ne (d_pos h.1)
 have e3 : (0 : Rat) < (a.d : Rat) := Rat.intCast_pos.2 (d_pos h.1)
 have e4 : (0 : Rat) ≤ (a.n : Rat) := by exact_mod_cast h.2
 have e5 : val a * (a.d : Rat) = (a.n : Rat) := by unfold val; grind
 refine Rat.le_of_mul_le_mul_right (c := (a.d : Rat)) ?_ e3
 grind
theorem val_le {a b : Fr} (ha : a.ok) (hb : b.ok) : val a ≤ val b ↔ a.n * b.d ≤ b.n * a.d := by
 have e1 : (0 : Rat) < (a.d : Rat) := Rat.intCast_pos.2 (d_pos ha)
 have e2 : (0 : Rat) < (b.d : Rat) := Rat.intCast_pos.2 (d_pos hb)
 have f1 := cast_ne (d_pos ha)
 have f2 := cast_ne (d_pos hb)
 have g1 : val a * ((a.d : Rat) * (b.d : Rat)) = (a.n : Rat) * (b.d : Rat) := by unfold val; grind
 have g2 : val b * ((a.d : Rat) * (b.d : Rat)) = (b.n : Rat) * (a.d : Rat) := by unfold val; grind
 have hp := Rat.mul_pos e1 e2
 constructor
 ·
  intro h
  have := Rat.mul_le_mul_of_nonneg_right h (Rat.le_of_lt hp)
  rw [g1, g2] at this
  exact_mod_cast this
 ·
  intro h
  refine Rat.le_of_mul_le_mul_right (c := (a.d : Rat) * (b.d : Rat)) ?_ hp
  rw [g1, g2]
  exact_mod_cast h
theorem cmpN_le {a b : Fr} (ha : a.ok) (hb : b.ok) : cmpN a b ≤ 0 ↔ val a ≤ val b := by
 rw [val_le ha hb]
 unfold cmpN
 split
 ·
  constructor <;> intro _ <;> omega
 ·
  split
  ·
   constructor <;> intro _ <;> omega
  ·
   constructor <;> intro _ <;> omega
def sumR (f : Nat → Rat) : Nat → Rat
 | 0 => 0
 | k + 1 => sumR f k + f k
theorem sumR_le {f g : Nat → Rat} : ∀ {k : Nat}, (∀ i, i < k → f i ≤ g i) → sumR f k ≤ sumR g k
 | 0, _ => Rat.le_refl
 | k + 1, h => by
  have h1 := sumR_le (k := k) (fun i hi => h i (by omega))
  have h2 := h k (by omega)
  show sumR f k + f k ≤ sumR g k + g k
  grind
theorem sumR_congr {f g : Nat → Rat} : ∀ {k : Nat}, (∀ i, i < k → f i = g i) → sumR f k = sumR g k
 | 0, _ => rfl
 | k + 1, h => by
  have h1 := sumR_congr (k := k) (fun i hi => h i (by omega))
  have h2 := h k (by omega)
  show sumR f k + f k = sumR g k + g k
  rw [h1, h2]
theorem sumR_add (f g : Nat → Rat) : ∀ k, sumR (fun i => f i + g i) k = sumR f k + sumR g k
 | 0 => by show (0 : Rat) = 0 + 0; grind
 | k + 1 => by
  show sumR (fun i => f i + g i) k + (f k + g k) = (sumR f k + f k) + (sumR g k + g k)
  rw [sumR_add f g k]
  grind
theorem sumR_mul (c : Rat) (f : Nat → Rat) : ∀ k, sumR (fun i => c * f i) k = c * sumR f k
 | 0 => by show (0 : Rat) = c * 0; grind
 | k + 1 => by
  show sumR (fun i => c * f i) k + c * f k = c * (sumR f k + f k)
  rw [sumR_mul c f k]
  grind
theorem sumR_zero : ∀ k, sumR (fun _ => 0) k = 0
 | 0 => rfl
 | k + 1 => by
  show sumR (fun _ => 0) k + 0 = 0
  rw [sumR_zero k]
  grind
theorem sumR_shift (f : Nat → Rat) : ∀ k, sumR f (k + 1) = f 0 + sumR (fun i => f (i + 1)) k
 | 0 => by show (0 : Rat) + f 0 = f 0 + 0; grind
 | k + 1 => by
  show sumR f (k + 1) + f (k + 1) = f 0 + (sumR (fun i => f (i + 1)) k + f (k + 1))
  rw [sumR_shift f k]
  grind
theorem sumR_nn {f : Nat → Rat} {k : Nat} (h : ∀ i, i < k → 0 ≤ f i) : 0 ≤ sumR f k := by
 have := sumR_le (f := fun _ => 0) (g := f) (k := k) h
 rwa [sumR_zero] at this
theorem sum_neg (f : Nat → Rat) : ∀ k, sumR (fun i => - f i) k = - sumR f k
 | 0 => by show (0 : Rat) = - 0; grind
 | k + 1 => by
  show sumR (fun i => - f i) k + - f k = - (sumR f k + f k)
  rw [sum_neg f k]; grind
theorem fe_of {x : Option Fr} (h : (FE.of x).e = 0) : x = some ⟨(FE.of x).n, (FE.of x).d⟩ := by
 cases x with
 | none => simp [FE.of] at h
 | some a => rfl
theorem addE_val {a b : Fr} (h : (addE a b).e = 0) : a.ok ∧ b.ok ∧ val ⟨(addE a b).n, (addE a b).d⟩ = val a + val b := by
 unfold addE at *
 split at h
 ·
  rename_i hc
  rw [if_pos hc] at *
  simp only [Bool.and_eq_true, Fr.okB_iff] at hc
  exact ⟨hc.1, hc.2, val_add hc.1 hc.2 (fe_of h)⟩
 ·
  simp [FE.err] at h
theorem subE_val {a b : Fr} (h : (subE a b).e = 0) : a.ok ∧ b.ok ∧ val ⟨(subE a b).n, (subE a b).d⟩ = val a - val b := by
 unfold subE at *
 split at h
 ·
  rename_i hc
  rw [if_pos hc] at *
  simp only [Bool.and_eq_true, Fr.okB_iff] at hc
  exact ⟨hc.1, hc.2, val_sub hc.1 hc.2 (fe_of h)⟩
 ·
  simp [FE.err] at h
theorem mulE_val {a b : Fr} (h : (mulE a b).e = 0) : a.ok ∧ b.ok ∧ val ⟨(mulE a b).n, (mulE a b).d⟩ = val a * val b := by
 unfold mulE at *
 split at h
 ·
  rename_i hc
  rw [if_pos hc] at *
  simp only [Bool.and_eq_true, Fr.okB_iff] at hc
  exact ⟨hc.1, hc.2, val_mul hc.1 hc.2 (fe_of h)⟩
 ·
  simp [FE.err] at h
theorem val_of (n : Int) : val (Fr.of n) = (n : Rat) := by
 unfold val Fr.of
 show (n : Rat) / ((1 : Int) : Rat) = n
 have : ((1 : Int) : Rat) = 1 := rfl
 rw [this]; grind
def dotR : List Fr → List Fr → Rat
 | x :: a, y :: b => val x * val y + dotR a b
 | _, _ => 0
theorem dotG_val : ∀ (a b : List Fr) (acc : Fr), (dotG acc a b).e = 0 → val ⟨(dotG acc a b).n, (dotG acc a b).d⟩ = val acc + dotR a b
 | [], b, acc, h => by
  rw [dotG] <;> first | (show val acc = val acc + dotR [] b; rw [dotR] <;> first | grind | (intro x y z w e; cases e)) | (intro x y z w e; cases e)
 | x :: a, [], acc, h => by
  rw [dotG] <;> first | (show val acc = val acc + dotR (x :: a) []; rw [dotR] <;> first | grind | (intro x y z w e e2; cases e2)) | (intro x y z w e e2; cases e2)
 | x :: a, y :: b, acc, h => by
  rw [dotG] at h ⊢
  split at h
  ·
   rename_i h1; exact absurd h h1
  ·
   rename_i h1
   rw [if_neg h1]
   split at h
   ·
    rename_i h2; exact absurd h h2
   ·
    rename_i h2
    rw [if_neg h2]
    rw [dotG_val a b _ h, (addE_val (Decidable.not_not.1 h2)).2.2, (mulE_val (Decidable.not_not.1 h1)).2.2, dotR]
    grind
theorem gti_succ {α : Type} [Inhabited α] (x : α) (l : List α) (k : Nat) : gti (x :: l) (k + 1) = gti l k := by unfold gti; rw [List.getElem?_cons_succ]
theorem gti_zero {α : Type} [Inhabited α] (x : α) (l : List α) : gti (x :: l) 0 = x := rfl
theorem dotR_sum : ∀ (a b : List Fr), a.length = b.length → dotR a b = sumR (fun k => val (gti a k) * val (gti b k)) a.length
 | [], [], _ => by rw [dotR] <;> first | rfl | (intro x y z w e; cases e)
 | x :: a, y :: b, h => by
  rw [dotR, List.length_cons, sumR_shift, dotR_sum a b (by simpa using h)]
  rfl
theorem dotE_val {a b : List Fr} (h : (dotE a b).e = 0) : a.length = b.length ∧ val ⟨(dotE a b).n, (dotE a b).d⟩ = sumR (fun k => val (gti a k) * val (gti b k)) a.length := by
 unfold dotE at *
 split at h
 ·
  simp [FE.err] at h
 ·
  rename_i h1
  rw [if_neg h1]
  split at h
  ·
   simp [FE.err] at h
  ·
   rename_i h2
   rw [if_neg h2]
   split at h
   ·
    simp [FE.err] at h
   ·
    rename_i h3
    rw [if_neg h3]
    have hl := Decidable.not_not.1 h3
    refine ⟨hl, ?_⟩
    rw [dotG_val a b _ h, val_of, ← dotR_sum a b hl]
    show ((0 : Int) : Rat) + _ = _
    have : ((0 : Int) : Rat) = 0 := rfl
    rw [this]; grind
def yV (y : List Fr) (p : Nat) : Rat := val (gti y p)
theorem prG_val (y : List Fr) (pd : List Int) : ∀ (n k : Nat) (a : Fr), (prG y pd n k a).e = 0 → val ⟨(prG y pd n k a).n, (prG y pd n k a).d⟩ = val a - sumR (fun i => yV y (gti pd (k + i)).toNat) n
 | 0, k, a, h => by rw [prG]; show val a = val a - 0; grind
 | n + 1, k, a, h => by
  rw [prG] at h ⊢
  split at h
  ·
   rename_i h1; exact absurd h h1
  ·
   rename_i h1
   rw [if_neg h1, prG_val y pd n (k + 1) _ h, (subE_val (Decidable.not_not.1 h1)).2.2, sumR_shift]
   have : sumR (fun i => yV y (gti pd (k + 1 + i)).toNat) n = sumR (fun i => yV y (gti pd (k + (i + 1))).toNat) n := sumR_congr fun i _ => by rw [show k + 1 + i = k + (i + 1) by omega]
   rw [this]
   show val a - val (gti y (gti pd k).toNat) - _ = val a - (yV y (gti pd (k + 0)).toNat + _)
   unfold yV
   rw [Nat.add_zero]
   grind
def sY (y : List Fr) (pd : List Int) : Rat := sumR (fun i => yV y (gti pd i).toNat) pd.length
theorem prE_val {y : List Fr} {s : Sft} (h : (prE y s).e = 0) : val ⟨(prE y s).n, (prE y s).d⟩ = (s.cost : Rat) - sY y s.pd := by
 unfold prE at *
 rw [prG_val y s.pd _ 0 _ h, val_of]
 unfold sY
 congr 2
 funext i
 rw [Nat.zero_add]
theorem val_neg_n {a : Fr} (hd : 0 < a.d) (h : a.n < 0) : val a ≤ 0 := by
 have e3 : (0 : Rat) < (a.d : Rat) := Rat.intCast_pos.2 hd
 have e2 := cast_ne hd
 have e4 : (a.n : Rat) ≤ 0 := by exact_mod_cast (show a.n ≤ 0 by omega)
 have e5 : val a * (a.d : Rat) = (a.n : Rat) := by unfold val; grind
 refine Rat.le_of_mul_le_mul_right (c := (a.d : Rat)) ?_ e3
 grind
theorem mul_choice {v a b c : Rat} (h : (v ≤ 0 ∧ c ≤ b ∧ a = b) ∨ (0 ≤ v ∧ b ≤ c ∧ a = b)) : v * a ≤ v * c := by
 rcases h with ⟨h1, h2, rfl⟩ | ⟨h1, h2, rfl⟩
 ·
  have := Rat.mul_le_mul_of_nonneg_left h2 (show 0 ≤ -v by grind)
  grind
 ·
  exact Rat.mul_le_mul_of_nonneg_left h2 h1
theorem bdG_val (l : List Sft) (lo hi : List Int) (y : List Fr) (c : List Int) (hin : ∀ i, i < l.length → gti lo i ≤ gti c i ∧ gti c i ≤ gti hi i) : ∀ (n i : Nat) (s r : Fr), i + n ≤ l.length → bdG l lo hi y n i s = (r, true) → val r ≤ val s + sumR (fun j => (((gti l (i + j)).cost : Rat) - sY y (gti l (i + j)).pd) * ((gti c (i + j) : Int) : Rat)) n
 | 0, i, s, r, _, h => by
  rw [bdG] at h
  injection h with h1 _
  subst h1
  show val s ≤ val s + 0
  grind
 | n + 1, i, s, r, hn, h => by
  rw [bdG] at h
  by_cases h1 : (prE y (gti l i)).e ≠ 0
  ·
   rw [if_pos h1] at h; injection h with _ h2; cases h2
  ·
   rw [if_neg h1] at h
   obtain ⟨CH, hCH⟩ : ∃ CH, CH = if (prE y (gti l i)).n < 0 then gti hi i else gti lo i := ⟨_, rfl⟩
   rw [← hCH] at h
   by_cases h2 : (mulE ⟨(prE y (gti l i)).n, (prE y (gti l i)).d⟩ (Fr.of CH)).e ≠ 0
   ·
    rw [if_pos h2] at h; injection h with _ h2; cases h2
   ·
    rw [if_neg h2] at h
    by_cases h3 : (addE s ⟨(mulE ⟨(prE y (gti l i)).n, (prE y (gti l i)).d⟩ (Fr.of CH)).n, (mulE ⟨(prE y (gti l i)).n, (prE y (gti l i)).d⟩ (Fr.of CH)).d⟩).e ≠ 0
    ·
     rw [if_pos h3] at h; injection h with _ h2; cases h2
    ·
     rw [if_neg h3] at h
     have ih := bdG_val l lo hi y c hin n (i + 1) _ r (by omega) h
     have e1 := prE_val (Decidable.not_not.1 h1)
     obtain ⟨m1, m2, e2⟩ := mulE_val (Decidable.not_not.1 h2)
     obtain ⟨_, _, e3⟩ := addE_val (Decidable.not_not.1 h3)
     rw [e3, e2, e1, val_of] at ih
     rw [sumR_shift]
     have hs : sumR (fun j => (((gti l (i + 1 + j)).cost : Rat) - sY y (gti l (i + 1 + j)).pd) * ((gti c (i + 1 + j) : Int) : Rat)) n = sumR (fun j => (((gti l (i + (j + 1))).cost : Rat) - sY y (gti l (i + (j + 1))).pd) * ((gti c (i + (j + 1)) : Int) : Rat)) n := sumR_congr fun j _ => by rw [show i + 1 + j = i + (j + 1) by omega]
     rw [hs] at ih
     obtain ⟨g1, g2⟩ := hin i (by omega)
     have hch : (((gti l i).cost : Rat) - sY y (gti l i).pd) * ((CH : Int) : Rat) ≤ (((gti l i).cost : Rat) - sY y (gti l i).pd) * ((gti c i : Int) : Rat) := by
      rw [← e1]
      refine mul_choice (b := ((CH : Int) : Rat)) ?_
      rw [hCH]
      split
      ·
       rename_i hneg
       exact .inl ⟨val_neg_n (d_pos m1) hneg, by exact_mod_cast g2, rfl⟩
      ·
       rename_i hneg
       exact .inr ⟨val_nn ⟨m1, by show 0 ≤ (prE y (gti l i)).n; omega⟩, by exact_mod_cast g1, rfl⟩
     simp only [Nat.add_zero]
     grind
theorem sum_single (p0 : Nat) (x : Rat) : ∀ m, sumR (fun p => if p = p0 then x else 0) m = if p0 < m then x else 0
 | 0 => by rw [if_neg (by omega)]; rfl
 | m + 1 => by
  show sumR (fun p => if p = p0 then x else 0) m + (if m = p0 then x else 0) = _
  rw [sum_single p0 x m]
  by_cases h1 : p0 < m
  ·
   rw [if_pos h1, if_neg (by omega), if_pos (by omega)]; grind
  ·
   by_cases h2 : m = p0
   ·
    rw [if_neg h1, if_pos h2, if_pos (by omega)]; grind
   ·
    rw [if_neg h1, if_neg h2, if_neg (by omega)]; grind
theorem sum_in (y : List Fr) (pd : List Int) (m : Nat) (hr : ∀ k, k < pd.length → 0 ≤ gti pd k ∧ gti pd k < (m : Int)) (ha : ∀ k, k < pd.length → 0 < k → gti pd (k - 1) < gti pd k) : ∀ j, j ≤ pd.length → sumR (fun p => if inB (pd.take j) p = true then yV y p else 0) m = sumR (fun i => yV y (gti pd i).toNat) j
 | 0, _ => by
  have : ∀ m, sumR (fun p : Nat => if inB (pd.take 0) p = true then yV y p else 0) m = 0 := by
   intro m
   induction m with
   | zero => rfl
   | succ m ih =>
    show sumR (fun p : Nat => if inB (pd.take 0) p = true then yV y p else 0) m + (if inB (pd.take 0) m = true then yV y m else 0) = 0
    rw [ih, List.take_zero, inB_nil, if_neg (by simp)]; grind
  exact this m
 | j + 1, hj => by
  have ih := sum_in y pd m hr ha j (by omega)
  obtain ⟨p0, hp0⟩ : ∃ p0 : Nat, gti pd j = (p0 : Int) := ⟨(gti pd j).toNat, by have := hr j (by omega); omega⟩
  have hlt : p0 < m := by have := hr j (by omega); omega
  have hnew : inB (pd.take j) p0 = false := by rw [← hp0]; exact inB_new ha (by omega)
  have e1 : sumR (fun p => if inB (pd.take (j + 1)) p = true then yV y p else 0) m = sumR (fun p => (if inB (pd.take j) p = true then yV y p else 0) + (if p = p0 then yV y p0 else 0)) m := sumR_congr fun p _ => by
   by_cases h : p = p0
   ·
    subst h
    rw [if_pos ((inB_step (by omega) p).2 (.inr hp0)), if_neg (by rw [hnew]; simp), if_pos rfl]; grind
   ·
    by_cases h2 : inB (pd.take j) p = true
    ·
     rw [if_pos ((inB_step (by omega) p).2 (.inl h2)), if_pos h2, if_neg h]; grind
    ·
     rw [if_neg (fun h3 => by
      rcases (inB_step (by omega) p).1 h3 with h4 | h4
      ·
       exact h2 h4
      ·
       exact h (by omega)), if_neg h2, if_neg h]; grind
  rw [e1, sumR_add, ih, sum_single, if_pos hlt]
  show _ = sumR (fun i => yV y (gti pd i).toNat) j + yV y (gti pd j).toNat
  rw [hp0]; rfl
theorem sum_swap {d : List Int} {l : List Sft} (hv : zb6 d l = true) (y : List Fr) (c : List Int) : ∀ n, n ≤ l.length → sumR (fun i => sY y (gti l i).pd * ((gti c i : Int) : Rat)) n = sumR (fun p => yV y p * ((cvP l c n p : Int) : Rat)) d.length
 | 0, _ => by
  have : ∀ m, sumR (fun p : Nat => yV y p * ((cvP l c 0 p : Int) : Rat)) m = 0 := by
   intro m
   induction m with
   | zero => rfl
   | succ m ih =>
    show sumR (fun p : Nat => yV y p * ((cvP l c 0 p : Int) : Rat)) m + yV y m * ((0 : Int) : Rat) = 0
    have h0 : ((0 : Int) : Rat) = 0 := rfl
    rw [ih, h0]; grind
  rw [this]; rfl
 | n + 1, hn => by
  obtain ⟨_, _, ql⟩ := zb0 hv
  have hq := (ql n (by omega)).2
  show sumR (fun i => sY y (gti l i).pd * ((gti c i : Int) : Rat)) n + sY y (gti l n).pd * ((gti c n : Int) : Rat) = _
  rw [sum_swap hv y c n (by omega)]
  have e1 : sumR (fun p => yV y p * ((cvP l c (n + 1) p : Int) : Rat)) d.length = sumR (fun p => yV y p * ((cvP l c n p : Int) : Rat) + ((gti c n : Int) : Rat) * (if inB ((gti l n).pd.take (gti l n).pd.length) p = true then yV y p else 0)) d.length := sumR_congr fun p _ => by
   rw [List.take_length]
   show yV y p * (((cvP l c n p + if inB (gti l n).pd p = true then gti c n else 0 : Int)) : Rat) = _
   by_cases h : inB (gti l n).pd p = true
   ·
    rw [if_pos h, if_pos h]; push_cast; grind
   ·
    rw [if_neg h, if_neg h]; push_cast; grind
  rw [e1, sumR_add, sumR_mul, sum_in y (gti l n).pd d.length (fun k hk => ⟨(hq k hk).1, (hq k hk).2.1⟩) (fun k hk h0 => (hq k hk).2.2 h0) _ (Nat.le_refl _)]
  unfold sY
  grind
theorem prcP_val (l : List Sft) (c : List Int) : ∀ n, ((prcP l c n : Int) : Rat) = sumR (fun i => ((gti l i).cost : Rat) * ((gti c i : Int) : Rat)) n
 | 0 => rfl
 | n + 1 => by
  show ((prcP l c n + (gti l n).cost * gti c n : Int) : Rat) = sumR (fun i => ((gti l i).cost : Rat) * ((gti c i : Int) : Rat)) n + ((gti l n).cost : Rat) * ((gti c n : Int) : Rat)
  rw [← prcP_val l c n]; push_cast; rfl
theorem leaf_ok {d : List Int} {l : List Sft} (hv : zb6 d l = true) {lo hi : List Int} {y : List Fr} {K : Int} (hp : prvB d l lo hi y K = true) {c : List Int} (hin : ∀ i, i < l.length → gti lo i ≤ gti c i ∧ gti c i ≤ gti hi i) (hcov : ∀ p, p < d.length → gti d p ≤ cvP l c l.length p) : K ≤ prcP l c l.length := by
 unfold prvB mulB at hp
 simp only [Bool.and_eq_true, decide_eq_true_eq, Bool.not_eq_true'] at hp
 obtain ⟨⟨hyl, hyb⟩, hb2, hc0, hc1⟩ := hp
 have hyn : ∀ p, p < y.length → (gti y p).ok ∧ 0 ≤ (gti y p).n := fun p hp => by
  have h1 := List.any_eq_false.1 hyb (gti y p) (zdm hp)
  unfold badM at h1
  simp only [Bool.or_eq_true, Bool.not_eq_true', decide_eq_true_eq, not_or] at h1
  exact ⟨(Fr.okB_iff _).1 (by simpa using h1.1), by omega⟩
 generalize hb : bdE d l lo hi y = b at hb2 hc0 hc1
 obtain ⟨s, z⟩ := b
 dsimp only at hb2 hc0 hc1
 subst hb2
 unfold bdE at hb
 by_cases h0 : (dotE (d.map Fr.of) y).e ≠ 0
 ·
  rw [if_pos h0] at hb; injection hb with _ h2; cases h2
 ·
  rw [if_neg h0] at hb
  obtain ⟨hdl, hdv⟩ := dotE_val (Decidable.not_not.1 h0)
  have h1 := bdG_val l lo hi y c hin l.length 0 _ s (by omega) hb
  rw [hdv] at h1
  have hcm : s.ok ∧ (Fr.of (K - 1)).ok ∧ 0 < cmpN s (Fr.of (K - 1)) := by
   unfold cmpE at hc0 hc1
   split at hc0
   ·
    rename_i hk
    rw [if_pos hk] at hc1
    simp only [Bool.and_eq_true, Fr.okB_iff] at hk
    exact ⟨hk.1, hk.2, hc1⟩
   ·
    cases hc0
  have h2 : ¬ val s ≤ val (Fr.of (K - 1)) := fun h => by
   have := (cmpN_le hcm.1 hcm.2.1).2 h
   omega
  rw [val_of] at h2
  have e1 : sumR (fun k => val (gti (d.map Fr.of) k) * val (gti y k)) (d.map Fr.of).length = sumR (fun p => yV y p * ((gti d p : Int) : Rat)) d.length := by
   rw [List.length_map]
   exact sumR_congr fun p hp => by rw [ofL_gti hp, val_of]; unfold yV; grind
  rw [e1] at h1
  have e2 : sumR (fun j => (((gti l (0 + j)).cost : Rat) - sY y (gti l (0 + j)).pd) * ((gti c (0 + j) : Int) : Rat)) l.length = sumR (fun i => ((gti l i).cost : Rat) * ((gti c i : Int) : Rat)) l.length + - sumR (fun i => sY y (gti l i).pd * ((gti c i : Int) : Rat)) l.length := by
   rw [← sum_neg, ← sumR_add]
   exact sumR_congr fun i _ => by rw [Nat.zero_add]; grind
  rw [e2, ← prcP_val, sum_swap hv y c l.length (Nat.le_refl _)] at h1
  have e3 : sumR (fun p => yV y p * ((gti d p : Int) : Rat)) d.length ≤ sumR (fun p => yV y p * ((cvP l c l.length p : Int) : Rat)) d.length := sumR_le fun p hp =>
   Rat.mul_le_mul_of_nonneg_left (by exact_mod_cast hcov p hp) (by unfold yV; exact val_nn (hyn p (by omega)))
  have e4 : ((K - 1 : Int) : Rat) < ((prcP l c l.length : Int) : Rat) := by grind
  have : K - 1 < prcP l c l.length := by exact_mod_cast e4
  omega
theorem tree_ok {d : List Int} {l : List Sft} (hv : zb6 d l = true) {K : Int} {c : List Int} (hcov : ∀ p, p < d.length → gti d p ≤ cvP l c l.length p) : ∀ (m : Nat) (b : Br) (lo hi : List Int) (n : Int), SizeOf.sizeOf b < m → lo.length = l.length → hi.length = l.length → (∀ i, i < l.length → gti lo i ≤ gti c i ∧ gti c i ≤ gti hi i) → (rgtE d l K b lo hi n).1 = true → K ≤ prcP l c l.length := by
 intro m
 induction m with
 | zero => intro b lo hi n h; omega
 | succ m ih =>
  intro b lo hi n hsz h1 h2 hin hr
  obtain ⟨s, t, L, y⟩ := b
  match L, hsz, hr with
  | [], _, hr =>
   rw [rgtE] at hr
   split at hr
   ·
    cases hr
   ·
    simp only [Bool.and_eq_true] at hr
    exact leaf_ok hv hr.2.2 hin hcov
  | [a, b], hsz, hr =>
   rw [rgtE] at hr
   split at hr
   ·
    cases hr
   ·
    split at hr
    ·
     cases hr
    ·
     rename_i hg
     have hg := Decidable.not_not.1 hg
     split at hr
     ·
      cases hr
     ·
      rename_i hf
      have hk : s.toNat < l.length := by omega
      simp at hsz
      by_cases hle : gti c s.toNat ≤ t
      ·
       refine ih a lo (setI hi s.toNat t) _ (by omega) h1 (by rw [setI_len]; exact h2) (fun i hi' => ?_) (by simpa using hf)
       rw [setI_gti (by omega)]
       have := hin i hi'
       split
       ·
        rename_i e; subst e; omega
       ·
        exact this
      ·
       refine ih b (setI lo s.toNat (t + 1)) hi _ (by omega) (by rw [setI_len]; exact h1) h2 (fun i hi' => ?_) hr
       rw [setI_gti (by omega)]
       have := hin i hi'
       split
       ·
        rename_i e; subst e; omega
       ·
        exact this
  | [_], _, hr =>
   rw [rgtE] at hr
   split at hr <;> cases hr
  | _ :: _ :: _ :: _, _, hr =>
   rw [rgtE] at hr
   split at hr <;> cases hr
theorem shF_cov (d : List Int) (l : List Sft) (c : List Int) : ∀ n k, shF d l c n k < 0 → ∀ p, k ≤ p → p < k + n → gti d p ≤ cvP l c l.length p
 | 0, k, _, p, h1, h2 => by omega
 | n + 1, k, h, p, h1, h2 => by
  rw [shF] at h
  split at h
  ·
   omega
  ·
   by_cases e : p = k
   ·
    subst e; omega
   ·
    exact shF_cov d l c n (k + 1) h p (by omega) (by omega)
theorem cheapest {d : List Int} {l : List Sft} {p : Pln} {b : Br} (h : chkE d l p b = true) {c : List Int} (hc : cntB l c = true) (hs : shE d l c < 0) : p.cost ≤ prcP l c l.length := by
 unfold chkE at h
 split at h
 ·
  rename_i hk
  obtain ⟨hv, _, _, _⟩ := hk
  obtain ⟨hl, hb⟩ := cntB_iff hc
  refine tree_ok hv (fun p hp => shF_cov d l c d.length 0 hs p (Nat.zero_le _) (by omega)) (SizeOf.sizeOf b + 1) b (zc1 l.length) (zb7 l) 20000 (Nat.lt_succ_self _) (by simp [zc1]) (mostL_len l) (fun i hi => ?_) h
  have h0 : gti (zc1 l.length) i = 0 := by
   unfold zc1 gti
   rw [List.getElem?_replicate, if_pos hi]; rfl
  rw [h0, mostL_gti hi]
  exact hb i hi
 ·
  cases h
end Go.Proofs.Ytllkbjcemecmjaa.Aw
end
section
namespace Go.Proofs.Ytllkbjcemecmjaa.Aw
open Go.RowKit Go.Proofs
variable {P : Program} [IsP P]
def negB (a : Fr) : Bool := decide (a.n < 0)
theorem below1_pf (a : Fr) : Pure P 97 [eF a] (eB (negB a)) := by
 refine zcu (by rw [IsP.eq (P := P)]; exact Try.func97) rfl rfl rfl rfl rfl (by repeat' (first | exact Lo.s _ | exact zak | refine zag ?_ ?_ | refine zan ?_ | refine Lo.agg _ ?_ | refine Lo.sl _ ?_ | intro _)) (.s _) (by simp only [argF]; rfl) ?_
 refine zah (zab (zaf rfl rfl (zaa rfl) (zb4 rfl rfl rfl rfl) ?_))
 refine za5 (zbs (id := 0) rfl) (za5 (zch (d := 1) rfl rfl rfl) ?_)
 refine zac rfl (zae (zah (zab (zb1 tf51_0 rfl (zby ta3 rfl (zaf rfl rfl (zaa rfl) (za4 rfl rfl rfl) (zac rfl (zae (zai ?_)))))))))
 (refine za8 ?_; repeat (first | refine zbg ?_ | refine zbh ?_))
 exact zcb (.inr rfl) rfl rfl
theorem below_pf (l : List Fr) : Pure P 90 [eL eF l] (eB (l.any negB)) := by
 have hc := containsFF_pf (P := P) 97 [] negB l lo_F (.fn _ _ (by simp)) (fun a _ => below1_pf a)
 refine zcu (by rw [IsP.eq (P := P)]; exact Try.func90) rfl rfl rfl rfl rfl (by repeat' (first | exact Lo.s _ | exact zak | refine zag ?_ ?_ | refine zan ?_ | refine Lo.agg _ ?_ | refine Lo.sl _ ?_ | intro _)) (.s _) (by simp only [argF]; rfl) ?_
 refine zah (zab (zac rfl (zae (zah (zab (zac rfl (zaf rfl rfl (zaa rfl) (zam rfl rfl (hc) (zad rfl (zad rfl zaq))) (zac rfl (zae (zai ?_))))))))))
 (refine za8 ?_; repeat (first | refine zbg ?_ | refine zbh ?_))
 exact zcb (.inr rfl) rfl rfl
def relC (c r : Int) : Bool := if r = 1 then decide (c ≤ 0) else if r = 2 then decide (0 ≤ c) else decide (c = 0)
theorem stands_pf (a : Fr) (r : Int) (b : Fr) : Pure P 89 [eF a, eI r, eF b] (eB (relC (cmpE a b).1 r)) := by
 have hc := fCmp_pf (P := P) a b
 refine zcu (by rw [IsP.eq (P := P)]; exact Try.func89) rfl rfl rfl rfl rfl (by repeat' (first | exact Lo.s _ | exact zak | refine zag ?_ ?_ | refine zan ?_ | refine Lo.agg _ ?_ | refine Lo.sl _ ?_ | intro _)) (.s _) (by simp only [argF]; rfl) ?_
 refine zah (zab (zaf rfl rfl (zaa rfl) (zb4 rfl rfl rfl rfl) ?_))
 refine za5 (zbs (id := 0) rfl) (za5 (zch (d := 3) rfl rfl rfl) ?_)
 refine zaf rfl rfl (zaa rfl) (zb4 rfl rfl rfl rfl) ?_
 refine za5 (zbs (id := 1) rfl) (za5 (zch (d := 5) rfl rfl rfl) ?_)
 refine zac rfl (zae (zah (zab (zc5 ta51 ti51 rfl (zc5 ta51 ti51 rfl (zaf rfl rfl (zaa rfl) (zam rfl rfl (hc) (zad rfl (zad rfl zaq))) (zac rfl (zac rfl (zac rfl (zac rfl (zac rfl (zae (zah (zah (zab (zac rfl (zae (zai (zaw (zah ?_))))))))))))))))))))
 by_cases h1 : r = 1
 ·
  refine zab (zaf rfl rfl (zaa rfl) (zds h1 (zbk rfl rfl rfl)) (zac rfl (zae (zai (za7 rfl (zah (zab (zac rfl (zaf rfl rfl (zaa rfl) (does_leq rfl rfl rfl) (zac rfl (zae (zai ?_))))))))))))
  (refine za8 ?_; repeat (first | refine zbg ?_ | refine zbh ?_))
  exact zcb (.inr rfl) rfl (congrArg eB (by rw [relC, if_pos h1]))
 ·
  refine zab (zaf rfl rfl (zaa rfl) (dec_f h1 (zbk rfl rfl rfl)) (zac rfl (zae (zai (za1 rfl (zah ?_))))))
  by_cases h2 : r = 2
  ·
   refine zab (zaf rfl rfl (zaa rfl) (zds h2 (zbk rfl rfl rfl)) (zac rfl (zae (zai (za7 rfl (zah (zab (zac rfl (zaf rfl rfl (zaa rfl) (zcz rfl rfl rfl) (zac rfl (zae (zai ?_))))))))))))
   (refine za8 ?_; repeat (first | refine zbg ?_ | refine zbh ?_))
   exact zcb (.inr rfl) rfl (congrArg eB (by rw [relC, if_neg h1, if_pos h2]))
  ·
   refine zab (zaf rfl rfl (zaa rfl) (dec_f h2 (zbk rfl rfl rfl)) (zac rfl (zae (zai (za1 rfl (zat (zah (zab (zac rfl (zaf rfl rfl (zaa rfl) (zbk rfl rfl rfl) (zac rfl (zae (zai ?_)))))))))))))
   (refine za8 ?_; repeat (first | refine zbg ?_ | refine zbh ?_))
   exact zcb (.inr rfl) rfl (congrArg eB (by rw [relC, if_neg h1, if_neg h2]))
def sgnB (r : Int) (a : Fr) : Bool := decide (¬ (r = 2 ∧ a.n < 0 ∨ r = 1 ∧ 0 < a.n))
def signsB (p : LP) (y : List Fr) : Bool := (List.range y.length).all fun j => sgnB (gti p.rel j) (gti y j)
theorem range_t {n : Nat} {p : Nat → Bool} (h : ∀ j, j < n → p j = true) : (List.range n).all p = true := by
 rw [List.all_eq_true]; intro j hj; exact h j (by simpa using hj)
theorem range_f {n k : Nat} {p : Nat → Bool} (hk : k < n) (h : p k = false) : (List.range n).all p = false := by
 rw [List.all_eq_false]; exact ⟨k, by simpa using hk, by rw [h]; simp⟩
theorem signed_pf (p : LP) (y : List Fr) (hl : y.length ≤ p.rel.length) : Pure P 67 [eP p, eL eF y] (eB (signsB p y)) := by
 refine zcu (by rw [IsP.eq (P := P)]; exact Try.func67) rfl rfl rfl rfl rfl (by repeat' (first | exact Lo.s _ | exact zak | refine zag ?_ ?_ | refine zan ?_ | refine Lo.agg _ ?_ | refine Lo.sl _ ?_ | intro _)) (.s _) (by simp only [argF]; rfl) ?_
 refine zah ?_
 refine aw_bdm (d := 1) rfl (fun hmx => ?_)
 unfold maxLen at hmx
 refine zab (zaf rfl rfl (zaa rfl) (zb4 rfl rfl rfl rfl) ?_)
 refine za5 (zbs (id := 0) rfl) (za5 (zch (d := 2) rfl rfl rfl) ?_)
 refine zac rfl (zae (zah (zah (zab (zac rfl (zaf rfl rfl (zaa rfl) (zao rfl ts30 rfl) (zac rfl (zae (zai (zaw ?_))))))))))
 refine zca (S := Nat) (fun k => [(2, .ref (eP p).cells), (7, eL eF y), (8, eI y.length), (9, eI k)]) (fun _ => []) (fun k => k ≤ y.length ∧ ∀ j, j < k → sgnB (gti p.rel j) (gti y j) = true) (fun k => y.length - k) 0 (zck [] (by decide) trivial ⟨.lo _ (by repeat' (first | exact Lo.s _ | exact zak | refine zag ?_ ?_ | refine zan ?_ | refine Lo.cells ?_ | refine Lo.agg _ ?_ | refine Lo.ref _ ?_ | refine Lo.tup _ ?_ | refine Lo.fn _ _ ?_ | refine Lo.sl _ ?_ | intro _)), .lo _ (by repeat' (first | exact Lo.s _ | exact zak | refine zag ?_ ?_ | refine zan ?_ | refine Lo.agg _ ?_ | refine Lo.sl _ ?_ | intro _)), .lo _ (.s _), .lo _ (.s _), trivial⟩) ⟨by omega, fun j hj => by omega⟩ (fun k hk => ?_)
 refine zah (zab ?_)
 refine za3 rfl rfl (zaa rfl) (za4 rfl rfl rfl) (fun h10 => ?_) (fun h10 => ?_)
 all_goals refine zae (zah ?_)
 all_goals (first | refine za7 rfl ?_ | refine za1 rfl ?_)
 all_goals (repeat (first | refine zah ?_ | refine zat ?_ | refine zaw ?_))
 ·
  have hlt : k < y.length := by omega
  have hlt2 : k < p.rel.length := by omega
  refine zab (zac rfl (zaf rfl rfl (zaa rfl) (zal rfl ts30 ti51 rfl rfl rfl (zbd (by omega)) rfl) (zc5 ta51 ti51 rfl (zaf rfl rfl (zaa rfl) (za0 rfl ti51 rfl rfl) (zac rfl (zbe rfl (zaa rfl) (zaj rfl ti51 rfl rfl rfl rfl rfl rfl (by decide) (by decide)) (zae (zah (zab (zb1 tf47_2 rfl (zby ta22 rfl (zac rfl (zaf rfl rfl (zaa rfl) (zal rfl ts22 ti3 rfl rfl rfl (zbd (by omega)) rfl) (zby ta3 rfl ?_))))))))))))))
  refine za3 rfl rfl (zaa rfl) (zbk rfl rfl rfl) (fun h19 => ?_) (fun h19 => ?_)
  all_goals refine zac rfl ?_
  all_goals (first | refine zb1 tf51_0 rfl ?_ | refine zay rfl ?_)
  all_goals (first | refine zaf rfl rfl (zas rfl rfl rfl) (zap rfl ta3 rfl rfl rfl rfl rfl) ?_ | refine zay rfl ?_)
  all_goals (first | refine za3 rfl rfl (zas rfl rfl rfl) (za4 rfl rfl rfl) (fun h23 => ?_) (fun h23 => ?_) | refine zay rfl ?_)
  all_goals refine zac rfl (zac rfl ?_)
  all_goals (first | refine zb1 tf47_2 rfl ?_ | refine zay rfl ?_)
  all_goals (first | refine zby ta22 rfl ?_ | refine zay rfl ?_)
  all_goals (first | refine zac rfl ?_ | refine zay rfl ?_)
  all_goals (first | refine zaf rfl rfl (zas rfl rfl rfl) (zal rfl ts22 ti3 rfl rfl rfl (zbd (by omega)) rfl) ?_ | refine zay rfl ?_)
  all_goals (first | refine zby ta3 rfl ?_ | refine zay rfl ?_)
  all_goals (first | refine za3 rfl rfl (zas rfl rfl rfl) (zbk rfl rfl rfl) (fun h31 => ?_) (fun h31 => ?_) | refine zay rfl ?_)
  all_goals (first | refine zac rfl ?_ | refine zay rfl ?_)
  all_goals (first | refine zb1 tf51_0 rfl ?_ | refine zay rfl ?_ | refine zcf rfl rfl (zbf rfl rfl rfl) ?_)
  all_goals (first | refine zaf rfl rfl (zas rfl rfl rfl) (zap rfl ta3 rfl rfl rfl rfl rfl) ?_ | refine zay rfl ?_ | refine zcf rfl rfl (zbf rfl rfl rfl) ?_)
  all_goals (first | refine za3 rfl rfl (zas rfl rfl rfl) (zb5 rfl rfl rfl) (fun h35 => ?_) (fun h35 => ?_) | refine zay rfl ?_ | refine zcf rfl rfl (zbf rfl rfl rfl) ?_)
  all_goals (first | refine zac rfl ?_ | refine zay rfl ?_)
  all_goals refine zac rfl (zae (zai ?_))
  all_goals (first | refine za7 rfl ?_ | refine za1 rfl ?_)
  all_goals (repeat (first | refine zah ?_ | refine zai ?_ | refine zat ?_ | refine zbu ?_))
  all_goals first
   |
    refine zab (zac rfl (zae (zai ?_)))
    (refine za8 ?_; repeat (first | refine zbg ?_ | refine zbh ?_))
    exact zcb (.inr rfl) rfl (congrArg eB (range_f hlt (by unfold sgnB; rw [decide_eq_false_iff_not]; omega)).symm)
   |
    refine zab (zaf rfl rfl (zaa rfl) (zav rfl rfl rfl (IntWalk.i64_in _ (by omega))) (zac rfl (zae (zai ?_))))
    have hs : sgnB (gti p.rel k) (gti y k) = true := by unfold sgnB; rw [decide_eq_true_eq]; omega
    refine ⟨k + 1, ⟨by omega, fun j hj => ?_⟩, by omega, zck [] (by decide) trivial ⟨.lo _ (by repeat' (first | exact Lo.s _ | exact zak | refine zag ?_ ?_ | refine zan ?_ | refine Lo.cells ?_ | refine Lo.agg _ ?_ | refine Lo.ref _ ?_ | refine Lo.tup _ ?_ | refine Lo.fn _ _ ?_ | refine Lo.sl _ ?_ | intro _)), .lo _ (by repeat' (first | exact Lo.s _ | exact zak | refine zag ?_ ?_ | refine zan ?_ | refine Lo.agg _ ?_ | refine Lo.sl _ ?_ | intro _)), .lo _ (.s _), .lo _ (.s _), trivial⟩⟩
    by_cases e : j = k
    ·
     subst e; exact hs
    ·
     exact hk.2 j (by omega)
 ·
  (refine zcl ?_; repeat (first | refine zc3 ?_ | refine zb2 ?_ | refine zbq rfl ?_ | refine zbu ?_ | refine zai ?_ | refine zah ?_ | refine zat ?_ | refine zaw ?_))
  refine zab (zac rfl (zae (zai ?_)))
  (refine za8 ?_; repeat (first | refine zbg ?_ | refine zbh ?_))
  exact zcb (.inr rfl) rfl (congrArg eB (range_t (fun j hj => hk.2 j (by omega))).symm)
end Go.Proofs.Ytllkbjcemecmjaa.Aw
end
section
namespace Go.Proofs.Ytllkbjcemecmjaa.Aw
open Go.RowKit
structure KE (G G' : Cx) : Prop where
 step : G.Step G'
 mu0 : ∀ y, G.mu 0 = some y → G'.mu 0 = some y
 rows : zb8 G.w G'.w
theorem KE.refl (G : Cx) : KE G G := ⟨.refl G, fun _ h => h, zb8.refl _⟩
theorem KE.trans {G H K : Cx} (h : KE G H) (k : KE H K) : KE G K := ⟨h.step.trans k.step, fun y x => k.mu0 y (h.mu0 y x), h.rows.trans k.rows⟩
theorem KE.of {G G' : Cx} (e : G.Ext G') : KE G G' := ⟨e.step, e.mu 0, e.rows⟩
def liftK (N : Nat) (G : Cx) (Q : Exit → Frm → List Ob → Prop) : Exit → Act → World → Prop :=
 fun e a' w' => ∃ G' F' σ', G'.w = w' ∧ KE G G' ∧ S8 N G' a' F' σ' ∧ Q e F' σ'
theorem liftK_mono {N : Nat} {G G1 : Cx} (h : KE G G1) {Q Q' : Exit → Frm → List Ob → Prop} (hq : ∀ e F σ, Q e F σ → Q' e F σ) {e : Exit} {a : Act} {w : World} (x : liftK N G1 Q e a w) : liftK N G Q' e a w := by
 obtain ⟨G', F', σ', h1, h2, h3, h4⟩ := x
 exact ⟨G', F', σ', h1, h.trans h2, h3, hq _ _ _ h4⟩
def KWp (P : Program) (N : Nat) (c : Code) (F : Frm) (σ : List Ob) (Q : Exit → Frm → List Ob → Prop) : Prop :=
 ∀ G a, S8 N G a F σ → c.wp P (liftK N G Q) a G.w
def KOps (P : Program) (N : Nat) (ops : Array Oper) (l : List Oper) (F : Frm) (σ : List Ob) (Q : Exit → Frm → List Ob → Prop) : Prop :=
 ∀ G a, S8 N G a F σ → wpList P ops (liftK N G Q) l a G.w
section
variable {P : Program} {N : Nat} {F : Frm} {σ : List Ob} {Q : Exit → Frm → List Ob → Prop}
theorem kw_seq {x y : Code} (h : KWp P N x F σ (AThen (fun F σ => KWp P N y F σ Q) Q)) : KWp P N (.seq x y) F σ Q := fun G a hs => by
 refine wp_seq (Code.wp_mono (fun e a1 w1 q => ?_) (h G a hs))
 obtain ⟨G', F', σ', rfl, h2, h3, h4⟩ := q
 cases e with
 | normal => exact Code.wp_mono (fun e a w q => liftK_mono h2 (fun _ _ _ x => x) q) (h4 G' a1 h3)
 | _ => exact ⟨G', F', σ', rfl, h2, h3, h4⟩
theorem kw_skip (h : Q .normal F σ) : KWp P N .skip F σ Q := fun G a hs => wp_skip ⟨G, F, σ, rfl, .refl G, hs, h⟩
theorem kw_exit {id : Nat} (h : Q (.exit id) F σ) : KWp P N (.exit id) F σ Q := fun G a hs => wp_exit ⟨G, F, σ, rfl, .refl G, hs, h⟩
theorem kw_ret (h : Q .ret F σ) : KWp P N .ret F σ Q := fun G a hs => wp_ret ⟨G, F, σ, rfl, .refl G, hs, h⟩
theorem kw_block {id : Nat} {c : Code} (h : KWp P N c F σ (ABlk id Q)) : KWp P N (.block id c) F σ Q := fun G a hs => by
 refine wp_block (Code.wp_mono (fun e a1 w1 q => ?_) (h G a hs))
 obtain ⟨G', F', σ', rfl, h2, h3, h4⟩ := q
 cases e with
 | exit id' =>
  simp only [ABlk] at h4
  simp only [Exit.inBlock]
  split
  ·
   rename_i e; rw [if_pos e] at h4; exact ⟨G', F', σ', rfl, h2, h3, h4⟩
  ·
   rename_i e; rw [if_neg e] at h4; exact ⟨G', F', σ', rfl, h2, h3, h4⟩
 | _ => exact ⟨G', F', σ', rfl, h2, h3, h4⟩
theorem kw_cond {c : Operand} {x y : Code} {b : Bool} (hc : F.eval c = .s (.bool b)) (ht : b = true → KWp P N x F σ Q) (hf : b = false → KWp P N y F σ Q) : KWp P N (.cond c x y) F σ Q := fun G a hs =>
 wp_cond_split (rep_bool hs.fr hc) (fun e => ht e G a hs) (fun e => hf e G a hs)
theorem kw_true {c : Operand} {x y : Code} (hc : F.eval c = .s (.bool true)) (ht : KWp P N x F σ Q) : KWp P N (.cond c x y) F σ Q := kw_cond hc (fun _ => ht) (fun e => by cases e)
theorem kw_false {c : Operand} {x y : Code} (hc : F.eval c = .s (.bool false)) (ht : KWp P N y F σ Q) : KWp P N (.cond c x y) F σ Q := kw_cond hc (fun e => by cases e) (fun _ => ht)
theorem kw_loop {c : Code} (I : Nat → Frm → List Ob → Prop) (m : Nat) (h0 : I m F σ)
  (round : ∀ m F σ, I m F σ → KWp P N c F σ (AThen (fun F' σ' => ∃ m', m' < m ∧ I m' F' σ') Q)) : KWp P N (.loop c) F σ Q := fun G a hs => by
 refine wp_loop_ghost (fun n a w => ∃ G' F' σ', G'.w = w ∧ KE G G' ∧ S8 N G' a F' σ' ∧ I n F' σ') m ⟨G, F, σ, rfl, .refl G, hs, h0⟩ ?_
 rintro n a w ⟨G', F', σ', rfl, h2, h3, h4⟩
 refine Code.wp_mono (fun e a1 w1 q => ?_) (round n F' σ' h4 G' a h3)
 obtain ⟨G2, F2, σ2, rfl, h5, h6, h7⟩ := q
 cases e with
 | normal => obtain ⟨m', hm, hi⟩ := h7; exact ⟨m', hm, ⟨G2, F2, σ2, rfl, h2.trans h5, h6, hi⟩⟩
 | _ => exact ⟨G2, F2, σ2, rfl, h2.trans h5, h6, h7⟩
theorem kw_region {id : Nat} {l : List Oper} (h : KOps P N l.toArray l F σ Q) : KWp P N (.region id l.toArray false) F σ Q := fun G a hs => wp_region_lit (h G a hs)
theorem kw_mono {c : Code} {Q' : Exit → Frm → List Ob → Prop} (h : KWp P N c F σ Q) (hq : ∀ e F σ, Q e F σ → Q' e F σ) : KWp P N c F σ Q' := fun G a hs =>
 Code.wp_mono (fun e a w q => liftK_mono (.refl G) hq q) (h G a hs)
end
section
variable {P : Program} {N : Nat} {F : Frm} {σ σ' : List Ob} {Q : Exit → Frm → List Ob → Prop} {ops : Array Oper} {o : Oper} {l : List Oper} {x : AV}
theorem kops_nil (h : Q .normal F σ) : KOps P N ops [] F σ Q := fun G a hs => ⟨G, F, σ, rfl, .refl G, hs, h⟩
theorem kops_op {d : Nat} (hd : o.dst = some d) (hN : Nat.blt d N = true) (hr : Runs ops F o true) (hD : Does P o F σ x σ') (k : KOps P N ops l ((d, x) :: F) σ' Q) : KOps P N ops (o :: l) F σ Q := fun G a hs => by
 unfold wpList
 rw [if_pos (hr.wanted hs.fr)]
 left
 refine hD G a _ _ hs.rel (fun y _ => zcs hs.fr y) (fun v G' e r hv => ?_)
 rw [hd]
 exact zce (fun e' a w q => liftK_mono (KE.of e) (fun _ _ _ x => x) q) _ _ _ (k G' _ ((hs.step e r).put (by simpa [Nat.blt_eq] using hN) hv))
theorem kops_eff (hd : o.dst = none) (hr : Runs ops F o true) (hD : Does P o F σ x σ') (k : KOps P N ops l F σ' Q) : KOps P N ops (o :: l) F σ Q := fun G a hs => by
 unfold wpList
 rw [if_pos (hr.wanted hs.fr)]
 left
 refine hD G a _ _ hs.rel (fun y _ => zcs hs.fr y) (fun v G' e r hv => ?_)
 rw [hd]
 exact zce (fun e' a w q => liftK_mono (KE.of e) (fun _ _ _ x => x) q) _ _ _ (k G' _ (hs.step e r))
theorem kops_skip {d : Nat} (hd : o.dst = some d) (hN : Nat.blt d N = true) (hr : Runs ops F o false) (k : KOps P N ops l ((d, .s undef) :: F) σ Q) : KOps P N ops (o :: l) F σ Q := fun G a hs => by
 unfold wpList
 rw [if_neg (by rw [hr.wanted hs.fr]; simp)]
 rw [hd]
 exact k G _ (hs.put (by simpa [Nat.blt_eq] using hN) (.s _))
end
def WeakK (N : Nat) (F : Frm) (σ : List Ob) (F' : Frm) (σ' : List Ob) : Prop := ∀ G a, S8 N G a F σ → ∃ G', G'.w = G.w ∧ KE G G' ∧ S8 N G' a F' σ'
theorem WeakK.refl {N : Nat} {F : Frm} {σ : List Ob} : WeakK N F σ F σ := fun G a h => ⟨G, rfl, .refl G, h⟩
section
variable {P : Program} {N : Nat} {F F' : Frm} {σ σ' : List Ob} {Q : Exit → Frm → List Ob → Prop}
theorem kw_weak {c : Code} (w : WeakK N F σ F' σ') (h : KWp P N c F' σ' Q) : KWp P N c F σ Q := fun G a hs => by
 obtain ⟨G1, e1, s1, h1⟩ := w G a hs
 rw [← e1]
 exact Code.wp_mono (fun e a w q => liftK_mono s1 (fun _ _ _ x => x) q) (h G1 a h1)
theorem kops_weak {ops : Array Oper} {l : List Oper} (w : WeakK N F σ F' σ') (h : KOps P N ops l F' σ' Q) : KOps P N ops l F σ Q := fun G a hs => by
 obtain ⟨G1, e1, s1, h1⟩ := w G a hs
 rw [← e1]
 exact zce (fun e a w q => liftK_mono s1 (fun _ _ _ x => x) q) _ _ _ (h G1 a h1)
theorem kwk_st (ρ : List Nat) (h0 : ρ[0]? = some 0) (hn : ρ.Nodup) (hs : StL ρ σ ρ σ') (hf : FrRn F ρ F') : WeakK N F σ F' σ' := fun G a h =>
 ⟨G.ren ρ, rfl, ⟨⟨rfl, rfl, fun _ _ h => h, fun _ _ _ => rfl, fun _ _ h => .inl h, rfl, fun _ _ h => .inl h⟩, fun y hy => by simp [Cx.ren, h0, hy], zb8.refl _⟩, ⟨ren_rel h.rel hn (stRn_of ρ σ' hs), frRn_ok h.fr F' hf, h.df, h.nt⟩⟩
theorem kw_loops {c : Code} {S : Type} (fr : S → Frm) (st : S → List Ob) (inv : S → Prop) (ms : S → Nat) (s0 : S) (hw : WeakK N F σ (fr s0) (st s0)) (h0 : inv s0)
  (round : ∀ s, inv s → KWp P N c (fr s) (st s) (AThen (fun F' σ' => ∃ s', inv s' ∧ ms s' < ms s ∧ WeakK N F' σ' (fr s') (st s')) Q)) : KWp P N (.loop c) F σ Q := by
 refine kw_weak hw (kw_loop (fun m F σ => ∃ s, inv s ∧ ms s = m ∧ WeakK N F σ (fr s) (st s)) (ms s0) ⟨s0, h0, rfl, WeakK.refl⟩ (fun m F σ h => ?_))
 obtain ⟨s, h1, rfl, h3⟩ := h
 refine kw_weak h3 (kw_mono (round s h1) (fun e F σ q => ?_))
 cases e with
 | normal => obtain ⟨s', g1, g2, g3⟩ := q; exact ⟨ms s', g2, s', g1, rfl, g3⟩
 | _ => exact q
variable {ops : Array Oper} {o : Oper} {l : List Oper} {d : Nat}
theorem kops_opP {p : Prop} [Decidable p] (hd : o.dst = some d) (hN : Nat.blt d N = true) (hr : Runs ops F o true) (hD : Does P o F σ (.s (.bool (decide p))) σ) (k1 : p → KOps P N ops l ((d, .s (.bool true)) :: F) σ Q) (k2 : ¬ p → KOps P N ops l ((d, .s (.bool false)) :: F) σ Q) : KOps P N ops (o :: l) F σ Q := by
 by_cases h : p
 ·
  exact kops_op hd hN hr (zds h hD) (k1 h)
 ·
  exact kops_op hd hN hr (dec_f h hD) (k2 h)
section
variable {fo : Operand} {ar : Array Operand} {ts : Array TypeId} {f : FuncId} {x : AV} {e n : Int}
end
end
section
variable {P : Program} {N : Nat} {F : Frm} {σ : List Ob} {Q : Exit → Frm → List Ob → Prop} {ops : Array Oper} {o : Oper} {l : List Oper} {d : Nat} {x : AV}
theorem kops_s (h : stv (opv o.op F) N ops o F = some (d, x)) (k : KOps P N ops l ((d, x) :: F) σ Q) : KOps P N ops (o :: l) F σ Q := kops_op (zbj h).1 (zbj h).2.1 (zbj h).2.2.1 (opv_does (zbj h).2.2.2) k
theorem kops_f {t f off n ft : Nat} (hf : zb3 P t f = some (off, ft, some n)) (h : stv (fdv o.op t f off n F) N ops o F = some (d, x)) (k : KOps P N ops l ((d, x) :: F) σ Q) : KOps P N ops (o :: l) F σ Q := kops_op (zbj h).1 (zbj h).2.1 (zbj h).2.2.1 (fdv_does hf (zbj h).2.2.2) k
theorem kops_l {t : Nat} (ha : zc0 P t = some false) (h : stv (ldv o.op t F) N ops o F = some (d, x)) (k : KOps P N ops l ((d, x) :: F) σ Q) : KOps P N ops (o :: l) F σ Q := kops_op (zbj h).1 (zbj h).2.1 (zbj h).2.2.1 (ldv_does ha (zbj h).2.2.2) k
theorem kops_w {t n bt : Nat} {z : Option Value} (ha : zc0 P t = some true) (hi : zbl P t = some (z, n, bt)) (h : stv (lwv o.op t n F) N ops o F = some (d, x)) (k : KOps P N ops l ((d, x) :: F) σ Q) : KOps P N ops (o :: l) F σ Q := kops_op (zbj h).1 (zbj h).2.1 (zbj h).2.2.1 (lwv_does ha hi (zbj h).2.2.2) k
theorem kops_z (h : stz N ops o F = some d) (k : KOps P N ops l ((d, .s undef) :: F) σ Q) : KOps P N ops (o :: l) F σ Q := kops_skip (stz_ok h).1 (stz_ok h).2.1 (stz_ok h).2.2 k
end
end Go.Proofs.Ytllkbjcemecmjaa.Aw
end
section
namespace Go.Proofs.Ytllkbjcemecmjaa.Aw
open Go Go.RowKit Go.Proofs
section
variable {N : Nat} {F F' : Frm} {σ σ' : List Ob}
end
section
variable {N : Nat} {F : Frm} {σ : List Ob}
end
end Go.Proofs.Ytllkbjcemecmjaa.Aw
end
section
namespace Go.Proofs.Ytllkbjcemecmjaa.Aw
open Go Go.RowKit Go.Proofs
section
variable {N : Nat} {F F' : Frm} {σ σ' : List Ob}
theorem WeakK.weak (h : WeakK N F σ F' σ') : Weak N F σ F' σ' := fun G a hs => by
 obtain ⟨G', h1, h2, h3⟩ := h G a hs
 exact ⟨G', h1, h2.step, h3⟩
theorem WeakK.trans {F1 F2 : Frm} {σ1 σ2 : List Ob} (h : WeakK N F σ F1 σ1) (k : WeakK N F1 σ1 F2 σ2) : WeakK N F σ F2 σ2 := fun G a hs => by
 obtain ⟨G1, e1, s1, h1⟩ := h G a hs
 obtain ⟨G2, e2, s2, h2⟩ := k G1 a h1
 exact ⟨G2, e2.trans e1, s1.trans s2, h2⟩
theorem kwk_froz {id sz : Nat} {cs : List AV} (hs : σ[id]? = some (.row sz cs)) : WeakK N F σ F (σ.set id (.fz sz cs)) := fun G a h => by
 obtain ⟨h1, h2⟩ := froz_ok h.rel hs
 exact ⟨G.froz id, rfl, KE.of h1, h.step h1 h2⟩
theorem kwk_ref {d id sz k : Nat} {cs : List AV} {e : AV} (hd : F.get d = .ptr id sz k 0) (hs : σ[id]? = some (.fz sz cs)) (he : cs[k]? = some e) : WeakK N F σ ((d, .ref e.cells) :: F) σ := fun G a h =>
 ⟨G, rfl, .refl G, h.rel, h.fr.more (rep_fzp h.rel hs he (by rw [← hd]; exact h.fr d)), h.df, h.nt⟩
theorem lo_up {k : Nat} {x : AV} (h : Lo 0 x) : Lo k x := by
 induction h with
 | any => exact .any
 | s v => exact .s v
 | agg cs _ ih => exact .agg cs ih
 | emp => exact .emp
 | sl l _ ih => exact .sl l ih
 | ref cs _ ih => exact .ref cs ih
 | own id sz n h => omega
 | ptr id sz i j h => omega
 | fn f cs _ ih => exact .fn f cs ih
 | tup l _ ih => exact .tup l ih
 | mp id h => omega
 | sub id sz o n h => omega
def LoOb (k : Nat) : Ob → Prop
 | .row _ cs => ∀ e ∈ cs, ∀ c ∈ e.cells, Lo k c
 | .fz _ cs => ∀ e ∈ cs, ∀ c ∈ e.cells, Lo k c
 | .dead => True
 | .mp _ => True
def FrLo (F : Frm) (k : Nat) : Frm → Prop
 | [] => True
 | (d, y) :: F' => (F.get d = y ∧ Lo k y) ∧ FrLo F k F'
theorem kwk_cut {X : List Ob} (h0 : 0 < σ.length) (hσ : ∀ ob ∈ σ, LoOb σ.length ob) (hF : FrLo F σ.length F') : WeakK N F (σ ++ X) F' σ := fun G a h => by
 let G' : Cx := { G with mu := fun i => if i < σ.length then G.mu i else none }
 have hmu : ∀ i, i < σ.length → G'.mu i = G.mu i := fun i hi => if_pos hi
 have low : ∀ {v x}, Rep G v x → Lo σ.length x → Rep G' v x := fun hv hx => hv.low hx (fun _ _ h => h) (fun _ _ _ => rfl) (fun id y hid hy => by rw [hmu id hid]; exact hy) (fun _ => zb8.refl _)
 have hr := h.rel
 have rowlow : ∀ {b sz : Nat} {cs : List AV} {f : Nat × Nat → Prop}, (∀ e ∈ cs, ∀ c ∈ e.cells, Lo σ.length c) → RowAt G b sz cs f → RowAt G' b sz cs f := fun hlo ⟨cur, t, fr, g1, g2, g3, g4⟩ =>
  ⟨cur, t, fr, g1, g2, g3, fun k e he => ⟨(g4 k e he).1, (g4 k e he).2.1, fun j c hc => by
   obtain ⟨v, h6, h7⟩ := (g4 k e he).2.2 j c hc
   exact ⟨v, h6, low h7 (hlo e (List.mem_of_getElem? he) c (List.mem_of_getElem? hc))⟩⟩⟩
 refine ⟨G', rfl, ⟨⟨rfl, rfl, fun _ _ h => h, fun _ _ _ => rfl, fun _ _ h => .inl h, rfl, fun _ _ h => .inl h⟩, fun y hy => by rw [hmu 0 h0]; exact hy, zb8.refl _⟩, ⟨⟨hr.below, hr.le, hr.st, fun id ob hob => ?_, fun i j b hi hj hm hm' => ?_, fun id hid => if_neg (by omega)⟩, ?_, h.df, h.nt⟩⟩
 ·
  have hid := (List.getElem?_eq_some_iff.1 hob).1
  have h1 := hr.obs id ob (by rw [List.getElem?_append_left hid]; exact hob)
  have hlo := hσ ob (List.mem_of_getElem? hob)
  cases ob with
  | dead => intro b hb; rw [hmu id hid] at hb; exact h1 b hb
  | row sz cs =>
   simp only [ObOk, hmu id hid] at h1 ⊢
   cases hx : G.mu id with
   | none => rw [hx] at h1; exact h1
   | some x =>
    rw [hx] at h1
    cases x with
    | none => exact h1
    | some b => exact ⟨rowlow hlo h1.1, h1.2⟩
  | fz sz cs =>
   simp only [ObOk, hmu id hid] at h1 ⊢
   cases hx : G.mu id with
   | none => rw [hx] at h1; exact h1
   | some x =>
    rw [hx] at h1
    cases x with
    | none => exact h1
    | some b => exact ⟨rowlow hlo h1.1, h1.2⟩
  | mp X =>
   obtain ⟨b, g1, g2, g3, g4, g5⟩ := h1
   refine ⟨b, (hmu id hid).trans g1, g2, g3, g4, fun j hj => g5 j ?_⟩
   by_cases hjl : j < σ.length
   ·
    rwa [hmu j hjl] at hj
   ·
    simp only [G', if_neg hjl] at hj; cases hj
 ·
  obtain ⟨sz, cs, h1⟩ := hi
  obtain ⟨sz', cs', h1'⟩ := hj
  have hil := (List.getElem?_eq_some_iff.1 h1).1
  have hjl := (List.getElem?_eq_some_iff.1 h1').1
  rw [hmu i hil] at hm
  rw [hmu j hjl] at hm'
  exact hr.inj i j b ⟨sz, cs, by rw [List.getElem?_append_left hil]; exact h1⟩ ⟨sz', cs', by rw [List.getElem?_append_left hjl]; exact h1'⟩ hm hm'
 ·
  have key : ∀ F', FrLo F σ.length F' → FOk G' a F' := by
   intro F'
   induction F' with
   | nil => intro _ d; exact .any _
   | cons p F' ih =>
    obtain ⟨d, y⟩ := p
    rintro ⟨⟨g1, g2⟩, g3⟩ t
    simp only [Frm.get]
    cases e : Nat.beq d t with
    | true =>
     have := Nat.eq_of_beq_eq_true e
     subst this
     have := h.fr d
     rw [g1] at this
     exact low this g2
    | false => exact ih g3 t
  exact key F' hF
end
section
variable {P : Program} {N : Nat} {F : Frm} {σ σ' : List Ob} {Q : Exit → Frm → List Ob → Prop} {ops : Array Oper} {o : Oper} {l : List Oper} {d : Nat} {fo : Operand} {ar : Array Operand} {ts : Array TypeId} {f : FuncId} {y : AV} {args caps : List AV}
end
end Go.Proofs.Ytllkbjcemecmjaa.Aw
end
section
namespace Go.Proofs.Ytllkbjcemecmjaa.Aw
open Go Go.RowKit Go.Proofs
section
variable {P : Program} {o : Oper} {F : Frm} {σ : List Ob}
end
section
variable {P : Program} {N : Nat} {F : Frm} {σ σ' : List Ob} {Q : Exit → Frm → List Ob → Prop} {ops : Array Oper} {o : Oper} {l : List Oper} {x : AV}
variable {d : Nat} {fo : Operand} {ar : Array Operand} {ts : Array TypeId} {f : FuncId} {y : AV} {args caps : List AV}
end
theorem kwk_sub {N : Nat} {F : Frm} {σ : List Ob} : ∀ {F'}, Sub F F' → WeakK N F σ F' σ := fun {F'} h G a hs => by
 refine ⟨G, rfl, .refl G, hs.rel, ?_, hs.df, hs.nt⟩
 have key : ∀ F', Sub F F' → FOk G a F' := by
  intro F'
  induction F' with
  | nil => intro _ d; exact .any _
  | cons p F' ih =>
   obtain ⟨d, y⟩ := p
   intro h t
   simp only [Frm.get]
   cases e : Nat.beq d t with
   | true => have := Nat.eq_of_beq_eq_true e; subst this; rw [← h.1]; exact hs.fr d
   | false => exact ih h.2 t
 exact key F' h
theorem kw_of {P : Program} {N : Nat} {F : Frm} {σ : List Ob} {Q : Exit → Frm → List Ob → Prop} {c : Code} (h : EWp P N c F σ Q) : KWp P N c F σ Q := fun G a hs =>
 Code.wp_mono (fun e a w q => by obtain ⟨G', F', σ', h1, h2, h3, h4⟩ := q; exact ⟨G', F', σ', h1, KE.of h2, h3, h4⟩) (h G a hs)
theorem kw_draw {P : Program} {N : Nat} {l : List Oper} {F : Frm} {σ : List Ob} {Q : Exit → Frm → List Ob → Prop} {id : Nat} (hm : P.follows .mixedOrders = true) (h : EDraw P N l F σ Q) : KWp P N (.region id l.toArray true) F σ Q := kw_of (ew_draw hm h)
theorem kdraw_ex {P : Program} {N : Nat} {l : List Oper} {F : Frm} {σ : List Ob} {Q : Exit → Frm → List Ob → Prop} (h : EX P N l.toArray l [] l F σ (fun F' σ' => Q .normal F' σ')) : EDraw P N l F σ Q := by
 obtain ⟨F', σ', out, ks, sts, h1, h2, h3⟩ := h
 exact edraw_steps h1 (by simpa using h2) h3
theorem kwk_own {N : Nat} {F : Frm} {σ : List Ob} {d : Nat} {x : AV} (sz : Nat) (hd : F.get d = x) (hx : x = .emp ∨ x = .s (.slice none 0 0)) : WeakK N F σ ((d, .own σ.length sz 0) :: F) (σ ++ [.row sz []]) := fun G a h => by
 have he := nil_ext h.rel
 refine ⟨G.new σ.length G.w none, rfl, .of he, nil_rel h.rel sz, (h.fr.ext he).more ?_, h.df, h.nt⟩
 have h1 := h.fr d
 rw [hd] at h1
 generalize a.tmps.getD d undef = v at h1
 rcases hx with rfl | rfl
 ·
  cases h1 with | emp A hA => exact .own0 σ.length sz A hA (by simp [Cx.new])
 ·
  cases h1; exact .own0 σ.length sz none (fun a ha => by cases ha) (by simp [Cx.new])
end Go.Proofs.Ytllkbjcemecmjaa.Aw
end
