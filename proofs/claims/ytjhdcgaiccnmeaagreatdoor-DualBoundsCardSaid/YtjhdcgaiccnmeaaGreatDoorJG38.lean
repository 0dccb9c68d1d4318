import Derived.Test.YtjhdcgaiccnmeaaGreatDoorJG37
import Derived.Test.YtjhdcgaiccnmeaaGreatDoorJG35
import Derived.Test.YtjhdcgaiccnmeaaGreatDoorJG10
set_option linter.unusedSimpArgs false
set_option linter.unusedVariables false
set_option linter.unusedSectionVars false
section
namespace Go.Proofs.YtjhdcgaiccnmeaaGreatDoor.Aw
open Go Go.RowKit Go.Proofs Go.Maps Go.WideMaps Dl
variable {P : Program} [IsP P]
def eU16 (n : Int) : AV := .s (.int .u16 n)
theorem indexFSt_pf (f : FuncId) (caps : List AV) (p : Stp → Bool) (l : List Stp) (hlo : ∀ a : Stp, Lo 0 (eSt a)) (hlc : Lo 0 (.fn f caps)) (hf : ∀ a ∈ l, Pure P f ([eSt a] ++ caps) (eB (p a))) :
  Pure P 83 [eL eSt l, .fn f caps] (eI (zc1 p l)) := by
 refine zbb (by rw [IsP.eq (P := P)]; exact Tryz.func83) rfl rfl rfl rfl rfl (zah (zaq hlo) (zah hlc zap)) (.s _) (by simp only [argF]; rfl) ?_
 refine aw_bdm (d := 0) rfl (fun hmx => ?_)
 unfold maxLen at hmx
 refine zaf (zae (zbe rfl (zaj (zaf (zaf (zae (zbe rfl (zab rfl rfl (zaa rfl) (za2 rfl ts68 rfl) (zbe rfl (zaj (zak (zac ?_))))))))))))
 refine zdc (S := Nat) (fun k => [(0, eL eSt l), (1, .fn f caps), (7, eI l.length), (8, eI k)]) (fun _ => []) (fun k => k ≤ l.length ∧ ∀ j a, j < k → l[j]? = some a → p a = false) (fun k => l.length - k) 0 (zdk _ ⟨rfl, rfl, rfl, rfl, trivial⟩) ⟨by omega, fun j a hj => by omega⟩ (fun k hk => ?_)
 refine zaf (zae (zab rfl rfl (zaa rfl) (zb3 rfl rfl rfl) (zaj (zaf ?_))))
 refine aw_if rfl (fun h => ?_) (fun h => ?_)
 ·
  have hlt : k < l.length := by omega
  refine zad (zaf (zac (zaf (zae (zbe rfl (zbe rfl (zaj (zaf ?_))))))))
  have hp := hf (gti l k) (gti_mem hlt)
  refine zae (zbe rfl (zbe rfl (zbe rfl (zab rfl rfl (zaa rfl) (za1 rfl ts68 ti37 rfl rfl rfl (zcw (by omega)) rfl) (zb2 ta37 ti37 rfl (zab rfl rfl (zaa rfl) (zav rfl rfl (hp) (zar rfl za0)) (zaj (zak ?_))))))))
  refine aw_cond rfl (fun h => ?_) (fun h => ?_)
  ·
   refine zaf (zae (zbe rfl (zbe rfl (zaj (zak ?_)))))
   (refine zbd ?_; repeat (first | refine zbn ?_ | refine zbo ?_))
   exact zcb (.inr rfl) rfl (congrArg eI (zcs (zbu hlt) h hk.2).symm)
  ·
   refine zad (zal (zak (zae (zab rfl rfl (zaa rfl) (zbj rfl rfl rfl (IntWalk.i64_in _ (by omega))) (zbe rfl (zaj (zak ?_)))))))
   refine ⟨k + 1, ⟨by omega, fun j a hj ha => ?_⟩, by omega, zdk _ ⟨rfl, rfl, rfl, rfl, trivial⟩⟩
   by_cases e : j = k
   ·
    subst e
    rw [zbu hlt] at ha
    cases ha
    exact h
   ·
    exact hk.2 j a (by omega) ha
 ·
  (refine zdd ?_; repeat (first | refine ath_x ?_ | refine zco ?_ | refine zce rfl ?_ | refine zal ?_ | refine zak ?_ | refine zaf ?_ | refine zad ?_ | refine zac ?_))
  refine zae (zbe rfl (zaj (zak ?_)))
  (refine zbd ?_; repeat (first | refine zbn ?_ | refine zbo ?_))
  exact zcb (.inr rfl) rfl (congrArg eI (zcz (fun j a hj ha => hk.2 j a (by omega) ha)).symm)
theorem containsFSt_pf (f : FuncId) (caps : List AV) (p : Stp → Bool) (l : List Stp) (hlo : ∀ a : Stp, Lo 0 (eSt a)) (hlc : Lo 0 (.fn f caps)) (hf : ∀ a ∈ l, Pure P f ([eSt a] ++ caps) (eB (p a))) :
  Pure P 33 [eL eSt l, .fn f caps] (eB (l.any p)) := by
 refine zbb (by rw [IsP.eq (P := P)]; exact Tryz.func33) rfl rfl rfl rfl rfl (zah (zaq hlo) (zah hlc zap)) (.s _) (by simp only [argF]; rfl) ?_
 have hi := indexFSt_pf f caps p l hlo hlc hf
 refine zaf (zae (zbe rfl (zaj (zaf (zae (zbe rfl (zbe rfl (zab rfl rfl (zaa rfl) (zav rfl rfl (hi) (zar rfl (zar rfl za0))) (zab rfl rfl (zaa rfl) (does_geq rfl rfl rfl) (zbe rfl (zaj (zak ?_))))))))))))
 (refine zbd ?_; repeat (first | refine zbn ?_ | refine zbo ?_))
 exact zcb (.inr rfl) rfl (congrArg eB (zc0 p l))
def eAl (l : List Stp) (k : Int) : AV := .agg [eL eSt l, eI k]
theorem rep_al {G : Cx} {v : Value} {l : List Stp} {k : Int} (h : Rep G v (eAl l k)) : ∃ u, v = algV u k ∧ Rep G u (eL eSt l) := by
 cases h with
 | agg vs _ hl h1 hr =>
  obtain ⟨q⟩ := vs
  match q, hl with
  | [a, b], _ =>
   have hb := zdr (hr 1 b _ rfl rfl)
   subst hb
   exact ⟨a, rfl, hr 0 a _ rfl rfl⟩
theorem pcheck_pf (n : Net) (w : List ByteArray) (c : Cst) (l : List Stp) (k : Int) : Pure P 36 [eN n, eL eS w, eC c, eAl l k] (eB (checkB n w c l k)) :=
 retB_pure (zdg Tryz.func36 rfl rfl) fun G vargs hst hsz hrep => by
  obtain ⟨q⟩ := vargs
  match q, hsz, hrep with
  | [a, b, d, e], _, hrep =>
   obtain ⟨vt, rfl, h1⟩ := rep_net (hrep 0 a _ rfl rfl) hst
   have h3 := rep3 (hrep 2 d _ rfl rfl)
   subst h3
   obtain ⟨u, rfl, h4⟩ := rep_al (hrep 3 e _ rfl rfl)
   exact Check_any n w c l k vt b u _ _ _ _ _ _ G.w h1 (rep_rdS (hrep 1 b _ rfl rfl) hst) (rep_rdM h4 hst)
def bigM (m : Stp) : Bool := decide (100 < m.act.size)
theorem bigM_pf (m : Stp) : Pure P 34 [eSt m] (eB (bigM m)) := by
 refine zbb (by rw [IsP.eq (P := P)]; exact Tryz.func34) rfl rfl rfl rfl rfl (zah (lo_St m) zap) (.s _) (by simp only [argF]; rfl) ?_
 refine zaf (zae (zab rfl rfl (zaa rfl) (zb1 rfl rfl rfl rfl) ?_))
 refine za5 (zbv (id := 0) rfl) (za5 (zcf (d := 1) rfl rfl rfl) ?_)
 refine zbe rfl (zaj (zaf (zae (zbq tf37_2 rfl (zbk ta9 rfl (zab rfl rfl (zaa rfl) (does_len_str rfl tg9 rfl) (zab rfl rfl (zaa rfl) (zb6 rfl rfl rfl) (zbe rfl (zaj (zak ?_))))))))))
 (refine zbd ?_; repeat (first | refine zbn ?_ | refine zbo ?_))
 exact zcb (.inr rfl) rfl (congrArg eB (decide_eq_decide.2 (by omega)))
set_option maxHeartbeats 2000000 in
theorem dualBounds_pf (n : Net) (w : List ByteArray) (c : Cst) (cost : Int) (p : Prf) (l : List Stp) (less : { x : Int // 0 ≤ x ∧ x ≤ 65535 }) : Pure P 7 [eN n, eL eS w, eC c, eI cost, ePf p, eL eSt l, eU16 less.1] (eB true) := by
 obtain ⟨less, hls⟩ := less
 have haw := awake44 (P := P)
 have hsm := small_pf (P := P) n w
 have hfw := few_pf (P := P) p
 have hbg := containsFSt_pf (P := P) 34 [] bigM l (fun a => lo_St a) (.fn _ _ zap) (fun a _ => bigM_pf a)
 have hck := fun cost => dCheck_pf (P := P) n w c cost p
 have hco := cost_pf (P := P) c l
 have hpc := fun k => pcheck_pf (P := P) n w c l k
 have hle := fun cost' h1 h2 => check_less (n := n) (w := w) (c := c) (p := p) (cost := cost) (cost' := cost') h1 h2
 have hbd := fun k h1 h2 => bound_ok (n := n) (w := w) (c := c) (p := p) (cost := cost) (k := k) (l := l) h1 h2
 have hcb : checkE n w c cost p = true → cost ≤ 1073741824 := fun h => by
  unfold checkE at h
  simp only [Bool.and_eq_true, decide_eq_true_eq] at h
  obtain ⟨_, hvd, _, he, hfl⟩ := h
  have hv := vdB_iff.1 hvd
  have hok := (hv.pot hv.start_ok').2 he
  obtain ⟨hn, hd, _⟩ := okB_d hok
  have := floorN_eq (a := frE (potX n w p (zb7 n w).1)) hd
  have h2 : (frE (potX n w p (zb7 n w).1)).n / (frE (potX n w p (zb7 n w).1)).d ≤ 1073741824 := by
   rcases Int.lt_or_le (frE (potX n w p (zb7 n w).1)).n 0 with h | h
   ·
    have := Int.ediv_neg_of_neg_of_pos h (by omega : 0 < (frE (potX n w p (zb7 n w).1)).d)
    omega
   ·
    have := Int.ediv_le_self (frE (potX n w p (zb7 n w).1)).d h
    omega
  omega
 have hc1 := hck cost
 generalize smallB n w = b1 at hsm
 generalize fewB p = b2 at hfw
 generalize l.any bigM = b3 at hbg
 generalize hb4 : checkE n w c cost p = b4 at hc1 hle hbd hcb
 generalize costE c l = ce at hco
 obtain ⟨k, e⟩ := ce
 have hpk := hpc k
 have hbk := hbd k
 clear hpc hbd
 generalize checkB n w c l k = b5 at hpk hbk
 have hln : Lo 0 (.ref (eN n).cells) := .ref _ (lo_N n).cells
 have hlp : Lo 0 (.ref (ePf p).cells) := lo_zero p
 have hlc : Lo 0 (.ref (eC c).cells) := .ref _ (lo_C c).cells
 refine zbb (by rw [IsP.eq (P := P)]; exact Tryz.func7) rfl rfl rfl rfl rfl (zah (lo_N n) (zah (lo_W w) (zah (lo_C c) (zah (.s _) (zah (lo_Pf p) (zah (lo_Sts l) (zah (.s _) zap))))))) (.s _) (by simp only [argF]; rfl) ?_
 refine zaf (zae (zab rfl rfl (zaa rfl) (zb1 rfl rfl rfl rfl) ?_))
 refine za5 (zbv (id := 0) rfl) (za5 (zcf (d := 7) rfl rfl rfl) ?_)
 refine zab rfl rfl (zaa rfl) (zb1 rfl rfl rfl rfl) ?_
 refine za5 (zbv (id := 1) rfl) (za5 (zcf (d := 9) rfl rfl rfl) ?_)
 refine zab rfl rfl (zaa rfl) (zb1 rfl rfl rfl rfl) ?_
 refine za5 (zbv (id := 2) rfl) (za5 (zcf (d := 11) rfl rfl rfl) ?_)
 refine zbe rfl (zaj (zaf (zaf ?_)))
 cases b1 with
 | false =>
  refine zae (zab rfl rfl (zaa rfl) (zav rfl rfl (haw) za0) (zab rfl rfl (zaa rfl) (zbh rfl rfl) (zbe rfl (zb2 ta24 ti24 rfl (zbe rfl (zab rfl rfl (zau rfl rfl rfl) (zav rfl rfl (hsm) (zar rfl (zar rfl za0))) (zab rfl rfl (zau rfl rfl rfl) (zbh rfl rfl) (zbe rfl (zbe rfl (zbf rfl (zbf rfl (zbf rfl (zbe rfl (zbe rfl (zbf rfl (zbf rfl (zbf rfl (zbe rfl (zbe rfl (zbf rfl (zbf rfl (zbe rfl (zbe rfl (zbf rfl (zbf rfl (zbf rfl (zbf rfl (zbf rfl (zbf rfl ?_)))))))))))))))))))))))))))))
  refine zbf rfl (zbe rfl (zaj (zak (zbl rfl (zaf (zae (zab rfl rfl (zaa rfl) (zav rfl rfl (haw) za0) (zbe rfl (zaj (zak ?_))))))))))
  (refine zbd ?_; repeat (first | refine zbn ?_ | refine zbo ?_))
  exact zcb (.inr rfl) rfl rfl
 | true =>
 cases b2 with
 | false =>
  refine zae (zab rfl rfl (zaa rfl) (zav rfl rfl (haw) za0) (zab rfl rfl (zaa rfl) (zbh rfl rfl) (zbe rfl (zb2 ta24 ti24 rfl (zbe rfl (zab rfl rfl (zau rfl rfl rfl) (zav rfl rfl (hsm) (zar rfl (zar rfl za0))) (zab rfl rfl (zau rfl rfl rfl) (zbh rfl rfl) (zbe rfl (zbe rfl (zb2 ta32 ti32 rfl (zab rfl rfl (zau rfl rfl rfl) (zav rfl rfl (hfw) (zar rfl za0)) (zab rfl rfl (zau rfl rfl rfl) (zbh rfl rfl) (zbe rfl (zbe rfl (zbf rfl (zbf rfl (zbf rfl (zbe rfl (zbe rfl ?_)))))))))))))))))))
  refine zbf rfl (zbf rfl (zbe rfl (zbe rfl (zbf rfl (zbf rfl (zbf rfl (zbf rfl (zbf rfl (zbf rfl (zbf rfl (zbe rfl (zaj (zak (zbl rfl (zaf (zae (zab rfl rfl (zaa rfl) (zav rfl rfl (haw) za0) (zbe rfl (zaj (zak ?_))))))))))))))))))))
  (refine zbd ?_; repeat (first | refine zbn ?_ | refine zbo ?_))
  exact zcb (.inr rfl) rfl rfl
 | true =>
 by_cases hl40 : (l.length : Int) > 40
 ·
  refine zae (zab rfl rfl (zaa rfl) (zav rfl rfl (haw) za0) (zab rfl rfl (zaa rfl) (zbh rfl rfl) (zbe rfl (zb2 ta24 ti24 rfl (zbe rfl (zab rfl rfl (zau rfl rfl rfl) (zav rfl rfl (hsm) (zar rfl (zar rfl za0))) (zab rfl rfl (zau rfl rfl rfl) (zbh rfl rfl) (zbe rfl (zbe rfl (zb2 ta32 ti32 rfl (zab rfl rfl (zau rfl rfl rfl) (zav rfl rfl (hfw) (zar rfl za0)) (zab rfl rfl (zau rfl rfl rfl) (zbh rfl rfl) (zbe rfl (zbe rfl (zbe rfl (zab rfl rfl (zau rfl rfl rfl) (za2 rfl ts68 rfl) ?_))))))))))))))))
  refine zab rfl rfl (zau rfl rfl rfl) (zck hl40 (zb6 rfl rfl rfl)) (zbe rfl (zbe rfl (zbf rfl (zbf rfl (zbe rfl (zbe rfl (zbf rfl (zbf rfl (zbf rfl (zbf rfl (zbf rfl (zbf rfl (zbf rfl (zbe rfl (zaj (zak (zbl rfl (zaf (zae (zab rfl rfl (zaa rfl) (zav rfl rfl (haw) za0) (zbe rfl (zaj (zak ?_)))))))))))))))))))))))
  (refine zbd ?_; repeat (first | refine zbn ?_ | refine zbo ?_))
  exact zcb (.inr rfl) rfl rfl
 cases b3 with
 | true =>
  refine zae (zab rfl rfl (zaa rfl) (zav rfl rfl (haw) za0) (zab rfl rfl (zaa rfl) (zbh rfl rfl) (zbe rfl (zb2 ta24 ti24 rfl (zbe rfl (zab rfl rfl (zau rfl rfl rfl) (zav rfl rfl (hsm) (zar rfl (zar rfl za0))) (zab rfl rfl (zau rfl rfl rfl) (zbh rfl rfl) (zbe rfl (zbe rfl (zb2 ta32 ti32 rfl (zab rfl rfl (zau rfl rfl rfl) (zav rfl rfl (hfw) (zar rfl za0)) (zab rfl rfl (zau rfl rfl rfl) (zbh rfl rfl) (zbe rfl (zbe rfl (zbe rfl (zab rfl rfl (zau rfl rfl rfl) (za2 rfl ts68 rfl) ?_))))))))))))))))
  refine zab rfl rfl (zau rfl rfl rfl) (zc7 hl40 (zb6 rfl rfl rfl)) (zbe rfl (zbe rfl (zbe rfl (zab rfl rfl (zau rfl rfl rfl) (zav rfl rfl (hbg) (zar rfl (zar rfl za0))) (zbe rfl (zbe rfl (zbf rfl (zbf rfl (zbf rfl (zbf rfl (zbf rfl (zbf rfl (zbf rfl (zbe rfl (zaj (zak (zbl rfl (zaf (zae (zab rfl rfl (zaa rfl) (zav rfl rfl (haw) za0) (zbe rfl (zaj (zak ?_)))))))))))))))))))))))
  (refine zbd ?_; repeat (first | refine zbn ?_ | refine zbo ?_))
  exact zcb (.inr rfl) rfl rfl
 | false =>
 cases b4 with
 | false =>
  refine zae (zab rfl rfl (zaa rfl) (zav rfl rfl (haw) za0) (zab rfl rfl (zaa rfl) (zbh rfl rfl) (zbe rfl (zb2 ta24 ti24 rfl (zbe rfl (zab rfl rfl (zau rfl rfl rfl) (zav rfl rfl (hsm) (zar rfl (zar rfl za0))) (zab rfl rfl (zau rfl rfl rfl) (zbh rfl rfl) (zbe rfl (zbe rfl (zb2 ta32 ti32 rfl (zab rfl rfl (zau rfl rfl rfl) (zav rfl rfl (hfw) (zar rfl za0)) (zab rfl rfl (zau rfl rfl rfl) (zbh rfl rfl) (zbe rfl (zbe rfl (zbe rfl (zab rfl rfl (zau rfl rfl rfl) (za2 rfl ts68 rfl) ?_))))))))))))))))
  refine zab rfl rfl (zau rfl rfl rfl) (zc7 hl40 (zb6 rfl rfl rfl)) (zbe rfl (zbe rfl (zbe rfl (zab rfl rfl (zau rfl rfl rfl) (zav rfl rfl (hbg) (zar rfl (zar rfl za0))) (zbe rfl (zbe rfl (zb2 ta24 ti24 rfl (zbe rfl (zb2 ta27 ti27 rfl (zbe rfl (zb2 ta32 ti32 rfl (zab rfl rfl (zau rfl rfl rfl) (zav rfl rfl (hc1) (zar rfl (zar rfl (zar rfl (zar rfl (zar rfl za0)))))) (zab rfl rfl (zau rfl rfl rfl) (zbh rfl rfl) (zbe rfl (zaj (zak (zbl rfl (zaf (zae (zab rfl rfl (zaa rfl) (zav rfl rfl (haw) za0) ?_))))))))))))))))))))
  refine zbe rfl (zaj (zak ?_))
  (refine zbd ?_; repeat (first | refine zbn ?_ | refine zbo ?_))
  exact zcb (.inr rfl) rfl rfl
 | true =>
 have hcm := hcb rfl
 refine zae (zab rfl rfl (zaa rfl) (zav rfl rfl (haw) za0) (zab rfl rfl (zaa rfl) (zbh rfl rfl) (zbe rfl (zb2 ta24 ti24 rfl (zbe rfl (zab rfl rfl (zau rfl rfl rfl) (zav rfl rfl (hsm) (zar rfl (zar rfl za0))) (zab rfl rfl (zau rfl rfl rfl) (zbh rfl rfl) (zbe rfl (zbe rfl (zb2 ta32 ti32 rfl (zab rfl rfl (zau rfl rfl rfl) (zav rfl rfl (hfw) (zar rfl za0)) (zab rfl rfl (zau rfl rfl rfl) (zbh rfl rfl) (zbe rfl (zbe rfl (zbe rfl (zab rfl rfl (zau rfl rfl rfl) (za2 rfl ts68 rfl) ?_))))))))))))))))
 refine zab rfl rfl (zau rfl rfl rfl) (zc7 hl40 (zb6 rfl rfl rfl)) (zbe rfl (zbe rfl (zbe rfl (zab rfl rfl (zau rfl rfl rfl) (zav rfl rfl (hbg) (zar rfl (zar rfl za0))) (zbe rfl (zbe rfl (zb2 ta24 ti24 rfl (zbe rfl (zb2 ta27 ti27 rfl (zbe rfl (zb2 ta32 ti32 rfl (zab rfl rfl (zau rfl rfl rfl) (zav rfl rfl (hc1) (zar rfl (zar rfl (zar rfl (zar rfl (zar rfl za0)))))) (zab rfl rfl (zau rfl rfl rfl) (zbh rfl rfl) (zbe rfl (zaj (zak (za6 rfl (zad (zaf (zaf ?_))))))))))))))))))))
 refine aw_join [(1, eL eS w), (3, eI cost), (5, eL eSt l), (7, .ref (eN n).cells), (9, .ref (eC c).cells), (11, .ref (ePf p).cells)] [] ?_ ?_
 ·
  by_cases hcl : cost > -1000000
  ·
   have hc2 := hck (cost - less)
   rw [hle (cost - less) rfl (by omega)] at hc2
   refine zae (zbe rfl (zab rfl rfl (zaa rfl) (zck hcl (zb6 rfl rfl rfl)) (zbe rfl (zb2 ta24 ti24 rfl (zbe rfl (zb2 ta27 ti27 rfl (zbe rfl (zbe rfl (zab rfl rfl (zau rfl rfl rfl) (does_conv rfl tu69 tk3 rfl (IntWalk.i64_in _ (by omega))) (zab rfl rfl (zau rfl rfl rfl) (does_sub rfl rfl rfl (IntWalk.i64_in _ (by omega))) (zb2 ta32 ti32 rfl (zab rfl rfl (zau rfl rfl rfl) (zav rfl rfl (hc2) (zar rfl (zar rfl (zar rfl (zar rfl (zar rfl za0)))))) (zab rfl rfl (zau rfl rfl rfl) (zbh rfl rfl) (zbe rfl ?_))))))))))))))
   refine zaj (zak (za6 rfl (zad (zak ?_))))
   exact zc9 [] (by decide) trivial ⟨.lo _ (lo_W w), .lo _ (.s _), .lo _ (lo_Sts l), .lo _ hln, .lo _ hlc, .lo _ hlp, trivial⟩
  ·
   refine zae (zbe rfl (zab rfl rfl (zaa rfl) (zc7 hcl (zb6 rfl rfl rfl)) (zbe rfl (zbf rfl (zbf rfl (zbf rfl (zbf rfl (zbf rfl (zbf rfl (zbf rfl (zbf rfl (zbf rfl (zbf rfl (zbe rfl (zaj (zak (za6 rfl (zad (zak ?_)))))))))))))))))))
   exact zc9 [] (by decide) trivial ⟨.lo _ (lo_W w), .lo _ (.s _), .lo _ (lo_Sts l), .lo _ hln, .lo _ hlc, .lo _ hlp, trivial⟩
 refine zaf (zae (zb2 ta27 ti27 rfl (zbe rfl (zab rfl rfl (zaa rfl) (zav rfl rfl (hco) (zar rfl (zar rfl za0))) (zbe rfl (zbe rfl (zbe rfl (zbe rfl (zbe rfl (zaj (zaf (zaf ?_))))))))))))
 by_cases he : e = 0
 rotate_left 1
 ·
  refine zae (zbe rfl (zab rfl rfl (zaa rfl) (zck he (zb0 rfl rfl rfl)) (zbe rfl (zbf rfl (zbf rfl (zbf rfl (zbf rfl (zbf rfl (zbf rfl (zbf rfl (zbf rfl (zbe rfl (zaj (zak (zbl rfl (zaf (zae (zbe rfl (zaj (zak ?_))))))))))))))))))))
  (refine zbd ?_; repeat (first | refine zbn ?_ | refine zbo ?_))
  exact zcb (.inr rfl) rfl rfl
 cases b5 with
 | false =>
  refine zae (zbe rfl ?_)
  refine zab rfl rfl (zaa rfl) (zc7 (fun h => h he) (zb0 rfl rfl rfl)) ?_
  refine zbe rfl (zb2 ta24 ti24 rfl (zbe rfl (zb2 ta27 ti27 rfl (zbe rfl (zbe rfl (zab rfl rfl (zau rfl rfl rfl) (zbp rfl ti76 tp76 rfl rfl) (zab rfl rfl (zau rfl rfl rfl) (zav rfl rfl (hpk) (zar rfl (zar rfl (zar rfl (zar rfl za0))))) (zab rfl rfl (zau rfl rfl rfl) (zbh rfl rfl) (zbe rfl (zaj (zak (zbl rfl (zaf (zae (zbe rfl (zaj (zak ?_)))))))))))))))))
  (refine zbd ?_; repeat (first | refine zbn ?_ | refine zbo ?_))
  exact zcb (.inr rfl) rfl rfl
 | true =>
  have hkc : k ≥ cost := hbk rfl rfl
  refine zae (zbe rfl ?_)
  refine zab rfl rfl (zaa rfl) (zc7 (fun h => h he) (zb0 rfl rfl rfl)) ?_
  refine zbe rfl (zb2 ta24 ti24 rfl (zbe rfl (zb2 ta27 ti27 rfl (zbe rfl (zbe rfl (zab rfl rfl (zau rfl rfl rfl) (zbp rfl ti76 tp76 rfl rfl) (zab rfl rfl (zau rfl rfl rfl) (zav rfl rfl (hpk) (zar rfl (zar rfl (zar rfl (zar rfl za0))))) (zab rfl rfl (zau rfl rfl rfl) (zbh rfl rfl) (zbe rfl (zaj (zak (za6 rfl (zad (zaf (zae (zbe rfl (zbe rfl (zab rfl rfl (zaa rfl) (zck hkc (does_geq rfl rfl rfl)) (zbe rfl (zaj (zak ?_)))))))))))))))))))))
  (refine zbd ?_; repeat (first | refine zbn ?_ | refine zbo ?_))
  exact zcb (.inr rfl) rfl rfl
end Go.Proofs.YtjhdcgaiccnmeaaGreatDoor.Aw
end
