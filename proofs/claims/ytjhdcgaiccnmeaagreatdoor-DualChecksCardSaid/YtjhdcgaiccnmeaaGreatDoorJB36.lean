import Derived.Test.YtjhdcgaiccnmeaaGreatDoorJB35
import Derived.Test.YtjhdcgaiccnmeaaGreatDoorJB19
import Derived.Test.YtjhdcgaiccnmeaaGreatDoorJB34
set_option linter.unusedSimpArgs false
set_option linter.unusedVariables false
set_option linter.unusedSectionVars false
namespace Go.Proofs.YtjhdcgaiccnmeaaGreatDoor
namespace Aw
open Go Go.RowKit Go.Proofs Go.Maps Go.WideMaps Dl
variable {P : Program} [IsP P]
set_option maxHeartbeats 4000000 in
theorem zo0 (n : Net) (w : List ByteArray) (c : Cst) (p : Prf) (hv : VD n w p) (hc : vcB c = true) : Pure P 17 [eN n, eL eS w, eC c, ePf p] (eWr (zf6 n w c p c6)) := by
 have hpl := hv.pl
 have hfw := hv.few
 have hln : Lo 0 (.ref (eN n).cells) := .ref _ (lo_N n).cells
 have hlp : Lo 0 (.ref (ePf p).cells) := ze2 p
 have hlc : Lo 0 (.ref (eC c).cells) := .ref _ (lo_C c).cells
 have hfi := zvd (P := P) n w c p hv hc
 have hE := zqp (P := P) n w
 have hW : zf6 n w c p c6 = if fstE n w c p c6 ≠ 0 then ([], zStp, fstE n w c p c6) else thS n w c p c6 (p.st.zip p.pots) := rfl
 have hth : ∀ s k l, thS n w c p c6 ((s, k) :: l) = if (linX n w p s).e ≠ 0 then ([], zStp, 6) else if grB (frE (linX n w p s)) (Fr.of k) ∨ (s = (endE n w).1 ∧ k ≠ 0) then (s, zStp, 0) else thR s (thM n w c p c6 s k (zds n w s)) (thS n w c p c6 l) := fun s k l => rfl
 have htm : ∀ s k m ms, thM n w c p c6 s k (m :: ms) = if (potX n w p (zd2 n w s m).1).e ≠ 0 then some (zStp, 6)
  else if (addE (Fr.of (zd4 c m.kind)) (frE (potX n w p (zd2 n w s m).1))).e ≠ 0 then some (zStp, 6)
  else if grB (Fr.of k) (frE (addE (Fr.of (zd4 c m.kind)) (frE (potX n w p (zd2 n w s m).1)))) then some (m, 0)
  else thM n w c p c6 s k ms := fun s k m ms => rfl
 rw [hW]
 generalize fstE n w c p c6 = fe at hfi ⊢
 generalize hR : thS n w c p c6 (p.st.zip p.pots) = R
 generalize endE n w = e0 at hth hE ⊢
 have hzl : (p.st.zip p.pots).length = p.st.length := by simp; omega
 have hzg : ∀ k, k < p.st.length → (p.st.zip p.pots).drop k = (gti p.st k, gti p.pots k) :: (p.st.zip p.pots).drop (k + 1) := fun k hk => by
  rw [List.drop_eq_getElem_cons (by omega)]
  congr 1
  have hz : (p.st.zip p.pots)[k]? = some (gti p.st k, gti p.pots k) := by
   rw [List.getElem?_zip_eq_some]
   exact ⟨zdh hk, zdh (by omega)⟩
  rw [List.getElem?_eq_getElem (by omega)] at hz
  exact Option.some.inj hz
 generalize p.st.zip p.pots = Z at hR hzl hzg
 refine zcl (by rw [IsP.eq (P := P)]; exact Tryz.func17) rfl rfl rfl rfl rfl (zah (lo_N n) (zah (lo_W w) (zah (lo_C c) (zah (zij p) zak)))) (z1o _) (by simp only [argF]; rfl) ?_
 refine zag (zab (zaf rfl rfl (zaa rfl) (zb3 rfl rfl rfl rfl) ?_))
 refine za6 (zbm (id := 0) rfl) (za6 (zcb (d := 4) rfl rfl rfl) ?_)
 refine zaf rfl rfl (zaa rfl) (zb3 rfl rfl rfl rfl) ?_
 refine za6 (zbm (id := 1) rfl) (za6 (zcb (d := 6) rfl rfl rfl) ?_)
 refine zaf rfl rfl (zaa rfl) (zb3 rfl rfl rfl rfl) ?_
 refine za6 (zbm (id := 2) rfl) (za6 (zcb (d := 7) rfl rfl rfl) ?_)
 refine zac rfl (zaf rfl rfl (zaa rfl) (za1 rfl ti37 rfl rfl) (zac rfl (zad (zag (zag ?_)))))
 refine zbg (F' := [(1, eL eS w), (4, .ref (eN n).cells), (6, .ref (eC c).cells), (7, .ref (ePf p).cells), (8, .s (.slice none 0 0)), (9, .ptr 0 3 0 0), (10, eI 0)]) (σ' := [.row 3 [zStA]])
  (zb8 [3] (by decide) ⟨⟨_, rfl, .rowE ze6 rfl⟩, trivial⟩ ⟨.lo _ (lo_W w), .lo _ hln, .lo _ hlc, .lo _ hlp, .lo _ (.s _), .ptr 3 0 3 0 0 rfl, .lo _ (.s _), trivial⟩) ?_
 refine zab (zcx ta24 ti24 rfl (zac rfl (zcx ta27 ti27 rfl (zcx ta32 ti32 rfl (zaf rfl rfl (zaa rfl) (zam rfl rfl (hfi) (zae rfl (zae rfl (zae rfl (zae rfl zap))))) (zac rfl (zad (zag (zab (zac rfl ?_))))))))))
 refine za3 rfl rfl (zaa rfl) (zbp rfl rfl rfl) (fun h32 => ?_) (fun h32 => ?_)
 all_goals refine zad (zai ?_)
 all_goals (first | refine za5 rfl ?_ | refine zau rfl ?_)
 all_goals (repeat (first | refine zag ?_ | refine zar ?_))
 ·
  rw [if_pos h32]
  refine zab (zaf rfl rfl (zaa rfl) (za9 rfl ti37 tp37 rfl rfl) (zac rfl (zac rfl (zba rfl (zaa rfl) (zaj rfl ti37 rfl rfl rfl rfl rfl rfl (by decide) (by decide)) (zac rfl (zad (zai ?_)))))))
  (refine za7 ?_; repeat (first | refine zbc ?_ | refine zbe ?_))
  exact zfq (r := ([], zStp, fe)) (.inr rfl) rfl .nil rfl rfl rfl rfl rfl
 rw [if_neg h32]
 refine zab (zcx ta24 ti24 rfl (zac rfl (zaf rfl rfl (zaa rfl) (zam rfl rfl (hE) (zae rfl (zae rfl zap))) (zac rfl (zac rfl (zac rfl (zac rfl (zac rfl (zad (zag (zag (zab (zac rfl (zad (zai (zas ?_))))))))))))))))
 refine zb1 (S := Nat) (fun k => [(1, eL eS w), (4, .ref (eN n).cells), (6, .ref (eC c).cells), (7, .ref (ePf p).cells), (8, .s (.slice none 0 0)), (9, .ptr 0 3 0 0), (10, eI 0), (12, eL eI e0.1), (14, eI k)]) (fun _ => [.row 3 [zStA]]) (fun k => k ≤ p.st.length ∧ R = thS n w c p c6 (Z.drop k)) (fun k => p.st.length - k) 0
  (zel _ ⟨rfl, rfl, rfl, rfl, rfl, rfl, rfl, rfl, rfl, trivial⟩) ⟨Nat.zero_le _, hR.symm⟩ (fun k hk => ?_)
 obtain ⟨hk, HI⟩ := hk
 refine zag (zag (zab (zac rfl (zbz zd6 rfl (zbu ta28 rfl (zaf rfl rfl (zaa rfl) (zao rfl ts28 rfl) ?_))))))
 refine za3 rfl rfl (zaa rfl) (za2 rfl rfl rfl) (fun h45 => ?_) (fun h45 => ?_)
 all_goals refine zad (zai ?_)
 all_goals (first | refine za5 rfl ?_ | refine zau rfl ?_)
 all_goals (repeat (first | refine zag ?_ | refine zar ?_ | refine zas ?_))
 rotate_left 1
 ·
  have hke : k = p.st.length := by omega
  subst hke
  rw [List.drop_of_length_le (by omega)] at HI
  subst HI
  (refine zb9 ?_; repeat (first | refine zcr ?_ | refine zbt ?_ | refine zbk rfl ?_ | refine zbl ?_ | refine zai ?_ | refine zag ?_ | refine zar ?_ | refine zas ?_))
  refine zab (zaf rfl rfl (zaa rfl) (za9 rfl ti37 tp37 rfl rfl) (zac rfl (zba rfl (zaa rfl) (zaj rfl ti37 rfl rfl rfl rfl rfl rfl (by decide) (by decide)) (zac rfl (zad (zai ?_))))))
  (refine za7 ?_; repeat (first | refine zbc ?_ | refine zbe ?_))
  exact zfq (r := ([], zStp, 10)) (.inr rfl) rfl .nil rfl rfl rfl rfl rfl
 have hkt : k < p.st.length := by omega
 have his : (p.st.map (eL eI))[k]? = some (eL eI (gti p.st k)) := zbb hkt
 have hip : (p.pots.map eI)[k]? = some (eI (gti p.pots k)) := zbb (by omega)
 have hok := hv.ok _ (gti_mem hkt)
 have hpb := hv.pb _ (gti_mem (l := p.pots) (k := k) (by omega))
 rw [hzg k hkt, hth] at HI
 generalize gti p.st k = s at his hok HI
 generalize gti p.pots k = q at hip hpb HI
 have hw1 := zhm (P := P) q
 have hqo : (Fr.of q).okB = true := zfu (by omega)
 have hl1 := zmq (P := P) n w p s hok
 have hlv := hv.lin hok
 generalize linX n w p s = L at hl1 HI hlv
 have hsa := zr4 (P := P) s e0.1
 refine zab (zbz zd6 rfl (zbu ta28 rfl (zac rfl (zaf rfl rfl (zaa rfl) (zal rfl ts28 ti29 rfl rfl rfl his rfl) (zbu ta29 rfl (zac rfl (zad (zag (zab (zcx ta24 ti24 rfl (zac rfl (zcx ta32 ti32 rfl (zac rfl (zaf rfl rfl (zaa rfl) (zam rfl rfl (hl1) (zae rfl (zae rfl (zae rfl (zae rfl zap))))) (zac rfl (zac rfl (zac rfl (zaf rfl rfl (zaa rfl) (za1 rfl ti56 rfl rfl) (zba rfl (zaa rfl) (zaj rfl ti56 rfl rfl rfl rfl rfl rfl (by decide) (by decide)) (zac rfl ?_))))))))))))))))))))
 refine zad (zag (zag ?_))
 refine zbg (zbm (id := 1) rfl) ?_
 refine zbg (zcb (d := 16) rfl rfl rfl) ?_
 refine zab (zac rfl ?_)
 refine za3 rfl rfl (zaa rfl) (zbp rfl rfl rfl) (fun h62 => ?_) (fun h62 => ?_)
 all_goals refine zad (zai ?_)
 all_goals (first | refine za5 rfl ?_ | refine zau rfl ?_)
 all_goals (repeat (first | refine zag ?_ | refine zar ?_))
 ·
  replace h62 : L.e ≠ 0 := h62
  rw [if_pos h62] at HI
  subst HI
  have he6 := e06 hlv.1 h62
  refine zab (zaf rfl rfl (zaa rfl) (za9 rfl ti37 tp37 rfl rfl) (zac rfl (zac rfl (zba rfl (zaa rfl) (zaj rfl ti37 rfl rfl rfl rfl rfl rfl (by decide) (by decide)) (zac rfl (zad (zai ?_)))))))
  (refine za7 ?_; repeat (first | refine zbc ?_ | refine zbe ?_))
  exact zfq (r := ([], zStp, 6)) (.inr rfl) rfl .nil rfl rfl rfl rfl (congrArg eI he6)
 replace h62 : ¬ L.e ≠ 0 := h62
 have hlo := hlv.2 (Classical.byContradiction h62)
 rw [if_neg h62, zjq hlo hqo] at HI
 have hcm := zk9 (P := P) (frE L) (Fr.of q) ((Fr.okB_iff _).1 hlo) ((Fr.okB_iff _).1 hqo)
 generalize cmpN (frE L) (Fr.of q) = z at hcm HI
 have hlf : Lo 0 (.ref (eF (Fr.of q)).cells) := .ref _ (zfe _).cells
 have lo_Ms : ∀ {ms : List Stp}, Lo 0 (eL eSt ms) := fun {ms} => zan fun m => .agg _ (zah (.s _) (zah (.s _) (zah (.s _) zak)))
 refine zab (zbz zbh rfl (zbu ta29 rfl (zac rfl (zaf rfl rfl (zaa rfl) (zal rfl ts29 ti3 rfl rfl rfl hip rfl) (zbu ta3 rfl (zaf rfl rfl (zaa rfl) (zam rfl rfl (hw1) (zae rfl zap)) (zaf rfl rfl (zaa rfl) (za1 rfl ti56 rfl rfl) (zba rfl (zaa rfl) (zaj rfl ti56 rfl rfl rfl rfl rfl rfl (by decide) (by decide)) (zad (zag (zag ?_)))))))))))
 refine zbg (zbm (id := 2) rfl) ?_
 refine zbg (zcb (d := 18) rfl rfl rfl) ?_
 by_cases hz : z > 0
 ·
  rw [if_pos (.inl (decide_eq_true hz))] at HI
  subst HI
  refine zab (zcx ta56 ti56 rfl (zcx ta56 ti56 rfl (zaf rfl rfl (zaa rfl) (zam rfl rfl (hcm) (zae rfl (zae rfl zap))) (zaf rfl rfl (zaa rfl) (zdc hz (zb0 rfl rfl rfl)) (zac rfl (za4 rfl (za4 rfl (za4 rfl (za4 rfl (zcj rfl rfl (zbi rfl rfl rfl) (zcj rfl rfl (zbi rfl rfl rfl) (zcj rfl rfl (zbi rfl rfl rfl) (zcj rfl rfl (zbi rfl rfl rfl) (zcj rfl rfl (zbi rfl rfl rfl) (zcj rfl rfl (zbi rfl rfl rfl) (za4 rfl (zac rfl (zad (zai (za5 rfl (zag (zab ?_))))))))))))))))))))))
  refine zac rfl (zaf rfl rfl (zaa rfl) (za9 rfl ti37 tp37 rfl rfl) (zac rfl (zba rfl (zaa rfl) (zaj rfl ti37 rfl rfl rfl rfl rfl rfl (by decide) (by decide)) (zac rfl (zad (zai ?_))))))
  (refine za7 ?_; repeat (first | refine zbc ?_ | refine zbe ?_))
  exact zfq (r := (s, zStp, 0)) (.inr rfl) rfl (.refl _) rfl rfl rfl rfl rfl
 by_cases hw0 : s = e0.1 ∧ q ≠ 0
 ·
  rw [if_pos (.inr hw0)] at HI
  subst HI
  rw [decide_eq_true hw0.1] at hsa
  refine zab (zcx ta56 ti56 rfl (zcx ta56 ti56 rfl (zaf rfl rfl (zaa rfl) (zam rfl rfl (hcm) (zae rfl (zae rfl zap))) (zaf rfl rfl (zaa rfl) (zeg hz (zb0 rfl rfl rfl)) (zac rfl (zac rfl (zac rfl (zaf rfl rfl (zat rfl rfl rfl) (zam rfl rfl (hsa) (zae rfl (zae rfl zap))) (zac rfl (zbz zbh rfl (zbu ta29 rfl (zac rfl (zaf rfl rfl (zat rfl rfl rfl) (zal rfl ts29 ti3 rfl rfl rfl hip rfl) (zbu ta3 rfl (zaf rfl rfl (zat rfl rfl rfl) (zdc hw0.2 (zbp rfl rfl rfl)) (zac rfl ?_))))))))))))))))
  refine zac rfl (zad (zai (za5 rfl (zag (zab (zac rfl (zaf rfl rfl (zaa rfl) (za9 rfl ti37 tp37 rfl rfl) (zac rfl (zba rfl (zaa rfl) (zaj rfl ti37 rfl rfl rfl rfl rfl rfl (by decide) (by decide)) (zac rfl (zad (zai ?_))))))))))))
  (refine za7 ?_; repeat (first | refine zbc ?_ | refine zbe ?_))
  exact zfq (r := (s, zStp, 0)) (.inr rfl) rfl (.refl _) rfl rfl rfl rfl rfl
 rw [if_neg (by rintro (h | h); exact hz (of_decide_eq_true h); exact hw0 h)] at HI
 refine zxj [(1, eL eS w), (4, .ref (eN n).cells), (6, .ref (eC c).cells), (7, .ref (ePf p).cells), (8, .s (.slice none 0 0)), (9, .ptr 0 3 0 0), (10, eI 0), (12, eL eI e0.1), (14, eI k), (15, eL eI s), (18, .ref (eF (Fr.of q)).cells)] [.row 3 [zStA]] ?_ ?_
 ·
  by_cases he : s = e0.1
  ·
   have hq : q = 0 := Classical.byContradiction fun h => hw0 ⟨he, h⟩
   rw [decide_eq_true he] at hsa
   refine zab (zcx ta56 ti56 rfl (zcx ta56 ti56 rfl (zaf rfl rfl (zaa rfl) (zam rfl rfl (hcm) (zae rfl (zae rfl zap))) (zaf rfl rfl (zaa rfl) (zeg hz (zb0 rfl rfl rfl)) (zac rfl (zac rfl (zac rfl (zaf rfl rfl (zat rfl rfl rfl) (zam rfl rfl (hsa) (zae rfl (zae rfl zap))) (zac rfl (zbz zbh rfl (zbu ta29 rfl (zac rfl (zaf rfl rfl (zat rfl rfl rfl) (zal rfl ts29 ti3 rfl rfl rfl hip rfl) (zbu ta3 rfl ?_))))))))))))))
   refine zaf rfl rfl (zat rfl rfl rfl) (zeg (fun h => h hq) (zbp rfl rfl rfl)) ?_
   refine zac rfl (zac rfl (zad (zai (zau rfl (zar (zai ?_))))))
   exact zb8 [0] (by decide) ⟨⟨_, rfl, .rowE ze6 rfl⟩, trivial⟩ ⟨.lo _ (lo_W w), .lo _ hln, .lo _ hlc, .lo _ hlp, .lo _ (.s _), .ptr 0 0 3 0 0 rfl, .lo _ (.s _), .lo _ lo_I, .lo _ (.s _), .lo _ lo_I, .lo _ hlf, trivial⟩
  ·
   rw [decide_eq_false he] at hsa
   refine zab (zcx ta56 ti56 rfl (zcx ta56 ti56 rfl (zaf rfl rfl (zaa rfl) (zam rfl rfl (hcm) (zae rfl (zae rfl zap))) (zaf rfl rfl (zaa rfl) (zeg hz (zb0 rfl rfl rfl)) (zac rfl (zac rfl (zac rfl (zaf rfl rfl (zat rfl rfl rfl) (zam rfl rfl (hsa) (zae rfl (zae rfl zap))) (zac rfl (za4 rfl (za4 rfl (za4 rfl (za4 rfl (za4 rfl (za4 rfl (zac rfl (zac rfl (zad (zai (zau rfl (zar (zai ?_))))))))))))))))))))))
   exact zb8 [0] (by decide) ⟨⟨_, rfl, .rowE ze6 rfl⟩, trivial⟩ ⟨.lo _ (lo_W w), .lo _ hln, .lo _ hlc, .lo _ hlp, .lo _ (.s _), .ptr 0 0 3 0 0 rfl, .lo _ (.s _), .lo _ lo_I, .lo _ (.s _), .lo _ lo_I, .lo _ hlf, trivial⟩
 have hM := zo2 (P := P) n w s hok
 have hml := zho hok
 have hmm := fun m => zgk (m := m) hok
 generalize hms : zds n w s = ms at hM HI hml hmm
 clear hw1 hl1 hcm hsa hlv
 refine zag (zab (zcx ta24 ti24 rfl (zac rfl (zac rfl (zaf rfl rfl (zaa rfl) (zam rfl rfl (hM) (zae rfl (zae rfl (zae rfl zap)))) (zac rfl (zad (zag (zab (zac rfl (zad (zai (zas ?_)))))))))))))
 refine zb1 (S := Nat) (fun j => [(1, eL eS w), (4, .ref (eN n).cells), (6, .ref (eC c).cells), (7, .ref (ePf p).cells), (8, .s (.slice none 0 0)), (9, .ptr 0 3 0 0), (10, eI 0), (12, eL eI e0.1), (14, eI k), (15, eL eI s), (18, .ref (eF (Fr.of q)).cells), (19, eL eSt ms), (20, eI j)]) (fun _ => [.row 3 [zStA]]) (fun j => j ≤ ms.length ∧ R = thR s (thM n w c p c6 s q (ms.drop j)) (thS n w c p c6 (Z.drop (k + 1)))) (fun j => ms.length - j) 0
  (zel _ ⟨rfl, rfl, rfl, rfl, rfl, rfl, rfl, rfl, rfl, rfl, rfl, rfl, rfl, trivial⟩) ⟨Nat.zero_le _, HI⟩ (fun j hj => ?_)
 clear HI
 obtain ⟨hj, HI⟩ := hj
 refine zag (zag (zab (zac rfl (zac rfl (zaf rfl rfl (zaa rfl) (zao rfl ts68 rfl) ?_)))))
 refine za3 rfl rfl (zaa rfl) (za2 rfl rfl rfl) (fun h97 => ?_) (fun h97 => ?_)
 all_goals refine zad (zai ?_)
 all_goals (first | refine za5 rfl ?_ | refine zau rfl ?_)
 all_goals (repeat (first | refine zag ?_ | refine zar ?_ | refine zas ?_))
 rotate_left 1
 ·
  have hje : j = ms.length := by omega
  subst hje
  rw [List.drop_of_length_le (by omega)] at HI
  (refine zb9 ?_; repeat (first | refine zcr ?_ | refine zbt ?_ | refine zbk rfl ?_ | refine zbl ?_ | refine zai ?_ | refine zag ?_ | refine zar ?_ | refine zas ?_))
  refine zab (zac rfl (zaf rfl rfl (zaa rfl) (zax rfl rfl rfl (IntWalk.i64_in _ (by omega))) (zac rfl (zad (zai ?_)))))
  exact ⟨k + 1, ⟨by omega, HI⟩, by omega, zel _ ⟨rfl, rfl, rfl, rfl, rfl, rfl, rfl, rfl, rfl, trivial⟩⟩
 have hjt : j < ms.length := by omega
 have hjm : ms[j]? = some (ms[j]'hjt) := List.getElem?_eq_getElem hjt
 have him : (ms.map eSt)[j]? = some (eSt (ms[j]'hjt)) := by rw [List.getElem?_map, hjm]; rfl
 have hmj := hmm _ (List.getElem_mem hjt)
 rw [List.drop_eq_getElem_cons hjt, htm] at HI
 generalize ms[j]'hjt = m at him hmj HI
 obtain ⟨ha1, ha2, ha3⟩ := hmj
 have hco := zvb (P := P) c m
 have hpbd := zhz hc m.kind
 have hap := zo5 (P := P) n w s m
 rw [show zd2 n w s m = ((zd2 n w s m).1, 0) from Prod.ext rfl ha1] at hap
 have hpt := zi1 (P := P) n w p _ hv ha3
 have hpv := hv.pot ha3
 generalize (zd2 n w s m).1 = s2 at hap hpt HI hpv
 generalize potX n w p s2 = Y at hpt HI hpv
 generalize zd4 c m.kind = pc at hco HI hpbd
 have hw2 := zhm (P := P) pc
 have hpco : (Fr.of pc).okB = true := zfu (by omega)
 refine zb2 hmix ?_
 refine zbx (by kernel_rfl) ?_
 refine qx_w ta24 ti24 rfl (qx_s rfl (qx_s rfl (qx_s rfl (qx_s rfl (zby rfl rfl (zaa rfl) (zal rfl ts68 ti37 rfl rfl rfl him rfl) (qx_w ta37 ti37 rfl (zby rfl rfl (zaa rfl) (zam rfl rfl (hap) (zae rfl (zae rfl (zae rfl (zae rfl zap))))) (qx_s rfl (qx_s rfl (qx_s rfl (qx_s rfl (qx_s rfl ?_))))))))))))
 refine zdg ?_
 refine zag (zab (zcx ta24 ti24 rfl (zac rfl (zcx ta32 ti32 rfl (zac rfl (zaf rfl rfl (zaa rfl) (zam rfl rfl (hpt) (zae rfl (zae rfl (zae rfl (zae rfl zap))))) (zac rfl (zac rfl (zac rfl (zaf rfl rfl (zaa rfl) (za1 rfl ti56 rfl rfl) (zba rfl (zaa rfl) (zaj rfl ti56 rfl rfl rfl rfl rfl rfl (by decide) (by decide)) (zac rfl (zad (zag (zag ?_)))))))))))))))
 refine zbg (zbm (id := 1) rfl) ?_
 refine zbg (zcb (d := 23) rfl rfl rfl) ?_
 refine zab (zac rfl ?_)
 refine za3 rfl rfl (zaa rfl) (zbp rfl rfl rfl) (fun h120 => ?_) (fun h120 => ?_)
 all_goals refine zad (zai ?_)
 all_goals (first | refine za5 rfl ?_ | refine zau rfl ?_)
 all_goals (repeat (first | refine zag ?_ | refine zar ?_))
 ·
  replace h120 : Y.e ≠ 0 := h120
  rw [if_pos h120] at HI
  subst HI
  have he6 := e06 hpv.1 h120
  refine zab (zaf rfl rfl (zaa rfl) (za9 rfl ti37 tp37 rfl rfl) (zac rfl (zac rfl (zba rfl (zaa rfl) (zaj rfl ti37 rfl rfl rfl rfl rfl rfl (by decide) (by decide)) (zac rfl (zad (zai ?_)))))))
  (refine za7 ?_; repeat (first | refine zbc ?_ | refine zbe ?_))
  exact zfq (r := ([], zStp, 6)) (.inr rfl) rfl .nil rfl rfl rfl rfl (congrArg eI he6)
 replace h120 : ¬ Y.e ≠ 0 := h120
 have hyo := hpv.2 (Classical.byContradiction h120)
 rw [if_neg h120] at HI
 have had := zqq (P := P) (Fr.of pc) (frE Y)
 have hae := zxt hpco hyo
 have hao := zog hpco hyo
 generalize addE (Fr.of pc) (frE Y) = A at had HI hae hao
 refine zb2 hmix ?_
 refine zc1 ?_
 refine ex_w ta27 ti27 rfl (ex_s rfl (ex_s rfl (zay rfl rfl (zaa rfl) (fun _ => (zal rfl ts68 ti37 rfl rfl rfl him rfl)) (ex_w ta37 ti37 rfl (zay rfl rfl (zaa rfl) (fun _ => (zam rfl rfl (hco) (zae rfl (zae rfl zap)))) (zay rfl rfl (zaa rfl) (fun _ => (zam rfl rfl (hw2) (zae rfl zap))) (ex_w ta56 ti56 rfl (zay rfl rfl (zaa rfl) (fun _ => (zam rfl rfl (had) (zae rfl (zae rfl zap)))) (ex_s rfl (ex_s rfl (ex_s rfl ?_)))))))))))
 refine zc9 rfl rfl (zaa rfl) (za1 rfl ti56 rfl rfl) (fun _ h => zdo h) ?_
 refine zci rfl (zaa rfl) (zaj rfl ti56 rfl rfl rfl rfl rfl rfl (by decide) (by decide)) (fun _ h => zbw h) ?_
 refine ex_s rfl ?_
 refine zcf (by kernel_rfl) ?_
 refine zag (zag ?_)
 refine zbg (zbm (id := 2) rfl) ?_
 refine zbg (zcb (d := 25) rfl rfl rfl) ?_
 refine zab (zac rfl ?_)
 refine za3 rfl rfl (zaa rfl) (zbp rfl rfl rfl) (fun h136 => ?_) (fun h136 => ?_)
 all_goals refine zad (zai ?_)
 all_goals (first | refine za5 rfl ?_ | refine zau rfl ?_)
 all_goals (repeat (first | refine zag ?_ | refine zar ?_))
 ·
  replace h136 : A.e ≠ 0 := h136
  rw [if_pos h136] at HI
  subst HI
  have he6 := e06 hae h136
  refine zab (zaf rfl rfl (zaa rfl) (za9 rfl ti37 tp37 rfl rfl) (zac rfl (zac rfl (zba rfl (zaa rfl) (zaj rfl ti37 rfl rfl rfl rfl rfl rfl (by decide) (by decide)) (zac rfl (zad (zai ?_)))))))
  (refine za7 ?_; repeat (first | refine zbc ?_ | refine zbe ?_))
  exact zfq (r := ([], zStp, 6)) (.inr rfl) rfl .nil rfl rfl rfl rfl (congrArg eI he6)
 replace h136 : ¬ A.e ≠ 0 := h136
 have hAo := hao (Classical.byContradiction h136)
 rw [if_neg h136, zjq hqo hAo] at HI
 have hcm := zk9 (P := P) (Fr.of q) (frE A) ((Fr.okB_iff _).1 hqo) ((Fr.okB_iff _).1 hAo)
 generalize cmpN (Fr.of q) (frE A) = y at hcm HI
 refine zab (zcx ta56 ti56 rfl (zcx ta56 ti56 rfl (zaf rfl rfl (zaa rfl) (zam rfl rfl (hcm) (zae rfl (zae rfl zap))) ?_)))
 refine za3 rfl rfl (zaa rfl) (zb0 rfl rfl rfl) (fun h142 => ?_) (fun h142 => ?_)
 all_goals refine zad (zai ?_)
 all_goals (first | refine za5 rfl ?_ | refine zau rfl ?_)
 all_goals (repeat (first | refine zag ?_ | refine zai ?_ | refine zar ?_ | refine zbl ?_))
 ·
  rw [if_pos (decide_eq_true h142)] at HI
  subst HI
  refine zb2 hmix ?_
  refine zc1 ?_
  refine ex_s rfl (ex_s rfl (ex_s rfl (zay rfl rfl (zaa rfl) (fun _ => (zal rfl ts68 ti37 rfl rfl rfl him rfl)) (ex_w ta37 ti37 rfl (ex_s rfl ?_)))))
  refine zci rfl (zaa rfl) (zaj rfl ti37 rfl rfl rfl rfl rfl rfl (by decide) (by decide)) (fun _ h => zbw h) ?_
  refine ex_s rfl ?_
  refine zcf (by kernel_rfl) ?_
  refine zai ?_
  (refine za7 ?_; repeat (first | refine zbc ?_ | refine zbe ?_))
  exact zfq (r := (s, m, 0)) (.inr rfl) rfl (.refl _) rfl rfl rfl rfl rfl
 ·
  rw [if_neg (fun h => h142 (of_decide_eq_true h))] at HI
  refine zab (zac rfl (zaf rfl rfl (zaa rfl) (zax rfl rfl rfl (IntWalk.i64_in _ (by omega))) (zac rfl (zad (zai ?_)))))
  exact ⟨j + 1, ⟨by omega, HI⟩, by omega, zb8 [0] (by decide) ⟨⟨_, rfl, .rowE ze6 rfl⟩, trivial⟩ ⟨.lo _ (lo_W w), .lo _ hln, .lo _ hlc, .lo _ hlp, .lo _ (.s _), .ptr 0 0 3 0 0 rfl, .lo _ (.s _), .lo _ lo_I, .lo _ (.s _), .lo _ lo_I, .lo _ hlf, .lo _ lo_Ms, .lo _ (.s _), trivial⟩⟩
set_option maxHeartbeats 1000000 in
theorem zo4 (n : Net) (w : List ByteArray) (c : Cst) (cost : Int) (p : Prf) : Pure P 14 [eN n, eL eS w, eC c, eI cost, ePf p] (eB (checkE n w c cost p)) := by
 have hln : Lo 0 (.ref (eN n).cells) := .ref _ (lo_N n).cells
 have hlp : Lo 0 (.ref (ePf p).cells) := ze2 p
 have hlc : Lo 0 (.ref (eC c).cells) := .ref _ (lo_C c).cells
 have hvl := zk7 (P := P) n w p
 have hvc := zge (P := P) c
 have hS := zo1 (P := P) n w
 have hun : checkE n w c cost p = (vcB c && (vdB n w p && (decide ((zf6 n w c p c6).2.2 = 10) && (decide ((potX n w p (zd9 n w).1).e = 0) && decide (cost ≤ zhr (frE (potX n w p (zd9 n w).1))))))) := rfl
 have hvd := zhi (n := n) (w := w) (p := p)
 have hcc : vcB c = true → vcB c = true := id
 rw [hun]
 generalize hb1 : vdB n w p = b1 at hvl hvd ⊢
 generalize hb2 : vcB c = b2 at hvc hcc ⊢
 refine zcl (by rw [IsP.eq (P := P)]; exact Tryz.func14) rfl rfl rfl rfl rfl (zah (lo_N n) (zah (lo_W w) (zah (lo_C c) (zah (.s _) (zah (zij p) zak))))) (.s _) (by simp only [argF]; rfl) ?_
 refine zag (zab (zaf rfl rfl (zaa rfl) (zb3 rfl rfl rfl rfl) ?_))
 refine za6 (zbm (id := 0) rfl) (za6 (zcb (d := 5) rfl rfl rfl) ?_)
 refine zaf rfl rfl (zaa rfl) (zb3 rfl rfl rfl rfl) ?_
 refine za6 (zbm (id := 1) rfl) (za6 (zcb (d := 7) rfl rfl rfl) ?_)
 refine zaf rfl rfl (zaa rfl) (zb3 rfl rfl rfl rfl) ?_
 refine za6 (zbm (id := 2) rfl) (za6 (zcb (d := 9) rfl rfl rfl) ?_)
 refine zac rfl (zad (zag (zag ?_)))
 cases b1 with
 | false =>
  refine zab (zcx ta24 ti24 rfl (zac rfl (zcx ta32 ti32 rfl (zaf rfl rfl (zaa rfl) (zam rfl rfl (hvl) (zae rfl (zae rfl (zae rfl zap)))) (zaf rfl rfl (zaa rfl) (zbj rfl rfl) (zac rfl (za4 rfl (za4 rfl (za4 rfl (zac rfl (zad (zai (za5 rfl (zag (zab (zac rfl (zad (zai ?_))))))))))))))))))
  (refine za7 ?_; repeat (first | refine zbc ?_ | refine zbe ?_))
  exact zb6 (.inr rfl) rfl (congrArg eB (by cases b2 <;> rfl))
 | true =>
 cases b2 with
 | false =>
  refine zab (zcx ta24 ti24 rfl (zac rfl (zcx ta32 ti32 rfl (zaf rfl rfl (zaa rfl) (zam rfl rfl (hvl) (zae rfl (zae rfl (zae rfl zap)))) (zaf rfl rfl (zaa rfl) (zbj rfl rfl) (zac rfl (zcx ta27 ti27 rfl (zaf rfl rfl (zat rfl rfl rfl) (zam rfl rfl (hvc) (zae rfl zap)) (zaf rfl rfl (zat rfl rfl rfl) (zbj rfl rfl) (zac rfl (zad (zai (za5 rfl (zag (zab (zac rfl (zad (zai ?_))))))))))))))))))
  (refine za7 ?_; repeat (first | refine zbc ?_ | refine zbe ?_))
  exact zb6 (.inr rfl) rfl rfl
 | true =>
 have hv := hvd.1 rfl
 have hwr := zo0 (P := P) n w c p hv hb2
 have hso := hv.start_ok'
 have hpo := zi1 (P := P) n w p _ hv hso
 have hpv := (hv.pot hso).2
 rw [Bool.true_and, Bool.true_and]
 generalize zd9 n w = s0 at hS hpo hpv ⊢
 generalize zf6 n w c p c6 = we at hwr ⊢
 generalize potX n w p s0.1 = Y at hpo hpv ⊢
 refine zab (zcx ta24 ti24 rfl (zac rfl (zcx ta32 ti32 rfl (zaf rfl rfl (zaa rfl) (zam rfl rfl (hvl) (zae rfl (zae rfl (zae rfl zap)))) (zaf rfl rfl (zaa rfl) (zbj rfl rfl) (zac rfl (zcx ta27 ti27 rfl (zaf rfl rfl (zat rfl rfl rfl) (zam rfl rfl (hvc) (zae rfl zap)) (zaf rfl rfl (zat rfl rfl rfl) (zbj rfl rfl) (zac rfl (zad (zai (zau rfl (zar (zag (zag (zab (zcx ta24 ti24 rfl (zac rfl (zcx ta27 ti27 rfl (zcx ta32 ti32 rfl (zaf rfl rfl (zaa rfl) (zam rfl rfl (hwr) (zae rfl (zae rfl (zae rfl (zae rfl zap))))) ?_))))))))))))))))))))))
 refine zac rfl (zac rfl (zac rfl (zac rfl (zaf rfl rfl (zaa rfl) (za1 rfl ti37 rfl rfl) (zac rfl (zba rfl (zaa rfl) (zaj rfl ti37 rfl rfl rfl rfl rfl rfl (by decide) (by decide)) (zac rfl (zad (zag (zab (zac rfl ?_)))))))))))
 refine za3 rfl rfl (zaa rfl) (zbp rfl rfl rfl) (fun h38 => ?_) (fun h38 => ?_)
 all_goals refine zad (zai ?_)
 all_goals (first | refine za5 rfl ?_ | refine zau rfl ?_)
 all_goals (repeat (first | refine zag ?_ | refine zar ?_))
 ·
  refine zab (zac rfl (zad (zai ?_)))
  (refine za7 ?_; repeat (first | refine zbc ?_ | refine zbe ?_))
  exact zb6 (.inr rfl) rfl (congrArg eB (by rw [decide_eq_false h38]; rfl))
 rw [decide_eq_true (Classical.byContradiction h38 : we.2.2 = 10), Bool.true_and]
 refine zab (zcx ta24 ti24 rfl (zac rfl (zaf rfl rfl (zaa rfl) (zam rfl rfl (hS) (zae rfl (zae rfl zap))) (zac rfl (zac rfl (zac rfl (zac rfl (zac rfl (zad (zag ?_))))))))))
 refine zbg (F' := [(1, eL eS w), (3, eI cost), (5, .ref (eN n).cells), (9, .ref (ePf p).cells), (14, eL eI s0.1)]) (σ' := []) (zb8 [] (by decide) trivial ⟨.lo _ (lo_W w), .lo _ (.s _), .lo _ hln, .lo _ hlp, .lo _ lo_I, trivial⟩) ?_
 refine zab (zcx ta24 ti24 rfl (zac rfl (zcx ta32 ti32 rfl (zac rfl (zaf rfl rfl (zaa rfl) (zam rfl rfl (hpo) (zae rfl (zae rfl (zae rfl (zae rfl zap))))) (zac rfl (zac rfl (zac rfl (zaf rfl rfl (zaa rfl) (za1 rfl ti56 rfl rfl) (zba rfl (zaa rfl) (zaj rfl ti56 rfl rfl rfl rfl rfl rfl (by decide) (by decide)) (zac rfl (zad (zag ?_)))))))))))))
 refine zbg (zbm (id := 0) rfl) ?_
 refine zbg (zcb (d := 16) rfl rfl rfl) ?_
 by_cases he : Y.e = 0
 ·
  have hfl := zuz (P := P) (frE Y) (hpv he)
  rw [decide_eq_true he, Bool.true_and]
  refine zab (zac rfl (zaf rfl rfl (zaa rfl) (zdc he (zbn rfl rfl rfl)) (zac rfl (zac rfl (zcx ta56 ti56 rfl (zaf rfl rfl (zat rfl rfl rfl) (zam rfl rfl (hfl) (zae rfl zap)) (zaf rfl rfl (zat rfl rfl rfl) (zdz rfl rfl rfl) (zac rfl (zac rfl (zad (zai ?_)))))))))))
  (refine za7 ?_; repeat (first | refine zbc ?_ | refine zbe ?_))
  exact zb6 (.inr rfl) rfl rfl
 ·
  rw [decide_eq_false he, Bool.false_and]
  refine zab (zac rfl (zaf rfl rfl (zaa rfl) (zeg he (zbn rfl rfl rfl)) (zac rfl (za4 rfl (za4 rfl (za4 rfl (za4 rfl (zac rfl (zac rfl (zad (zai ?_)))))))))))
  (refine za7 ?_; repeat (first | refine zbc ?_ | refine zbe ?_))
  exact zb6 (.inr rfl) rfl rfl
end Aw
namespace Dl
open Go.RowKit
def revL (M : List Edg) : List Edg := (M.map flp).reverse
def farI (k : Nat) : List Int := (List.replicate k 4503599627370496).set 0 0
def zh9 (n : Net) (w : List ByteArray) (g : Gr) : Int × Int :=
 if zef g.st (endE n w).1 < 0 then (0, 10) else (gti (relW (revL g.ed) (farI g.st.length)) (idx g.st (endE n w).1), 0)
def zhp (n : Net) (w : List ByteArray) (c : Cst) (most : Int) : Int × Int :=
 match bfsD (nxD n w c) most (most.toNat + 1) 0 ⟨[(zd9 n w).1], []⟩ with
 | none => (0, 13)
 | some g => zh9 n w g
def fwK (M : List Edg) (k : Nat) (far : List Int) : List Int × Bool := bkR (revL (M.take k)) far
theorem z1w (M : List Edg) (far : List Int) : fwK M M.length far = bkR (revL M) far := by unfold fwK; rw [List.take_length]
theorem zy7 {M : List Edg} {k : Nat} (h : k < M.length) (far : List Int) : fwK M (k + 1) far = if gti (fwK M k far).1 (gti M k).a + (gti M k).c < gti (fwK M k far).1 (gti M k).b then ((fwK M k far).1.set (gti M k).b (gti (fwK M k far).1 (gti M k).a + (gti M k).c), true) else fwK M k far := by
 have e : revL (M.take (k + 1)) = flp (gti M k) :: revL (M.take k) := by
  unfold revL
  rw [List.take_add_one, zdh h]
  simp
 unfold fwK
 rw [e]
 rfl
theorem zkj {M : List Edg} {e : Edg} : e ∈ revL M ↔ flp e ∈ M := by
 unfold revL
 rw [List.mem_reverse, List.mem_map]
 constructor
 ·
  rintro ⟨x, hx, rfl⟩; exact hx
 ·
  intro h; exact ⟨flp e, h, rfl⟩
theorem zqm {n : Nat} {M : List Edg} (hE : EOk n M) : EOk n (revL M) := fun e he => by
 have := hE _ (zkj.1 he)
 exact ⟨this.2.1, this.1, this.2.2⟩
theorem fwK_ok {n : Nat} {M : List Edg} {B : Int} {far : List Int} (hE : EOk n M) (h : FOk n (revL M) B 0 (Way (revL M) 0) far) (k : Nat) : FOk n (revL M) B 0 (Way (revL M) 0) (fwK M k far).1 := by
 have hs : ∀ e ∈ revL (M.take k), e ∈ revL M := fun e he => zkj.2 (List.mem_of_mem_take (zkj.1 he))
 have h2 := (zl4 (n := n) (M := revL (M.take k)) (B := B) (t := 0) (W := Way (revL M) 0) (revL (M.take k)) (fun e he => zqm hE e (hs e he)) (fun e he d hd => .cons e d (hs e he) hd) far ⟨h.len, h.nn, h.le, h.way, h.tt⟩).1
 exact ⟨h2.len, h2.nn, h2.le, h2.way, h2.tt⟩
theorem zwr {k : Nat} (h : 0 < k) : farI (k + 1) = farI k ++ [4503599627370496] := by
 unfold farI
 obtain ⟨m, rfl⟩ : ∃ m, k = m + 1 := ⟨k - 1, by omega⟩
 rw [List.replicate_succ, List.replicate_succ]
 show (0 :: List.replicate (m + 1) 4503599627370496) = (0 :: List.replicate m 4503599627370496) ++ [4503599627370496]
 rw [List.replicate_succ']
 rfl
theorem zsn (k : Nat) : (farI k).length = k := by simp [farI]
end Dl
namespace Aw
open Go Go.RowKit Go.Proofs Go.Maps Go.WideMaps Dl
variable {P : Program} [IsP P]
theorem ar3 : zti P 126 = some (3, 3) := by rw [IsP.eq (P := P)]; kernel_rfl
def stL (g : Gr) : List Ob := [.row 1 (g.st.map (eL eI)), .row 1 ((farI g.st.length).map eI), .row 3 (g.ed.map eEd)]
set_option maxHeartbeats 4000000 in
theorem zvc (n : Net) (w : List ByteArray) (c : Cst) (most : Int) (hvn : zd5 n = true) (hww : zew w = true) (hvc : vcB c = true) (hmo : 1 ≤ most ∧ most ≤ 2000) :
  Pure P 23 [eN n, eL eS w, eC c, eI most] (.tup [eI (zhp n w c most).1, eI (zhp n w c most).2]) := by
 have HI : zhp n w c most = match bfsD (nxD n w c) most (most.toNat + 1) 0 ⟨[(zd9 n w).1], []⟩ with
  | none => (0, 13)
  | some g => zh9 n w g := rfl
 generalize zhp n w c most = R at HI ⊢
 have hS0 := zo1 (P := P) n w
 have hE0 := zqp (P := P) n w
 have hso := zf8 (n := n) (w := w) (by unfold zd9; rw [hvn, hww]; rfl)
 have hlg : ∀ g, zh9 n w g = if zef g.st (endE n w).1 < 0 then (0, 10) else (gti (relW (revL g.ed) (farI g.st.length)) (idx g.st (endE n w).1), 0) := fun g => rfl
 obtain ⟨_, _, hse, hee, hsk, hek⟩ := hso
 clear hse hee
 generalize zd9 n w = s0 at hS0 HI hsk
 generalize endE n w = e0 at hE0 hlg hek
 have hln : Lo 0 (.ref (eN n).cells) := .ref _ (lo_N n).cells
 have hlc : Lo 0 (.ref (eC c).cells) := .ref _ (lo_C c).cells
 have hN := zvu (n := n) (w := w) hvc
 obtain ⟨R0, hR0⟩ : ∃ R0, bfsD (nxD n w c) most (most.toNat + 1) 0 ⟨[s0.1], []⟩ = R0 := ⟨_, rfl⟩
 rw [hR0] at HI
 refine zcl (by rw [IsP.eq (P := P)]; exact Tryz.func23) rfl rfl rfl rfl rfl (zah (lo_N n) (zah (lo_W w) (zah (lo_C c) (zah (.s _) zak)))) (.tup _ (zah (.s _) (zah (.s _) zak))) (by simp only [argF]; rfl) ?_
 refine zag (zab (zaf rfl rfl (zaa rfl) (zb3 rfl rfl rfl rfl) ?_))
 refine za6 (zbm (id := 0) rfl) (za6 (zcb (d := 4) rfl rfl rfl) ?_)
 refine zaf rfl rfl (zaa rfl) (zb3 rfl rfl rfl rfl) ?_
 refine za6 (zbm (id := 1) rfl) (za6 (zcb (d := 6) rfl rfl rfl) ?_)
 refine zac rfl (zac rfl (zad (zag (zab (zcx ta24 ti24 rfl (zac rfl (zaf rfl rfl (zaa rfl) (zam rfl rfl (hS0) (zae rfl (zae rfl zap))) (zac rfl (zac rfl (zac rfl (zac rfl (zac rfl (zad (zag (zab (zcx ta24 ti24 rfl (zac rfl (zaf rfl rfl (zaa rfl) (zam rfl rfl (hE0) (zae rfl (zae rfl zap))) (zac rfl (zac rfl (zac rfl (zac rfl (zac rfl (zad (zag (zab (zac rfl (zaf rfl rfl (zaa rfl) (zq2 rfl ts28 ti29 rfl rfl rfl rfl) (zac rfl (zad ?_))))))))))))))))))))))))))))))
 refine zag (zab (zaf rfl rfl (zaa rfl) (z0c rfl ts29 ti3 rfl rfl rfl rfl) (zac rfl (zad (zag (zab (zac rfl (zad (zag (zag (zab (zac rfl (zad (zai (zas ?_)))))))))))))))
 refine zbg (zkv (d := 16) (x := .s (.slice none 0 0)) 3 rfl (.inr rfl)) ?_
 have hI0 : BI (nxD n w c) s0.1 most (okS n w) ⟨[s0.1], []⟩ := .init hsk (by omega)
 refine zb1 (S := Nat × Gr) (fun p => [(1, eL eS w), (3, eI most), (4, .ref (eN n).cells), (6, .ref (eC c).cells), (12, eL eI e0.1), (14, .own 0 1 p.2.st.length), (15, .own 1 1 p.2.st.length), (16, .own 2 3 p.2.ed.length), (17, eI p.1)]) (fun p => stL p.2) (fun p => BI (nxD n w c) s0.1 most (okS n w) p.2 ∧ p.1 ≤ p.2.st.length ∧ (∀ i', i' < p.1 → Dl.Clo (nxD n w c) p.2 i' (nxD n w c (gti p.2.st i')).length) ∧ p.2.ed.length ≤ 4000 * p.1 ∧ bfsD (nxD n w c) most (most.toNat + 1 - p.1) p.1 p.2 = R0) (fun p => most.toNat + 1 - p.1) (0, ⟨[s0.1], []⟩)
  (zb8 [2, 3, 4] (by decide) ⟨⟨_, rfl, .rowE (zde _) rfl⟩, ⟨_, rfl, .rowE (zf0 _) rfl⟩, ⟨_, rfl, .rowE (by simp) rfl⟩, trivial⟩ ⟨.lo _ (lo_W w), .lo _ (.s _), .lo _ hln, .lo _ hlc, .lo _ lo_I, .own 2 0 1 _ _ rfl rfl, .own 3 1 1 _ _ rfl rfl, .own 4 2 3 _ _ rfl rfl, .lo _ (.s _), trivial⟩) ⟨hI0, by simp, fun i' h => by omega, by simp, hR0⟩ (fun p hp => ?_)
 obtain ⟨i, g⟩ := p
 obtain ⟨hB, hi, hC, hEl, hE⟩ := hp
 replace hi : i ≤ g.st.length := hi
 replace hE : bfsD (nxD n w c) most (most.toNat + 1 - i) i g = R0 := hE
 replace hB : BI (nxD n w c) s0.1 most (okS n w) g := hB
 replace hEl : g.ed.length ≤ 4000 * i := hEl
 have hle : (g.st.length : Int) ≤ most := hB.le
 refine zag (zag (zab (zac rfl (zac rfl (zaf rfl rfl (zaa rfl) (zc7 rfl ts28 rfl) ?_)))))
 refine za3 rfl rfl (zaa rfl) (za2 rfl rfl rfl) (fun h45 => ?_) (fun h45 => ?_)
 all_goals refine zad (zai ?_)
 all_goals (first | refine za5 rfl ?_ | refine zau rfl ?_)
 all_goals (repeat (first | refine zag ?_ | refine zar ?_ | refine zas ?_))
 all_goals dsimp only at h45
 rotate_left 1
 ·
  have e : i = g.st.length := by omega
  subst e
  have hf0 : most.toNat + 1 - g.st.length = most.toNat - g.st.length + 1 := by omega
  rw [hf0] at hE
  unfold bfsD at hE
  rw [if_neg (by omega)] at hE
  rw [← hE] at HI
  replace HI : R = zh9 n w g := HI
  rw [hlg] at HI
  have hpos : 0 < g.st.length := by have := (List.getElem?_eq_some_iff.1 hB.h0).1; exact this
  have hEO : EOk g.st.length g.ed := fun e he => ⟨(hB.eok e he).1, (hB.eok e he).2.1, (hB.eok e he).2.2.1⟩
  have hce : ∀ e ∈ g.ed, e.c ≤ 1000 := fun e he => (hB.eok e he).2.2.2.1
  obtain ⟨RF, hRF⟩ : ∃ RF, relW (revL g.ed) (farI g.st.length) = RF := ⟨_, rfl⟩
  rw [hRF] at HI
  have hF0 : Dl.FOk g.st.length (revL g.ed) 4503599627370496 0 (Dl.Way (revL g.ed) 0) (farI g.st.length) := zju (by omega) hpos
  have hBX : ∀ far : List Int, Dl.FOk g.st.length (revL g.ed) 4503599627370496 0 (Dl.Way (revL g.ed) 0) far → ∀ k, k < g.st.length → (far.map eI)[k]? = some (eI (gti far k)) ∧ 0 ≤ gti far k ∧ gti far k ≤ 4503599627370496 := fun far h k hk => ⟨zbb (by rw [h.len]; exact hk), gnn h.nn k, h.le k hk⟩
  have hsl : (g.st.map (eL eI)).length = g.st.length := by simp
  (refine zb9 ?_; repeat (first | refine zcr ?_ | refine zbt ?_ | refine zbk rfl ?_ | refine zbl ?_ | refine zai ?_ | refine zag ?_ | refine zar ?_ | refine zas ?_))
  refine zbg (zbm (id := 2) rfl) ?_
  refine zbg (zoh (d := 16) rfl rfl (by simp)) ?_
  refine zab (zac rfl (zad (zai (zas ?_))))
  refine zb1 (S := List Int × Bool) (fun p => [(12, eL eI e0.1), (14, .own 0 1 g.st.length), (15, .own 1 1 g.st.length), (16, eL eEd g.ed), (23, eB p.2)]) (fun p => [.row 1 (g.st.map (eL eI)), .row 1 (p.1.map eI)]) (fun p => Dl.FOk g.st.length (revL g.ed) 4503599627370496 0 (Dl.Way (revL g.ed) 0) p.1 ∧ (if p.2 = true then relW (revL g.ed) p.1 = RF else p.1 = RF)) (fun p => p.1.sum.toNat * 2 + (if p.2 = true then 1 else 0)) (farI g.st.length, true)
   (zb8 [0, 1] (by decide) ⟨⟨_, rfl, .rowE (zde _) rfl⟩, ⟨_, rfl, .rowE (zf0 _) rfl⟩, trivial⟩ ⟨.lo _ lo_I, .own 0 0 1 _ _ rfl rfl, .own 1 1 1 _ _ rfl rfl, .lo _ (zan fun e => zpf e), .lo _ (.s _), trivial⟩) ⟨hF0, by rw [if_pos rfl]; exact hRF⟩ (fun p hp => ?_)
  obtain ⟨far, ch⟩ := p
  obtain ⟨hfar, hrl⟩ := hp
  replace hfar : Dl.FOk g.st.length (revL g.ed) 4503599627370496 0 (Dl.Way (revL g.ed) 0) far := hfar
  replace hrl : if ch = true then relW (revL g.ed) far = RF else far = RF := hrl
  refine zag (zag (zab (zac rfl (zad (zai ?_)))))
  cases ch with
  | false =>
   rw [if_neg (by decide)] at hrl
   subst hrl
   refine zau rfl ?_
   (refine zb9 ?_; repeat (first | refine zcr ?_ | refine zbt ?_ | refine zbk rfl ?_ | refine zbl ?_ | refine zai ?_ | refine zag ?_ | refine zar ?_ | refine zas ?_))
   have hfi := zkg (P := P) g.st e0.1
   by_cases hf : zef g.st e0.1 < 0
   ·
    rw [if_pos hf] at HI
    refine zab (zac rfl (zac rfl ?_))
    refine zaf rfl rfl (zaa rfl) (zcv rfl rfl (hfi) (by repeat' (first | exact zbd.nil | refine zbd.cons ?_ ?_ | exact .own _ _ _ _ _ rfl rfl (by first | rfl | simp) | exact .refl _)) (by repeat' (first | exact Flat.s _ | exact zfn | refine ze4 ?_ ?_ | refine Flat.agg ?_ | refine Flat.tup ?_))) ?_
    refine zac rfl (zad (zag (zag (zab (zac rfl (zaf rfl rfl (zaa rfl) (zdc hf (za2 rfl rfl rfl)) (zad (zai (za5 rfl (zag (zab (zac rfl (zac rfl (zad (zai ?_)))))))))))))))
    (refine za7 ?_; repeat (first | refine zbc ?_ | refine zbe ?_))
    subst HI
    exact zqt (.inr rfl) rfl rfl (.refl _) (.refl _)
   ·
    rw [if_neg hf] at HI
    obtain ⟨p1, p2, p3⟩ := zhb hf
    obtain ⟨r1, r2, r3⟩ := hBX far hfar _ p2
    refine zab (zac rfl (zac rfl ?_))
    refine zaf rfl rfl (zaa rfl) (zcv rfl rfl (hfi) (by repeat' (first | exact zbd.nil | refine zbd.cons ?_ ?_ | exact .own _ _ _ _ _ rfl rfl (by first | rfl | simp) | exact .refl _)) (by repeat' (first | exact Flat.s _ | exact zfn | refine ze4 ?_ ?_ | refine Flat.agg ?_ | refine Flat.tup ?_))) ?_
    refine zac rfl (zad (zag (zag (zab (zac rfl (zaf rfl rfl (zaa rfl) (zeg hf (za2 rfl rfl rfl)) (zad (zai (zau rfl (zar (zag (zab (zac rfl (zac rfl (zaf rfl rfl (zaa rfl) (za0 rfl ts29 ti3 rfl rfl (k := idx g.st e0.1) p3.symm p2) (zaf rfl rfl (zaa rfl) (zaq rfl ta3 rfl rfl rfl r1 rfl) (zac rfl (zac rfl (zad (zai ?_))))))))))))))))))))
    (refine za7 ?_; repeat (first | refine zbc ?_ | refine zbe ?_))
    subst HI
    exact zqt (.inr rfl) rfl rfl (.refl _) (.refl _)
  | true =>
   rw [if_pos rfl] at hrl
   refine za5 rfl (zar (zai (zas (zag (zab (zac rfl (zad (zag (zab (zac rfl (zad (zai (zas ?_)))))))))))))
   refine zb1 (S := Nat) (fun k => [(12, eL eI e0.1), (14, .own 0 1 g.st.length), (15, .own 1 1 g.st.length), (16, eL eEd g.ed), (23, eB (fwK g.ed k far).2), (24, eI k)]) (fun k => [.row 1 (g.st.map (eL eI)), .row 1 ((fwK g.ed k far).1.map eI)]) (fun k => k ≤ g.ed.length) (fun k => g.ed.length - k) 0
    (zel _ ⟨rfl, rfl, rfl, rfl, rfl, rfl, trivial⟩) (Nat.zero_le _) (fun k hk => ?_)
   replace hk : k ≤ g.ed.length := hk
   refine zag (zag (zab (zac rfl (zac rfl (zaf rfl rfl (zaa rfl) (zao rfl ztj rfl) ?_)))))
   refine za3 rfl rfl (zaa rfl) (za2 rfl rfl rfl) (fun h109 => ?_) (fun h109 => ?_)
   all_goals refine zad (zai ?_)
   all_goals (first | refine za5 rfl ?_ | refine zau rfl ?_)
   all_goals (repeat (first | refine zag ?_ | refine zar ?_ | refine zas ?_))
   rotate_left 1
   ·
    have hke : k = g.ed.length := by omega
    subst hke
    rw [z1w]
    obtain ⟨b1, b2, b3, b4, b5⟩ := zl4 (revL g.ed) (zqm hEO) Dl.way_W far hfar
    have hst2 := fun hc => zk4 (zqm hEO) Dl.way_W hfar hc
    have hsp := fun hc => zi0 (M := revL g.ed) (far := far) hc
    generalize bkR (revL g.ed) far = s at b1 b2 b3 b4 b5 hst2 hsp
    obtain ⟨f2, c2⟩ := s
    (refine zb9 ?_; repeat (first | refine zcr ?_ | refine zbt ?_ | refine zbk rfl ?_ | refine zbl ?_ | refine zai ?_ | refine zag ?_ | refine zar ?_ | refine zas ?_))
    refine ⟨(f2, c2), ⟨b1, ?_⟩, ?_, zel _ ⟨rfl, rfl, rfl, rfl, rfl, trivial⟩⟩
    ·
     show if c2 = true then relW (revL g.ed) f2 = RF else f2 = RF
     cases c2 with
     | true => rw [if_pos rfl, ← (hst2 rfl).1]; exact hrl
     | false => rw [if_neg (by decide)]; rw [hsp rfl] at hrl; exact (b5 rfl).1.trans hrl
    ·
     show f2.sum.toNat * 2 + (if c2 = true then 1 else 0) < far.sum.toNat * 2 + 1
     cases c2 with
     | true => have := (hst2 rfl).2; simp at this ⊢; omega
     | false => have h1 : f2 = far := (b5 rfl).1; rw [h1]; simp
   have hkt : k < g.ed.length := by omega
   have hfk := fwK_ok hEO hfar k
   have hsu := zy7 hkt far
   have hie : (g.ed.map eEd)[k]? = some (eEd (gti g.ed k)) := zbb hkt
   have hEm := gti_mem hkt
   obtain ⟨ha, hb, hc0⟩ := hEO _ hEm
   have hc1 := hce _ hEm
   generalize gti g.ed k = ed at hie ha hb hc0 hc1 hsu
   generalize fwK g.ed k far = s at hfk hsu ⊢
   obtain ⟨fk, ck⟩ := s
   replace hfk : Dl.FOk g.st.length (revL g.ed) 4503599627370496 0 (Dl.Way (revL g.ed) 0) fk := hfk
   replace hsu : fwK g.ed (k + 1) far = if gti fk ed.a + ed.c < gti fk ed.b then (fk.set ed.b (gti fk ed.a + ed.c), true) else (fk, ck) := hsu
   obtain ⟨ra, ra0, ra1⟩ := hBX fk hfk ed.a ha
   obtain ⟨rb, rb0, rb1⟩ := hBX fk hfk ed.b hb
   obtain ⟨ea, eb, ec⟩ := ed
   dsimp only at ha hb hc0 hc1 hsu ra ra0 ra1 rb rb0 rb1 ⊢
   have hle : Lo 0 (.ref (eEd ⟨ea, eb, ec⟩).cells) := .ref _ (zpf _).cells
   refine zab (zac rfl (zac rfl (zaf rfl rfl (zaa rfl) (zal rfl ztj zl8 rfl rfl rfl hie rfl) (zcx ta126 zl8 rfl (zaf rfl rfl (zaa rfl) (za1 rfl zl8 rfl rfl) (zba rfl (zaa rfl) (zaj rfl zl8 rfl rfl rfl rfl rfl rfl (by decide) (by decide)) (zad (zag ?_))))))))
   refine zbg (zbm (id := 2) rfl) ?_
   refine zbg (zcb (d := 25) rfl rfl rfl) ?_
   refine zb2 hmix ?_
   refine zc1 ?_
   refine ex_s rfl (zay rfl rfl (zaa rfl) (fun _ => (zbf rfl ar3 ti3 rfl rfl (i := 0) rfl (by decide))) (ex_l ta3 rfl (zay rfl rfl (zaa rfl) (fun _ => (za0 rfl ts29 ti3 rfl rfl (k := ea) rfl ha)) (zbv rfl rfl (zaa rfl) (zbr rfl ta3 rfl rfl rfl ra rfl) (zay rfl rfl (zaa rfl) (fun _ => (zbf rfl ar3 ti3 rfl rfl (i := 2) rfl (by decide))) (ex_l ta3 rfl ?_))))))
   refine zay rfl rfl (zaa rfl) (fun _ => (zax rfl rfl rfl (IntWalk.i64_in _ (by dsimp only; omega)))) ?_
   refine ex_s rfl (zay rfl rfl (zaa rfl) (fun _ => (zbf rfl ar3 ti3 rfl rfl (i := 1) rfl (by decide))) (ex_l ta3 rfl (zay rfl rfl (zaa rfl) (fun _ => (za0 rfl ts29 ti3 rfl rfl (k := eb) rfl hb)) (zbv rfl rfl (zaa rfl) (zbr rfl ta3 rfl rfl rfl rb rfl) (zay rfl rfl (zaa rfl) (fun _ => (za2 rfl rfl rfl)) ?_)))))
   refine zcf (by kernel_rfl) ?_
   refine zai ?_
   refine zrl rfl (fun hlt => ?_) (fun hlt => ?_)
   ·
    replace hlt : gti fk ea + ec < gti fk eb := hlt
    rw [if_pos hlt] at hsu
    refine zag ?_
    refine zb2 hmix ?_
    refine zc1 ?_
    refine ex_s rfl (zay rfl rfl (zaa rfl) (fun _ => (zbf rfl ar3 ti3 rfl rfl (i := 1) rfl (by decide))) (ex_l ta3 rfl (ex_s rfl (zay rfl rfl (zaa rfl) (fun _ => (zbf rfl ar3 ti3 rfl rfl (i := 0) rfl (by decide))) (ex_l ta3 rfl (zay rfl rfl (zaa rfl) (fun _ => (za0 rfl ts29 ti3 rfl rfl (k := ea) rfl ha)) (zbv rfl rfl (zaa rfl) (zbr rfl ta3 rfl rfl rfl ra rfl) (zay rfl rfl (zaa rfl) (fun _ => (zbf rfl ar3 ti3 rfl rfl (i := 2) rfl (by decide))) (ex_l ta3 rfl ?_)))))))))
    refine zay rfl rfl (zaa rfl) (fun _ => (zax rfl rfl rfl (IntWalk.i64_in _ (by dsimp only; omega)))) ?_
    refine zay rfl rfl (zaa rfl) (fun _ => (za0 rfl ts29 ti3 rfl rfl (k := eb) rfl hb)) ?_
    refine zci rfl (zaa rfl) (zaj rfl ti3 rfl rfl rfl rb rfl rfl (by decide) (by decide)) (fun _ h => zbw h) ?_
    refine zcf (by kernel_rfl) ?_
    refine zai (zab (zac rfl (zad (zbl (zai (zab (zac rfl (zaf rfl rfl (zaa rfl) (zax rfl rfl rfl (IntWalk.i64_in _ (by omega))) (zac rfl (zad (zai ?_)))))))))))
    have hm : (fk.map eI).set eb (eI (gti fk ea + ec)) = ((fwK g.ed (k + 1) far).1).map eI := by rw [hsu, List.map_set]
    exact ⟨k + 1, by omega, by omega, zb8 [0, 1] (by decide) ⟨⟨_, rfl, .rowE (zde _) rfl⟩, ⟨_, rfl, .rowE (zf0 _) hm⟩, trivial⟩ ⟨.lo _ lo_I, .own 0 0 1 _ _ rfl rfl, .own 1 1 1 _ _ rfl rfl, .lo _ (zan fun e => zpf e), by rw [hsu]; exact .lo _ (.s _), .lo _ (.s _), trivial⟩⟩
   ·
    replace hlt : ¬ gti fk ea + ec < gti fk eb := hlt
    rw [if_neg hlt] at hsu
    refine zar (zbl (zai (zab (zac rfl (zaf rfl rfl (zaa rfl) (zax rfl rfl rfl (IntWalk.i64_in _ (by omega))) (zac rfl (zad (zai ?_))))))))
    exact ⟨k + 1, by omega, by omega, by rw [hsu]; exact zb8 [0, 1] (by decide) ⟨⟨_, rfl, .rowE (zde _) rfl⟩, ⟨_, rfl, .rowE (zf0 _) rfl⟩, trivial⟩ ⟨.lo _ lo_I, .own 0 0 1 _ _ rfl rfl, .own 1 1 1 _ _ rfl rfl, .lo _ (zan fun e => zpf e), .lo _ (.s _), .lo _ (.s _), trivial⟩⟩
 have hlt : i < g.st.length := by omega
 have hf : most.toNat + 1 - i = most.toNat - i + 1 := by omega
 rw [hf] at hE
 unfold bfsD at hE
 rw [if_pos hlt] at hE
 have hx0 := hB.ok _ (gti_mem hlt)
 have hxi : g.st[i]? = some (gti g.st i) := zdh hlt
 have hCi : Dl.Clo (nxD n w c) g i 0 := fun k r hk => by omega
 generalize gti g.st i = x at hE hx0 hxi
 have hix : (g.st.map (eL eI))[i]? = some (eL eI x) := by rw [List.getElem?_map, hxi]; rfl
 have hM := zo2 (P := P) n w x hx0
 have hml := fun m hm => zgk (m := m) hx0 hm
 have hmlen := zho hx0
 have hnx : nxD n w c x = (zds n w x).map fun m => ((zd2 n w x m).1, zd4 c m.kind) := rfl
 rw [hnx] at hE
 generalize zds n w x = ml at hM hE hml hmlen hnx
 generalize hK : bfsD (nxD n w c) most (most.toNat - i) (i + 1) = K at hE
 refine zb2 hmix ?_
 refine zc1 ?_
 refine ex_w ta24 ti24 rfl (ex_s rfl (ex_s rfl (ex_s rfl (zay rfl rfl (zaa rfl) (fun _ => (za0 rfl ts28 ti29 rfl rfl rfl hlt)) (zbv rfl rfl (zaa rfl) (zbr rfl ta29 rfl rfl rfl hix rfl) (zay rfl rfl (zaa rfl) (fun _ => (zam rfl rfl (hM) (zae rfl (zae rfl (zae rfl zap))))) (ex_s rfl ?_)))))))
 refine zcf (by kernel_rfl) ?_
 refine zag (zab (zac rfl (zad (zai (zas ?_)))))
 refine zb1 (S := Nat × Gr) (fun p => [(1, eL eS w), (3, eI most), (4, .ref (eN n).cells), (6, .ref (eC c).cells), (12, eL eI e0.1), (14, .own 0 1 p.2.st.length), (15, .own 1 1 p.2.st.length), (16, .own 2 3 p.2.ed.length), (17, eI i), (18, eL eSt ml), (19, eI p.1)]) (fun p => stL p.2)
  (fun p => p.1 ≤ ml.length ∧ BI (nxD n w c) s0.1 most (okS n w) p.2 ∧ p.2.st[i]? = some x ∧ (∀ i', i' < i → Dl.Clo (nxD n w c) p.2 i' (nxD n w c (gti p.2.st i')).length) ∧ Dl.Clo (nxD n w c) p.2 i p.1 ∧ p.2.ed.length ≤ 4000 * i + p.1 ∧ (rowD most i ((ml.map fun m => ((zd2 n w x m).1, zd4 c m.kind)).drop p.1) p.2).bind K = R0) (fun p => ml.length - p.1) (0, g)
  (zel _ ⟨rfl, rfl, rfl, rfl, rfl, rfl, rfl, rfl, rfl, rfl, rfl, trivial⟩) ⟨Nat.zero_le _, hB, hxi, hC, hCi, by simpa using hEl, hE⟩ (fun p hp => ?_)
 clear hE hB hle hxi hix hlt hi hf hC hCi hEl
 obtain ⟨q, g⟩ := p
 obtain ⟨hq, hB, hxi, hC, hCi, hEl, hE⟩ := hp
 replace hq : q ≤ ml.length := hq
 replace hB : BI (nxD n w c) s0.1 most (okS n w) g := hB
 replace hxi : g.st[i]? = some x := hxi
 replace hEl : g.ed.length ≤ 4000 * i + q := hEl
 replace hE : (rowD most i ((ml.map fun m => ((zd2 n w x m).1, zd4 c m.kind)).drop q) g).bind K = R0 := hE
 have hlt : i < g.st.length := (List.getElem?_eq_some_iff.1 hxi).1
 have hle : (g.st.length : Int) ≤ most := hB.le
 have hix : (g.st.map (eL eI))[i]? = some (eL eI x) := by rw [List.getElem?_map, hxi]; rfl
 have hgx : gti g.st i = x := zfa hxi
 have hsl : (g.st.map (eL eI)).length = g.st.length := by simp
 have hsm : (g.ed.map eEd).length = g.ed.length := by simp
 have hfl2 := zsn g.st.length
 have hfl : ((farI g.st.length).map eI).length = g.st.length := by rw [List.length_map, zsn]
 refine zag (zag (zab (zac rfl (zac rfl (zaf rfl rfl (zaa rfl) (zao rfl ts68 rfl) ?_)))))
 refine za3 rfl rfl (zaa rfl) (za2 rfl rfl rfl) (fun h58 => ?_) (fun h58 => ?_)
 all_goals refine zad (zai ?_)
 all_goals (first | refine za5 rfl ?_ | refine zau rfl ?_)
 all_goals (repeat (first | refine zag ?_ | refine zar ?_ | refine zas ?_))
 all_goals dsimp only at h58
 rotate_left 1
 ·
  have e : q = ml.length := by omega
  subst e
  rw [List.drop_of_length_le (by simp)] at hE
  (refine zb9 ?_; repeat (first | refine zcr ?_ | refine zbt ?_ | refine zbk rfl ?_ | refine zbl ?_ | refine zai ?_ | refine zag ?_ | refine zar ?_ | refine zas ?_))
  refine zab (zac rfl (zaf rfl rfl (zaa rfl) (zax rfl rfl rfl (IntWalk.i64_in _ (by omega))) (zac rfl (zad (zai ?_)))))
  refine ⟨(i + 1, g), ⟨hB, by show i + 1 ≤ g.st.length; omega, fun i' hi' => ?_, by show g.ed.length ≤ 4000 * (i + 1); omega, ?_⟩, by show most.toNat + 1 - (i + 1) < most.toNat + 1 - i; omega, zel _ ⟨rfl, rfl, rfl, rfl, rfl, rfl, rfl, rfl, rfl, trivial⟩⟩
  ·
   by_cases e : i' < i
   ·
    exact hC i' e
   ·
    have : i' = i := by omega
    subst this
    show Dl.Clo (nxD n w c) g i' (nxD n w c (gti g.st i')).length
    rw [hgx, hnx, List.length_map]; exact hCi
  ·
   show bfsD (nxD n w c) most (most.toNat + 1 - (i + 1)) (i + 1) g = R0
   rw [show most.toNat + 1 - (i + 1) = most.toNat - i by omega, hK]
   exact hE
 have hqt : q < ml.length := by omega
 have hdr : (ml.map fun m => ((zd2 n w x m).1, zd4 c m.kind)).drop q = ((zd2 n w x (gti ml q)).1, zd4 c (gti ml q).kind) :: (ml.map fun m => ((zd2 n w x m).1, zd4 c m.kind)).drop (q + 1) := by
  rw [← List.map_drop, zea hqt, List.map_cons, List.map_drop]
 have hiq : (ml.map eSt)[q]? = some (eSt (gti ml q)) := zbb hqt
 obtain ⟨hap, hkd, hoy⟩ := hml _ (gti_mem hqt)
 have hrm : (nxD n w c (gti g.st i))[q]? = some ((zd2 n w x (gti ml q)).1, zd4 c (gti ml q).kind) := by rw [hgx, hnx, List.getElem?_map, zdh hqt]; rfl
 rw [hdr] at hE
 have hA := zo5 (P := P) n w x (gti ml q)
 have hco := zvb (P := P) c (gti ml q)
 have hstep := fun g' h => hB.step hN hlt (List.mem_of_getElem? hrm) (g' := g') h
 have hAe : (zd2 n w x (gti ml q)).2 = 0 := hap
 generalize hm0 : gti ml q = m at hiq hA hco hstep hrm hE hoy hkd hap hAe
 generalize hy0 : zd2 n w x m = ya at hA hstep hrm hE hoy hAe
 obtain ⟨y, ye⟩ := ya
 replace hAe : ye = 0 := hAe
 subst hAe
 replace hoy : okS n w y := hoy
 have hrd : rowD most i ((y, zd4 c m.kind) :: (ml.map fun m => ((zd2 n w x m).1, zd4 c m.kind)).drop (q + 1)) g = (oneD most i (y, zd4 c m.kind) g).bind (rowD most i ((ml.map fun m => ((zd2 n w x m).1, zd4 c m.kind)).drop (q + 1))) := rfl
 replace hE : (rowD most i ((y, zd4 c m.kind) :: (ml.map fun m => ((zd2 n w x m).1, zd4 c m.kind)).drop (q + 1)) g).bind K = R0 := hE
 rw [hrd] at hE
 have hfi := zkg (P := P) g.st y
 have key : ∀ g', oneD most i (y, zd4 c m.kind) g = some g' → BI (nxD n w c) s0.1 most (okS n w) g' ∧ g'.st[i]? = some x ∧ (∀ i', i' < i → Dl.Clo (nxD n w c) g' i' (nxD n w c (gti g'.st i')).length) ∧ Dl.Clo (nxD n w c) g' i (q + 1) ∧ g'.ed.length ≤ 4000 * i + (q + 1) ∧ (rowD most i ((ml.map fun m => ((zd2 n w x m).1, zd4 c m.kind)).drop (q + 1)) g').bind K = R0 := fun g' h => by
  obtain ⟨b1, b2, b3, b4⟩ := hstep g' h
  have hst : gti g'.st i = gti g.st i := by obtain ⟨T, hT⟩ := b2; rw [hT, zfb hlt]
  refine ⟨b1, ?_, fun i' hi' => ?_, fun k r hk hr => ?_, ?_, by rw [h] at hE; exact hE⟩
  ·
   obtain ⟨T, hT⟩ := b2; rw [hT, List.getElem?_append_left hlt]; exact hxi
  ·
   have := (hC i' hi').grow (by show i' < g.st.length; omega) b2 ⟨_, b3⟩
   have e : gti g'.st i' = gti g.st i' := by obtain ⟨T, hT⟩ := b2; rw [hT, zfb (by omega)]
   rw [e]; exact this
  ·
   by_cases hkq : k < q
   ·
    exact (Dl.Clo.grow hlt (show Dl.Clo (nxD n w c) g i q from hCi) b2 ⟨_, b3⟩) k r hkq hr
   ·
    have : k = q := by omega
    subst this
    rw [hst, hrm] at hr
    cases hr
    exact ⟨_, b4, by rw [b3]; simp⟩
  ·
   rw [b3]; simp; omega
 refine zb2 hmix ?_
 refine zc1 ?_
 refine ex_w ta24 ti24 rfl (ex_s rfl (ex_s rfl (ex_s rfl (zay rfl rfl (zaa rfl) (fun _ => (za0 rfl ts28 ti29 rfl rfl rfl hlt)) (zbv rfl rfl (zaa rfl) (zbr rfl ta29 rfl rfl rfl hix rfl) (ex_s rfl (ex_s rfl (zay rfl rfl (zaa rfl) (fun _ => (zal rfl ts68 ti37 rfl rfl rfl hiq rfl)) (ex_w ta37 ti37 rfl (zay rfl rfl (zaa rfl) (fun _ => (zam rfl rfl (hA) (zae rfl (zae rfl (zae rfl (zae rfl zap)))))) (ex_s rfl (ex_s rfl (ex_s rfl (ex_s rfl (ex_s rfl ?_)))))))))))))))
 refine zcf (by kernel_rfl) ?_
 refine zag ?_
 by_cases hf : zef g.st y < 0
 ·
  refine zab (zac rfl (zac rfl ?_))
  refine zaf rfl rfl (zaa rfl) (zcv rfl rfl (hfi) (by repeat' (first | exact zbd.nil | refine zbd.cons ?_ ?_ | exact .own _ _ _ _ _ rfl rfl (by first | rfl | simp) | exact .refl _)) (by repeat' (first | exact Flat.s _ | exact zfn | refine ze4 ?_ ?_ | refine Flat.agg ?_ | refine Flat.tup ?_))) ?_
  refine zac rfl (zad (zag (zag (zab (zac rfl (zaf rfl rfl (zaa rfl) (zdc hf (za2 rfl rfl rfl)) (zad (zai (za5 rfl (zag (zag (zab (zac rfl (zaf rfl rfl (zaa rfl) (zc7 rfl ts28 rfl) (zac rfl ?_)))))))))))))))
  refine za3 rfl rfl (zaa rfl) (zbn rfl rfl rfl) (fun h83 => ?_) (fun h83 => ?_)
  all_goals refine zad (zai ?_)
  all_goals (first | refine za5 rfl ?_ | refine zau rfl ?_)
  all_goals (repeat (first | refine zag ?_ | refine zar ?_))
  all_goals dsimp only at h83
  ·
   have hstep2 : oneD most i (y, zd4 c m.kind) g = none := by unfold oneD; rw [if_pos ⟨hf, by omega⟩]
   rw [hstep2] at hE
   replace hE : none = R0 := hE
   rw [← hE] at HI
   refine zab (zac rfl (zac rfl (zad (zai ?_))))
   (refine za7 ?_; repeat (first | refine zbc ?_ | refine zbe ?_))
   subst HI
   exact zqt (.inr rfl) rfl rfl (.refl _) (.refl _)
  ·
   have hstep2 : oneD most i (y, zd4 c m.kind) g = some ⟨g.st ++ [y], g.ed ++ [⟨i, g.st.length, zd4 c m.kind⟩]⟩ := by unfold oneD; rw [if_neg (by rintro ⟨_, h⟩; omega), if_pos hf, zra hf]
   obtain ⟨g1, g2, g3, g4, g5, g6⟩ := key _ hstep2
   refine zab (zac rfl (zaf rfl rfl (zaa rfl) (zc7 rfl ts28 rfl) (zac rfl (zad (zag (zab (zac rfl (zac rfl ?_))))))))
   refine zaf rfl rfl (zaa rfl) (zse rfl ts28 ti29 rfl rfl rfl rfl (zan fun _ => .s _)) ?_
   refine zaf rfl rfl (zaa rfl) (zbq rfl ts28 ti29 rfl (by decide) rfl rfl (by first | rfl | (simp; done) | (simp; omega)) rfl (by first | exact .own _ _ _ rfl rfl _ (by first | rfl | simp) | exact .emp | exact .nil | exact .sl _ (by first | simp; done | intro e he; simp at he; obtain ⟨_, _, rfl⟩ := he; rfl)) (by first | omega | (simp; omega) | (unfold maxLen; simp; omega)) (by first | omega | (simp; omega) | (unfold maxLen; simp; omega))) ?_
   refine zac rfl (zad (zai (zab (zac rfl (zaf rfl rfl (zaa rfl) (zik rfl ts29 ti3 rfl rfl rfl rfl) ?_)))))
   refine zaf rfl rfl (zaa rfl) (zbq rfl ts29 ti3 rfl (by decide) rfl rfl hfl.symm rfl (by first | exact .own _ _ _ rfl rfl _ (by first | rfl | simp) | exact .emp | exact .nil | exact .sl _ (by first | simp; done | intro e he; simp at he; obtain ⟨_, _, rfl⟩ := he; rfl)) (by first | omega | (simp; omega) | (unfold maxLen; simp; omega)) (by first | omega | (simp; omega) | (unfold maxLen; simp; omega))) ?_
   refine zac rfl (zad (zai ?_))
   refine zb2 hmix ?_
   refine zc1 ?_
   refine ex_s rfl (ex_s rfl (ex_s rfl (ex_w ta27 ti27 rfl (ex_s rfl (ex_s rfl (zay rfl rfl (zaa rfl) (fun _ => (zal rfl ts68 ti37 rfl rfl rfl hiq rfl)) (ex_w ta37 ti37 rfl (zay rfl rfl (zaa rfl) (fun _ => (zam rfl rfl (hco) (zae rfl (zae rfl zap)))) (zay rfl rfl (zaa rfl) (fun _ => (zib rfl zl8 ar3 ti3 rfl rfl)) ?_)))))))))
   refine zay rfl rfl (zaa rfl) (fun _ => (zco rfl ztj zl8 rfl rfl (by decide) (by decide) rfl rfl rfl (by repeat' (first | exact Lo.s _ | exact zak | refine zah ?_ ?_ | refine zan ?_ | refine Lo.agg _ ?_ | refine Lo.sl _ ?_ | intro _)))) ?_
   refine zc9 rfl rfl (zaa rfl) (zbq rfl ztj zl8 rfl (by decide) rfl rfl (by first | rfl | (simp; done) | (simp; omega)) rfl (by first | exact .own _ _ _ rfl rfl _ (by first | rfl | simp) | exact .emp | exact .nil | exact .sl _ (by first | simp; done | intro e he; simp at he; obtain ⟨_, _, rfl⟩ := he; rfl)) (by first | omega | (simp; omega) | (unfold maxLen; simp; omega)) (by first | omega | (simp; omega) | (unfold maxLen; simp; omega))) (fun _ h => zct h) ?_
   refine ex_s rfl ?_
   refine zcf (by kernel_rfl) ?_
   refine zbl (zai (zab (zac rfl (zaf rfl rfl (zaa rfl) (zax rfl rfl rfl (IntWalk.i64_in _ (by omega))) (zac rfl (zad (zai ?_)))))))
   have hrow : (g.st ++ [y]).map (eL eI) = g.st.map (eL eI) ++ [eL eI y] := by simp
   have hfr : (farI (g.st ++ [y]).length).map eI = (farI g.st.length).map eI ++ [eI 4503599627370496] := by rw [List.length_append]; show (farI (g.st.length + 1)).map eI = _; rw [zwr (by omega), List.map_append]; rfl
   exact ⟨(q + 1, ⟨g.st ++ [y], g.ed ++ [⟨i, g.st.length, zd4 c m.kind⟩]⟩), ⟨by show q + 1 ≤ ml.length; omega, g1, g2, g3, g4, g5, g6⟩, by show ml.length - (q + 1) < ml.length - q; omega,
    zb8 [3, 4, 5] (by decide) ⟨⟨_, rfl, .rowE (zde _) hrow.symm⟩, ⟨_, rfl, .rowE (zf0 _) hfr.symm⟩, ⟨_, rfl, .rowE (zsq _) (by show _ = List.map eEd (_ ++ _); rw [List.map_append]; rfl)⟩, trivial⟩ ⟨.lo _ (lo_W w), .lo _ (.s _), .lo _ hln, .lo _ hlc, .lo _ lo_I, .own 3 0 1 _ _ rfl (by simp), .own 4 1 1 _ _ rfl (by simp [hfl2]), .own 5 2 3 _ _ rfl (by simp), .lo _ (.s _), .lo _ (zmz _), .lo _ (.s _), trivial⟩⟩
 ·
  obtain ⟨p1, p2, p3⟩ := zhb hf
  have hstep2 : oneD most i (y, zd4 c m.kind) g = some ⟨g.st, g.ed ++ [⟨i, idx g.st y, zd4 c m.kind⟩]⟩ := by unfold oneD; rw [if_neg (by rintro ⟨h, _⟩; exact hf h), if_neg hf]
  obtain ⟨g1, g2, g3, g4, g5, g6⟩ := key _ hstep2
  rw [← p3] at hfi
  refine zab (zac rfl (zac rfl ?_))
  refine zaf rfl rfl (zaa rfl) (zcv rfl rfl (hfi) (by repeat' (first | exact zbd.nil | refine zbd.cons ?_ ?_ | exact .own _ _ _ _ _ rfl rfl (by first | rfl | simp) | exact .refl _)) (by repeat' (first | exact Flat.s _ | exact zfn | refine ze4 ?_ ?_ | refine Flat.agg ?_ | refine Flat.tup ?_))) ?_
  refine zac rfl (zad (zag (zag (zab (zac rfl (zaf rfl rfl (zaa rfl) (zeg (by omega) (za2 rfl rfl rfl)) (zad (zai (zau rfl (zar (zai ?_)))))))))))
  refine zb2 hmix ?_
  refine zc1 ?_
  refine ex_s rfl (ex_s rfl (ex_s rfl (ex_w ta27 ti27 rfl (ex_s rfl (ex_s rfl (zay rfl rfl (zaa rfl) (fun _ => (zal rfl ts68 ti37 rfl rfl rfl hiq rfl)) (ex_w ta37 ti37 rfl (zay rfl rfl (zaa rfl) (fun _ => (zam rfl rfl (hco) (zae rfl (zae rfl zap)))) (zay rfl rfl (zaa rfl) (fun _ => (zib rfl zl8 ar3 ti3 rfl rfl)) ?_)))))))))
  refine zay rfl rfl (zaa rfl) (fun _ => (zco rfl ztj zl8 rfl rfl (by decide) (by decide) rfl rfl rfl (by repeat' (first | exact Lo.s _ | exact zak | refine zah ?_ ?_ | refine zan ?_ | refine Lo.agg _ ?_ | refine Lo.sl _ ?_ | intro _)))) ?_
  refine zc9 rfl rfl (zaa rfl) (zbq rfl ztj zl8 rfl (by decide) rfl rfl (by first | rfl | (simp; done) | (simp; omega)) rfl (by first | exact .own _ _ _ rfl rfl _ (by first | rfl | simp) | exact .emp | exact .nil | exact .sl _ (by first | simp; done | intro e he; simp at he; obtain ⟨_, _, rfl⟩ := he; rfl)) (by first | omega | (simp; omega) | (unfold maxLen; simp; omega)) (by first | omega | (simp; omega) | (unfold maxLen; simp; omega))) (fun _ h => zct h) ?_
  refine ex_s rfl ?_
  refine zcf (by kernel_rfl) ?_
  refine zbl (zai (zab (zac rfl (zaf rfl rfl (zaa rfl) (zax rfl rfl rfl (IntWalk.i64_in _ (by omega))) (zac rfl (zad (zai ?_)))))))
  exact ⟨(q + 1, ⟨g.st, g.ed ++ [⟨i, idx g.st y, zd4 c m.kind⟩]⟩), ⟨by show q + 1 ≤ ml.length; omega, g1, g2, g3, g4, g5, g6⟩, by show ml.length - (q + 1) < ml.length - q; omega,
   zb8 [0, 1, 3] (by decide) ⟨⟨_, rfl, .rowE (zde _) rfl⟩, ⟨_, rfl, .rowE (zf0 _) rfl⟩, ⟨_, rfl, .rowE (zsq _) (by show _ = List.map eEd (_ ++ _); rw [List.map_append]; rfl)⟩, trivial⟩ ⟨.lo _ (lo_W w), .lo _ (.s _), .lo _ hln, .lo _ hlc, .lo _ lo_I, .own 0 0 1 _ _ rfl rfl, .own 1 1 1 _ _ rfl rfl, .own 3 2 3 _ _ rfl (by simp), .lo _ (.s _), .lo _ (zmz _), .lo _ (.s _), trivial⟩⟩
end Aw
namespace Aw
open Go Go.RowKit Go.Proofs Go.Maps Go.WideMaps Dl
variable {P : Program} [IsP P]
def stP (P : Program) (g : Gr) : List Ob := [.row 3 [zPA], .row 1 (g.st.map (eL eI)), .mp (atX P g.st), .row 3 (g.ed.map eEd)]
set_option maxHeartbeats 4000000 in
theorem zr8 (n : Net) (w : List ByteArray) (c : Cst) (most : Int) : Pure P 19 [eN n, eL eS w, eC c, eI most] (eKP (zfs n w c most)) := by
 have HI : zfs n w c most = if (zd9 n w).2 ≠ 0 ∨ vcB c = false then (0, zPf, 1) else if most < 1 ∨ 2000 < most then (0, zPf, 2) else match bfsD (nxD n w c) most (most.toNat + 1) 0 ⟨[(zd9 n w).1], []⟩ with
  | none => (0, zPf, 13)
  | some g => finD n w g := rfl
 generalize zfs n w c most = R at HI ⊢
 have hS0 := znc (P := P) n w
 have hV0 := zit (P := P) c
 have hso := zf8 (n := n) (w := w)
 generalize hs0 : zd9 n w = s0 at hS0 HI hso
 generalize hvc : vcB c = vb at hV0 HI
 have hln : Lo 0 (.ref (eN n).cells) := .ref _ (lo_N n).cells
 have hlc : Lo 0 (.ref (eC c).cells) := .ref _ (lo_C c).cells
 refine aw_fnM (by rw [IsP.eq (P := P)]; exact Tryz.func19) rfl rfl rfl rfl rfl (zah (lo_N n) (zah (lo_W w) (zah (lo_C c) (zah (.s _) zak)))) (.tup _ (zah (.s _) (zah (zij _) (zah (.s _) zak)))) (by simp only [argF]; rfl) ?_
 refine zd1 (zd8 ?_)
 intro mkI
 refine zab (zaf rfl rfl (zaa rfl) (zb3 rfl rfl rfl rfl) ?_)
 refine za6 (zbm (id := 0) rfl) (za6 (zcb (d := 4) rfl rfl rfl) ?_)
 refine zaf rfl rfl (zaa rfl) (zb3 rfl rfl rfl rfl) ?_
 refine za6 (zbm (id := 1) rfl) (za6 (zcb (d := 6) rfl rfl rfl) ?_)
 refine zac rfl (zaf rfl rfl (zaa rfl) (za1 rfl ti32 rfl rfl) (zac rfl (zad (zd1 ?_))))
 clear mkI
 refine zd8 ?_
 intro mkI
 refine zab (zcx ta24 ti24 rfl (zac rfl (zaf rfl rfl (zaa rfl) (zam rfl rfl (hS0) (zae rfl (zae rfl zap))) (zac rfl (zac rfl (zac rfl (zac rfl (zac rfl (zad (zd1 (zd1 ?_)))))))))))
 clear mkI
 refine zd8 ?_
 intro mkI
 refine zab (zac rfl ?_)
 refine za3 rfl rfl (zaa rfl) (zbp rfl rfl rfl) (fun h45 => ?_) (fun h45 => ?_)
 all_goals refine zac rfl ?_
 all_goals (first | refine zcx ta27 ti27 rfl ?_ | refine za4 rfl ?_)
 all_goals (first | refine zcn rfl rfl (zat rfl rfl rfl) (zam rfl rfl (hV0) (zae rfl zap)) (fun h48 => ?_) (fun h48 => ?_) | refine za4 rfl ?_)
 all_goals (first | refine zaf rfl rfl (zat rfl rfl rfl) (zbj rfl rfl) ?_ | refine za4 rfl ?_)
 all_goals refine zac rfl (zad (zai ?_))
 all_goals (first | refine zfv rfl ?_ | refine ze1 rfl ?_)
 all_goals (repeat (first | refine zd1 ?_ | refine zc6 ?_))
 all_goals clear mkI
 all_goals first
  |
   refine zd8 ?_
   intro mkI
   refine zab (zaf rfl rfl (zaa rfl) (za9 rfl ti32 tp32 rfl rfl) (zac rfl (zba rfl (zaa rfl) (zaj rfl ti32 rfl rfl rfl rfl rfl rfl (by decide) (by decide)) (zac rfl (zad (zai ?_))))))
   all_goals clear mkI
   (refine zpa ?_; repeat (first | refine zbc ?_ | refine zbe ?_))
   refine zkh (.inr rfl) rfl ta32 ti32 rfl rfl rfl rfl rfl rfl (HI.trans (if_pos ?_))
   first | (left; assumption) | (right; assumption)
  | skip
 rw [if_neg (by rintro (h | h); exact h45 h; rw [h48] at h; cases h)] at HI
 refine zd8 ?_
 intro mkI
 refine zab (zac rfl ?_)
 refine za3 rfl rfl (zaa rfl) (za2 rfl rfl rfl) (fun h53 => ?_) (fun h53 => ?_)
 all_goals refine zac rfl ?_
 all_goals (first | refine zac rfl ?_ | refine za4 rfl ?_)
 all_goals (first | refine za3 rfl rfl (zat rfl rfl rfl) (zb0 rfl rfl rfl) (fun h56 => ?_) (fun h56 => ?_) | refine za4 rfl ?_)
 all_goals refine zac rfl (zad (zai ?_))
 all_goals (first | refine zfv rfl ?_ | refine ze1 rfl ?_)
 all_goals (repeat (first | refine zd1 ?_ | refine zc6 ?_))
 all_goals clear mkI
 all_goals first
  |
   refine zd8 ?_
   intro mkI
   refine zab (zaf rfl rfl (zaa rfl) (za9 rfl ti32 tp32 rfl rfl) (zac rfl (zba rfl (zaa rfl) (zaj rfl ti32 rfl rfl rfl rfl rfl rfl (by decide) (by decide)) (zac rfl (zad (zai ?_))))))
   all_goals clear mkI
   (refine zpa ?_; repeat (first | refine zbc ?_ | refine zbe ?_))
   exact zkh (.inr rfl) rfl ta32 ti32 rfl rfl rfl rfl rfl rfl (HI.trans (if_pos (by omega)))
  | skip
 rw [if_neg (by omega)] at HI
 have hs2 : s0.2 = 0 := Classical.byContradiction h45
 obtain ⟨hvn, hww, hse, hee, hsk, hek⟩ := hso hs2
 subst h48
 have hk := zio (P := P) hsk
 have hks := zil hsk
 have hN := zvu (n := n) (w := w) hvc
 obtain ⟨R0, hR0⟩ : ∃ R0, bfsD (nxD n w c) most (most.toNat + 1) 0 ⟨[s0.1], []⟩ = R0 := ⟨_, rfl⟩
 rw [hR0] at HI
 refine zd8 ?_
 intro mkI
 refine zab (zac rfl (zad (zd1 ?_)))
 clear mkI
 refine zd8 ?_
 intro mkI
 refine zab (zac rfl (zaf rfl rfl (zaa rfl) (zq2 rfl ts28 ti29 rfl rfl rfl rfl) (zac rfl (zad (zd1 ?_)))))
 clear mkI
 refine zd8 ?_
 intro mkI
 refine zab (zaf rfl rfl (zaa rfl) (zh3 rfl zjf) (zac rfl (zaf rfl rfl (zaa rfl) (zam rfl rfl (hk) (zae rfl zap)) ?_)))
 refine zba rfl (zaa rfl) (zf4 (.inr rfl) zjf tK9 rfl rfl ⟨rfl, rfl, rfl⟩ (by (try dsimp only); unfold maxLen; omega) rfl rfl (keyOf_string_mk tn9 (by first | assumption | (unfold maxLen; omega))) (plainElem_int tn3 (by first | rfl | assumption))) ?_
 refine zac rfl (zac rfl (zad (zd1 (zd1 ?_))))
 clear mkI
 refine zd8 ?_
 intro mkI
 refine zab (zac rfl (zad (zai (zes ?_))))
 clear mkI
 refine zg3 (fun [_] => zkv (d := 13) (x := .s (.slice none 0 0)) 3 rfl (.inr rfl)) ?_
 have hI0 : BI (nxD n w c) s0.1 most (okS n w) ⟨[s0.1], []⟩ := .init hsk (by omega)
 refine zi4 (S := Nat × Gr) (fun p => [(1, eL eS w), (3, eI most), (4, .ref (eN n).cells), (6, .ref (eC c).cells), (9, .ptr 0 3 0 0), (13, .own 3 3 p.2.ed.length), (14, .own 1 1 p.2.st.length), (15, .mp 2), (16, eI p.1)]) (fun p => stP P p.2) (fun p => BI (nxD n w c) s0.1 most (okS n w) p.2 ∧ p.1 ≤ p.2.st.length ∧ (∀ i', i' < p.1 → Dl.Clo (nxD n w c) p.2 i' (nxD n w c (gti p.2.st i')).length) ∧ p.2.ed.length ≤ 4000 * p.1 ∧ bfsD (nxD n w c) most (most.toNat + 1 - p.1) p.1 p.2 = R0) (fun p => most.toNat + 1 - p.1) (0, ⟨[s0.1], []⟩)
  (fun [_] => zb8 [2, 3, 4, 5] (by decide) ⟨⟨_, rfl, .rowE zj0 rfl⟩, ⟨_, rfl, .rowE (zde _) rfl⟩, ⟨_, rfl, zh5 rfl⟩, ⟨_, rfl, .rowE (by simp) rfl⟩, trivial⟩ ⟨.lo _ (lo_W w), .lo _ (.s _), .lo _ hln, .lo _ hlc, .ptr 2 0 3 0 0 rfl, .own 5 3 3 _ _ rfl rfl, .own 3 1 1 _ _ rfl rfl, .mp 4 2 rfl, .lo _ (.s _), trivial⟩) ⟨hI0, by simp, fun i' h => by omega, by simp, hR0⟩ (fun p hp => ?_)
 obtain ⟨i, g⟩ := p
 obtain ⟨hB, hi, hC, hEl, hE⟩ := hp
 replace hi : i ≤ g.st.length := hi
 replace hE : bfsD (nxD n w c) most (most.toNat + 1 - i) i g = R0 := hE
 replace hB : BI (nxD n w c) s0.1 most (okS n w) g := hB
 replace hEl : g.ed.length ≤ 4000 * i := hEl
 have hle : (g.st.length : Int) ≤ most := hB.le
 refine zd1 (zd1 (zd8 ?_))
 intro mkI
 refine zab (zac rfl (zac rfl (zaf rfl rfl (zaa rfl) (zc7 rfl ts28 rfl) ?_)))
 refine za3 rfl rfl (zaa rfl) (za2 rfl rfl rfl) (fun h68 => ?_) (fun h68 => ?_)
 all_goals refine zad (zai ?_)
 all_goals (first | refine zfv rfl ?_ | refine ze1 rfl ?_)
 all_goals (repeat (first | refine zd1 ?_ | refine zc6 ?_ | refine zes ?_))
 all_goals clear mkI
 all_goals dsimp only at h68
 rotate_left 1
 ·
  have e : i = g.st.length := by omega
  subst e
  have hf0 : most.toNat + 1 - g.st.length = most.toNat - g.st.length + 1 := by omega
  rw [hf0] at hE
  unfold bfsD at hE
  rw [if_neg (by omega)] at hE
  rw [← hE] at HI
  replace HI : R = finD n w g := HI
  have hen := zww (P := P) n w
  rw [finD] at HI
  have hee2 : (endE n w).2 = 0 := by rw [hee]
  generalize endE n w = e0 at hen hek HI hee2
  have hke := zio (P := P) hek
  have hkes := zil hek
  have hsms : ∀ z ∈ g.st, Small z := fun z hz => (hB.ok z hz).small
  have hpos : 0 < g.st.length := by have := (List.getElem?_eq_some_iff.1 hB.h0).1; exact this
  (refine zlg ?_; repeat (first | refine zcr ?_ | refine zbt ?_ | refine zbk rfl ?_ | refine zbl ?_ | refine zai ?_ | refine zd1 ?_ | refine zc6 ?_ | refine zes ?_))
  refine zd8 ?_
  intro mkI
  refine zab (zcx ta24 ti24 rfl (zac rfl (zaf rfl rfl (zaa rfl) (zam rfl rfl (hen) (zae rfl (zae rfl zap))) (zac rfl (zac rfl (zac rfl (zac rfl (zac rfl (zad (zd1 ?_))))))))))
  clear mkI
  by_cases hf : zef g.st e0.1 < 0
  ·
   have hno := zxl hek.small _ g.st rfl hsms (zf3.1 hf)
   rw [if_pos hf] at HI
   refine zd8 ?_
   intro mkI
   refine zab (zac rfl (zac rfl (zaf rfl rfl (zaa rfl) (zam rfl rfl (hke) (zae rfl zap)) ?_)))
   refine zaf rfl rfl (zaa rfl) (zgc rfl zjf tK9 rfl rfl ⟨rfl, rfl, rfl⟩ rfl (keyOf_string_mk tn9 hkes) ti3 (plainElem_int tn3 rfl) (by exact atKey_of_not_has hno _) hno) ?_
   refine zac rfl (zac rfl (zac rfl (zac rfl (zac rfl (zad (zd1 (zd1 ?_)))))))
   clear mkI
   refine zd8 ?_
   intro mkI
   refine zab (zac rfl (zaf rfl rfl (zaa rfl) (zbj rfl rfl) (zad (zai (zfv rfl (zd1 ?_))))))
   clear mkI
   refine zd8 ?_
   intro mkI
   refine zab (zaf rfl rfl (zaa rfl) (za9 rfl ti32 tp32 rfl rfl) (zac rfl (zba rfl (zaa rfl) (zaj rfl ti32 rfl rfl rfl rfl rfl rfl (by decide) (by decide)) (zac rfl (zad (zai ?_))))))
   clear mkI
   (refine zpa ?_; repeat (first | refine zbc ?_ | refine zbe ?_))
   exact zkh (.inr rfl) rfl ta32 ti32 rfl rfl rfl rfl rfl rfl HI
  rw [if_neg hf] at HI
  obtain ⟨p1, p2, p3⟩ := zhb hf
  have hmem : e0.1 ∈ g.st := List.mem_of_getElem? p1
  obtain ⟨hyes, hat⟩ := zrm hek.small _ g.st rfl hsms hB.nd hmem
  have hat2 : ∀ z, (atD g.st).atKey (.string (keyD e0.1)) z = .lit (.int .i64 (idx g.st e0.1 : Nat)) := fun z => by rw [hat z, p3]
  generalize idx g.st e0.1 = last at HI p1 p2 p3 hat2
  have hrep := z04 (P := P) (a := 1073741824) (n := g.st.length) ⟨by omega, by omega⟩
  have hEO : EOk g.st.length g.ed := fun e he => ⟨(hB.eok e he).1, (hB.eok e he).2.1, (hB.eok e he).2.2.1⟩
  have hce : ∀ e ∈ g.ed, e.c ≤ 1000 := fun e he => (hB.eok e he).2.2.2.1
  obtain ⟨RF, hRF⟩ : ∃ RF, farD g last = RF := ⟨_, rfl⟩
  have hFk0 : Dl.FOk g.st.length g.ed 1073741824 last (Dl.Way g.ed last) RF := hRF ▸ zzg (n := 0) hEO p2
  rw [hRF] at HI
  unfold farD at hRF
  have hF0 : Dl.FOk g.st.length g.ed 1073741824 last (Dl.Way g.ed last) ((List.replicate g.st.length 1073741824).set last 0) := zju (by omega) p2
  have hsl : (g.st.map (eL eI)).length = g.st.length := by simp
  have hml9 : g.ed.length ≤ 1000000000 := by omega
  refine zd8 ?_
  intro mkI
  refine zab (zac rfl (zac rfl (zaf rfl rfl (zaa rfl) (zam rfl rfl (hke) (zae rfl zap)) ?_)))
  refine zaf rfl rfl (zaa rfl) (zgc rfl zjf tK9 rfl rfl ⟨rfl, rfl, rfl⟩ rfl (keyOf_string_mk tn9 hkes) ti3 (plainElem_int tn3 rfl) (by exact hat2 _) hyes) ?_
  refine zac rfl (zac rfl (zac rfl (zac rfl (zac rfl (zad (zd1 (zd1 ?_)))))))
  clear mkI
  refine zd8 ?_
  intro mkI
  refine zab (zac rfl (zaf rfl rfl (zaa rfl) (zbj rfl rfl) (zad (zai (ze1 rfl (zc6 (zd1 ?_)))))))
  clear mkI
  refine zg3 (fun [_] => zbm (id := 3) rfl) ?_
  refine zg3 (fun [_] => zoh (d := 13) rfl rfl (by simp)) ?_
  refine zd8 ?_
  intro mkI
  refine zab (zaf rfl rfl (zaa rfl) (zik rfl ts29 ti3 rfl rfl rfl rfl) (zac rfl (zaf rfl rfl (zaa rfl) (zc7 rfl ts28 rfl) (zaf rfl rfl (zaa rfl) (zub rfl rfl (hrep) (zae rfl (zae rfl zap))) (zaf rfl rfl (zaa rfl) (za1 rfl ti29 rfl rfl) (zba rfl (zaa rfl) (zaj rfl ti29 rfl rfl rfl rfl rfl rfl (by decide) (by decide)) (zad (zd1 ?_))))))))
  clear mkI
  have hr0 : (List.replicate g.st.length (eI 1073741824))[last]? = some (eI 1073741824) := by rw [List.getElem?_replicate, if_pos p2]
  refine zd8 ?_
  intro mkI
  refine zab (zaf rfl rfl (zaa rfl) (zaq rfl ta29 rfl rfl rfl rfl rfl) (zac rfl ?_))
  refine zaf rfl rfl (zaa rfl) (za0 rfl ts29 ti3 rfl rfl rfl (by simpa using p2)) ?_
  refine zba rfl (zaa rfl) (zaj rfl ti3 rfl rfl rfl hr0 rfl rfl (by decide) (by decide)) (zad (zd1 (zd1 ?_)))
  clear mkI
  refine zd8 ?_
  intro mkI
  refine zab (zaf rfl rfl (zaa rfl) (za1 rfl ti4 rfl rfl) (zba rfl (zaa rfl) (zaj rfl ti4 rfl rfl rfl rfl rfl rfl (by decide) (by decide)) (zad (zai (zes ?_)))))
  clear mkI
  have hset : (List.replicate g.st.length (eI 1073741824)).set last (eI 0) = ((List.replicate g.st.length 1073741824).set last 0).map eI := by rw [List.map_set, List.map_replicate]
  have hBX : ∀ far : List Int, Dl.FOk g.st.length g.ed 1073741824 last (Dl.Way g.ed last) far → ∀ k, k < g.st.length → (far.map eI)[k]? = some (eI (gti far k)) ∧ 0 ≤ gti far k ∧ gti far k ≤ 1073741824 := fun far h k hk => ⟨zbb (by rw [h.len]; exact hk), gnn h.nn k, h.le k hk⟩
  refine zi4 (S := List Int × Bool) (fun p => [(1, eL eS w), (4, .ref (eN n).cells), (9, .ptr 0 3 0 0), (13, eL eEd g.ed), (14, .own 1 1 g.st.length), (31, .ptr 3 1 0 0), (32, .ptr 4 1 0 0)]) (fun p => stF g p.1 p.2) (fun p => Dl.FOk g.st.length g.ed 1073741824 last (Dl.Way g.ed last) p.1 ∧ (if p.2 = true then relW g.ed p.1 = RF else p.1 = RF)) (fun p => p.1.sum.toNat * 2 + (if p.2 = true then 1 else 0)) ((List.replicate g.st.length 1073741824).set last 0, true)
   (fun [_] => zb8 [0, 1, 4, 5, 6] (by decide) ⟨⟨_, rfl, .rowE zj0 rfl⟩, ⟨_, rfl, .rowE (zde _) rfl⟩, ⟨_, rfl, .rowE (zf0 _) hset⟩, ⟨_, rfl, zi3 (.own _ _ _ _ _ rfl (by simp))⟩, ⟨_, rfl, .rowE (by intro e he c hc; simp at he; subst he; simp [eB, AV.cells] at hc; subst hc; exact .s _) rfl⟩, trivial⟩ ⟨.lo _ (lo_W w), .lo _ hln, .ptr 0 0 3 0 0 rfl, .lo _ (zan fun e => zpf e), .own 1 1 1 _ _ rfl rfl, .ptr 5 3 1 0 0 rfl, .ptr 6 4 1 0 0 rfl, trivial⟩) ⟨hF0, by rw [if_pos rfl]; exact hRF⟩ (fun p hp => ?_)
  obtain ⟨far, ch⟩ := p
  obtain ⟨hfar, hrl⟩ := hp
  replace hfar : Dl.FOk g.st.length g.ed 1073741824 last (Dl.Way g.ed last) far := hfar
  replace hrl : if ch = true then relW g.ed far = RF else far = RF := hrl
  refine zd1 (zd1 (zd8 ?_))
  intro mkI
  refine zab (zaf rfl rfl (zaa rfl) (zaq rfl ta4 rfl rfl rfl rfl rfl) (zad (zai ?_)))
  clear mkI
  cases ch with
  | true =>
   rw [if_pos rfl] at hrl
   refine zfv rfl (zc6 (zd1 (zes (zd1 ?_))))
   have hbp := z2j (P := P) g.ed
   refine zd8 ?_
   intro mkI
   refine zab (zba rfl (zaa rfl) (zaj rfl ti4 rfl rfl rfl rfl rfl rfl (by decide) (by decide)) (zad (zd1 ?_)))
   clear mkI
   refine zd8 ?_
   intro mkI
   refine zab (zac rfl (zaf rfl rfl (zaa rfl) (zam rfl rfl (hbp) (zae rfl zap)) (zad (zai (zes ?_)))))
   clear mkI
   refine zg3 (fun [_] => zel [(1, eL eS w), (4, .ref (eN n).cells), (9, .ptr 0 3 0 0), (13, eL eEd g.ed), (14, .own 1 1 g.st.length), (31, .ptr 3 1 0 0), (32, .ptr 4 1 0 0), (161, .fn 120 [.ref [eL eEd g.ed]])] ⟨rfl, rfl, rfl, rfl, rfl, rfl, rfl, rfl, trivial⟩) ?_
   refine zyp (fun k => [(163, eEd (gti g.ed (g.ed.length - 1 - k))), (162, eI ((g.ed.length : Int) - 1 - k)), (1, eL eS w), (4, .ref (eN n).cells), (9, .ptr 0 3 0 0), (13, eL eEd g.ed), (14, .own 1 1 g.st.length), (31, .ptr 3 1 0 0), (32, .ptr 4 1 0 0), (161, .fn 120 [.ref [eL eEd g.ed]])])
    (fun k σ' => σ' = stF g (bkK g.ed k far).1 (bkK g.ed k far).2) (encs := encB g.ed) (len := g.ed.length) rfl
    (zfh (by rw [IsP.eq (P := P)]; exact Tryz.func120) rfl rfl)
    (fun G lb _ hsz hrp => zue g.ed hml9 G lb hsz hrp) (fun k => rfl)
    (zsl (zfg (lo_W w) (zfg (.ref _ (lo_N n).cells) (zfg (.ptr _ _ _ _ (by show _ < 5; decide)) (zfg (zan fun e => zpf e) (zfg (.own _ _ _ (by show _ < 5; decide)) (zfg (.ptr _ _ _ _ (by show _ < 5; decide)) (zfg (.ptr _ _ _ _ (by show _ < 5; decide)) (zfg (.fn _ _ (zah (.ref _ (zah (zan fun e => zpf e) zak)) zak)) zy8)))))))))
    (fun k G a hk hf hn => ps2_ok hf hn (by decide) (by decide) (.s _) (rep_3i _ _ _)) (by rw [zzp]; rfl) (fun k σ' hk hl hI r m => ?_) (fun σ' hl hI => ?_)
   ·
    subst hI
    have hEm := gti_mem (l := g.ed) (k := g.ed.length - 1 - k) (by omega)
    have hfk := bkK_ok hEO hfar k
    have hsu := zzq hk far
    obtain ⟨ha, hb, hc0⟩ := hEO _ hEm
    have hc1 := hce _ hEm
    generalize gti g.ed (g.ed.length - 1 - k) = ed at hEm ha hb hc0 hc1 hsu
    generalize bkK g.ed k far = s at hfk hsu
    obtain ⟨fk, ck⟩ := s
    replace hfk : Dl.FOk g.st.length g.ed 1073741824 last (Dl.Way g.ed last) fk := hfk
    obtain ⟨ra, ra0, ra1⟩ := hBX fk hfk ed.a ha
    obtain ⟨rb, rb0, rb1⟩ := hBX fk hfk ed.b hb
    have hsu2 : bkK g.ed (k + 1) far = if gti fk ed.b + ed.c < gti fk ed.a then (fk.set ed.a (gti fk ed.b + ed.c), true) else (fk, ck) := hsu
    rw [hsu2]
    refine zor rfl (fun _ _ h => h) ?_
    refine z14 rfl rfl (zaa rfl) (za1 rfl zoq rfl rfl) (zsp rfl (zaa rfl) (zaj rfl zoq rfl rfl rfl rfl rfl rfl (by decide) (by decide)) (zdj (zai (zx7 (zz3 ?_)))))
    refine zuw hmix rfl (fun _ _ h => h) ?_
    refine zsr ?_
    refine zbv rfl rfl (zaa rfl) (zbr rfl ta29 rfl rfl rfl rfl rfl) (ex_f zuo rfl (zbv rfl rfl (zaa rfl) (zbr rfl ta3 rfl rfl rfl rfl rfl) (zay rfl rfl (zaa rfl) (fun _ => (za0 rfl ts29 ti3 rfl rfl rfl hb)) (zbv rfl rfl (zaa rfl) (zbr rfl ta3 rfl rfl rfl rb rfl) (ex_f zun rfl (zbv rfl rfl (zaa rfl) (zbr rfl ta3 rfl rfl rfl rfl rfl) (zay rfl rfl (zaa rfl) (fun _ => (zax rfl rfl rfl (IntWalk.i64_in _ (by omega)))) (zbv rfl rfl (zaa rfl) (zbr rfl ta29 rfl rfl rfl rfl rfl) (ex_f zup rfl ?_)))))))))
    refine zbv rfl rfl (zaa rfl) (zbr rfl ta3 rfl rfl rfl rfl rfl) (zay rfl rfl (zaa rfl) (fun _ => (za0 rfl ts29 ti3 rfl rfl rfl ha)) (zbv rfl rfl (zaa rfl) (zbr rfl ta3 rfl rfl rfl ra rfl) (zay rfl rfl (zaa rfl) (fun _ => (za2 rfl rfl rfl)) ?_)))
    refine zcf (by kernel_rfl) ?_
    refine zai ?_
    refine rw_if rfl (fun hlt => ?_) (fun hlt => ?_)
    ·
     replace hlt : gti fk ed.b + ed.c < gti fk ed.a := hlt
     refine zz3 ?_
     refine zuw hmix rfl (fun _ _ h => h) ?_
     refine zsr ?_
     refine zbv rfl rfl (zaa rfl) (zbr rfl ta29 rfl rfl rfl rfl rfl) (ex_f zup rfl (zbv rfl rfl (zaa rfl) (zbr rfl ta3 rfl rfl rfl rfl rfl) (zbv rfl rfl (zaa rfl) (zbr rfl ta29 rfl rfl rfl rfl rfl) (ex_f zuo rfl (zbv rfl rfl (zaa rfl) (zbr rfl ta3 rfl rfl rfl rfl rfl) (zay rfl rfl (zaa rfl) (fun _ => (za0 rfl ts29 ti3 rfl rfl rfl hb)) (zbv rfl rfl (zaa rfl) (zbr rfl ta3 rfl rfl rfl rb rfl) (ex_f zun rfl (zbv rfl rfl (zaa rfl) (zbr rfl ta3 rfl rfl rfl rfl rfl) (zay rfl rfl (zaa rfl) (fun _ => (zax rfl rfl rfl (IntWalk.i64_in _ (by omega)))) ?_))))))))))
     refine zay rfl rfl (zaa rfl) (fun _ => (za0 rfl ts29 ti3 rfl rfl rfl ha)) ?_
     refine zci rfl (zaa rfl) (zaj rfl ti3 rfl rfl rfl ra rfl rfl (by decide) (by decide)) (fun _ h => zbw h) ?_
     refine zcf (by kernel_rfl) ?_
     refine zai ?_
     refine zor rfl (fun _ _ h => h) ?_
     refine zsp rfl (zaa rfl) (zaj rfl ti4 rfl rfl rfl rfl rfl rfl (by decide) (by decide)) (zdj (zbl ?_))
     rw [if_pos hlt]
     have hm : (fk.map eI).set ed.a (eI (gti fk ed.b + ed.c)) = (fk.set ed.a (gti fk ed.b + ed.c)).map eI := by rw [List.map_set]
     refine ⟨stF g (fk.set ed.a (gti fk ed.b + ed.c)) true, [.row 3 [eEd ed]], ?_, rfl, zz2 (by show _ < 5; decide), rfl⟩
     unfold stF
     rw [← hm]
     rfl
    ·
     replace hlt : ¬ gti fk ed.b + ed.c < gti fk ed.a := hlt
     refine z0w (zbl ?_)
     rw [if_neg hlt]
     exact ⟨stF g fk ck, [.row 3 [eEd ed]], rfl, rfl, zz2 (by show _ < 5; decide), rfl⟩
   ·
    subst hI
    rw [z2f]
    obtain ⟨b1, b2, b3, b4, b5⟩ := zl4 g.ed hEO (Dl.way_W) far hfar
    have hst2 := fun hc => zk4 hEO Dl.way_W hfar hc
    have hsp := fun hc => zi0 (M := g.ed) (far := far) hc
    generalize bkR g.ed far = s at b1 b2 b3 b4 b5 hst2 hsp
    obtain ⟨f2, c2⟩ := s
    refine zd1 (zd8 ?_)
    intro mkI
    refine zab (zaf rfl rfl (zaa rfl) (zaq rfl ta4 rfl rfl rfl rfl rfl) (zad (zai ?_)))
    clear mkI
    refine zd8 ?_
    intro mkI
    refine zab (zaf rfl rfl (zaa rfl) (za1 rfl ti4 rfl rfl) (zba rfl (zaa rfl) (zaj rfl ti4 rfl rfl rfl rfl rfl rfl (by decide) (by decide)) (zad (zai ?_))))
    clear mkI
    refine ⟨(f2, c2), ⟨b1, ?_⟩, ?_, fun [_] => zb8 [0, 1, 2, 3, 5] (by decide) ⟨⟨_, rfl, .rowE zj0 rfl⟩, ⟨_, rfl, .rowE (zde _) rfl⟩, ⟨_, rfl, .rowE (zf0 _) rfl⟩, ⟨_, rfl, zi3 (.own _ _ _ _ _ rfl rfl)⟩, ⟨_, rfl, .rowE (by intro e he c hc; simp at he; subst he; simp [eB, AV.cells] at hc; subst hc; exact .s _) rfl⟩, trivial⟩ ⟨.lo _ (lo_W w), .lo _ hln, .ptr 0 0 3 0 0 rfl, .lo _ (zan fun e => zpf e), .own 1 1 1 _ _ rfl rfl, .ptr 3 3 1 0 0 rfl, .ptr 5 4 1 0 0 rfl, trivial⟩⟩
    ·
     show if c2 = true then relW g.ed f2 = RF else f2 = RF
     cases c2 with
     | true => rw [if_pos rfl, ← (hst2 rfl).1]; exact hrl
     | false => rw [if_neg (by decide)]; rw [hsp rfl] at hrl; exact (b5 rfl).1.trans hrl
    ·
     show f2.sum.toNat * 2 + (if c2 = true then 1 else 0) < far.sum.toNat * 2 + 1
     cases c2 with
     | true => have := (hst2 rfl).2; simp at this ⊢; omega
     | false => have h1 : f2 = far := (b5 rfl).1; rw [h1]; simp
  | false =>
   rw [if_neg (by decide)] at hrl
   subst hrl
   refine ze1 rfl ?_
   have hpl := zdy hvn
   have hwl : w.length ≤ 200 := by unfold zew at hww; simp only [Bool.and_eq_true, decide_eq_true_eq] at hww; exact hww.1
   (refine zlg ?_; repeat (first | refine zcr ?_ | refine zbt ?_ | refine zbk rfl ?_ | refine zbl ?_ | refine zai ?_ | refine zd1 ?_ | refine zc6 ?_ | refine zes ?_))
   refine zd8 ?_
   intro mkI
   refine zab (zac rfl (zaf rfl rfl (zaa rfl) (zaq rfl ta29 rfl rfl rfl rfl rfl) (zaf rfl rfl (zaa rfl) (za9 rfl ti32 tp32 rfl rfl) (zaf rfl rfl (zaa rfl) (za1 rfl ti32 rfl rfl) (zba rfl (zaa rfl) (zaj rfl ti32 rfl rfl rfl rfl rfl rfl (by decide) (by decide)) (zad (zd1 (zd1 ?_))))))))
   clear mkI
   refine zd8 ?_
   intro mkI
   refine zab (zbz zem rfl (zbu ta3 rfl (zac rfl (zaf rfl rfl (zaa rfl) (zao rfl ts25 rfl) (zaf rfl rfl (zaa rfl) (zax rfl rfl rfl (IntWalk.i64_in _ (by omega))) (zac rfl (zad (zai (zes ?_)))))))))
   clear mkI
   refine zg3 (fun [_] => z0s (id := 5) (sz2 := 2) (e' := .agg [.own 1 1 g.st.length, .own 2 1 g.st.length, .own 6 2 0]) (pre := [.own 1 1 g.st.length, .own 2 1 g.st.length]) (post := []) rfl rfl rfl) ?_
   refine zi4 (S := Nat) (fun k => [(9, .ptr 0 3 0 0), (31, .ptr 3 1 0 0), (35, .ptr 4 3 0 0), (198, eI (n.places + w.length)), (199, eI k)]) (fun k => stU g far k) (fun k => (k : Int) ≤ n.places + w.length) (fun k => n.places.toNat + w.length - k) 0
    (fun [_] => zb8 [0, 1, 2, 3, 5, 6] (by decide) ⟨⟨_, rfl, .rowE zj0 rfl⟩, ⟨_, rfl, .rowE (zde _) rfl⟩, ⟨_, rfl, .rowE (zf0 _) rfl⟩, ⟨_, rfl, zi3 (.own _ _ _ _ _ rfl rfl)⟩, ⟨_, rfl, zc5 (.cons (.own _ _ _ _ _ rfl rfl) (.cons (.own _ _ _ _ _ rfl rfl) (.cons (.own _ _ _ _ _ rfl rfl) .nil)))⟩, ⟨_, rfl, .rowE (by simp) rfl⟩, trivial⟩ ⟨.ptr 0 0 3 0 0 rfl, .ptr 3 3 1 0 0 rfl, .ptr 5 4 3 0 0 rfl, .lo _ (.s _), .lo _ (.s _), trivial⟩) (by show ((0 : Nat) : Int) ≤ _; omega) (fun k hk => ?_)
   replace hk : (k : Int) ≤ n.places + w.length := hk
   refine zd1 (zd8 ?_)
   intro mkI
   refine zab ?_
   refine za3 rfl rfl (zaa rfl) (za2 rfl rfl rfl) (fun h200 => ?_) (fun h200 => ?_)
   all_goals refine zad (zd1 ?_)
   all_goals (first | refine zfv rfl ?_ | refine ze1 rfl ?_)
   all_goals (repeat (first | refine zd1 ?_ | refine zc6 ?_ | refine zes ?_))
   all_goals clear mkI
   ·
    have hwh := zer (P := P) 0
    have hrl : (List.replicate k (eF (Fr.of 0))).length = k := by simp
    refine zd8 ?_
    intro mkI
    refine zb2 hmix ?_
    refine zir rfl (by kernel_rfl) ?_
    refine zxr ?_
    simp only [List.dropLast]
    refine znu rfl rfl (zaa rfl) (fun _ => (zb7 rfl zdu (by decide) rfl)) ?_
    refine z1s rfl rfl (zaa rfl) (zaq rfl ta30 rfl rfl rfl rfl rfl) ?_
    refine znu rfl rfl (zaa rfl) (fun _ => (zam rfl rfl (hwh) (zae rfl zap))) ?_
    refine znu rfl rfl (zaa rfl) (fun _ => (zco rfl ts30 ti56 rfl rfl (by decide) (by decide) rfl rfl rfl (.agg _ (zah (.s _) (zah (.s _) zak))))) ?_
    refine gx_eff rfl rfl (zaa rfl) (zbq rfl ts30 ti56 rfl (by decide) rfl rfl (by first | rfl | (simp; done) | (simp; omega)) rfl (by first | exact .own _ _ _ rfl rfl _ (by first | rfl | simp) | exact .emp | exact .nil | exact .sl _ (by first | simp; done | intro e he; simp at he; obtain ⟨_, _, rfl⟩ := he; rfl)) (by first | omega | (simp; omega) | (unfold maxLen; simp; omega)) (by first | omega | (simp; omega) | (unfold maxLen; simp; omega))) ?_
    refine znu rfl rfl (zaa rfl) (fun _ => (zb7 rfl zdu (by decide) rfl)) ?_
    refine gx_nil (by kernel_rfl) ?_
    refine zai (zba rfl (zaa rfl) (zaj rfl ti30 rfl rfl rfl rfl rfl rfl (by decide) (by decide)) (zad (zbl (zai ?_))))
    clear mkI
    refine zd8 ?_
    intro mkI
    refine zab (zaf rfl rfl (zaa rfl) (zax rfl rfl rfl (IntWalk.i64_in _ (by omega))) (zac rfl (zad (zai ?_))))
    clear mkI
    have hrow : List.replicate (k + 1) (eF (Fr.of 0)) = List.replicate k (eF (Fr.of 0)) ++ [eF (Fr.of 0)] := by rw [List.replicate_succ']
    exact ⟨k + 1, by show ((k + 1 : Nat) : Int) ≤ _; omega, by show n.places.toNat + w.length - (k + 1) < n.places.toNat + w.length - k; omega, fun [_] => zb8 [0, 1, 2, 3, 4, 6] (by decide) ⟨⟨_, rfl, .rowE zj0 rfl⟩, ⟨_, rfl, .rowE (zde _) rfl⟩, ⟨_, rfl, .rowE (zf0 _) rfl⟩, ⟨_, rfl, zi3 (.own _ _ _ _ _ rfl rfl)⟩, ⟨_, rfl, zc5 (.cons (.own _ _ _ _ _ rfl rfl) (.cons (.own _ _ _ _ _ rfl rfl) (.cons (.own _ _ _ _ _ rfl (by simp)) .nil)))⟩, ⟨_, rfl, .rowE (by intro e he c hc; rw [List.eq_of_mem_replicate he] at hc; exact (zfe _).cells c hc) hrow.symm⟩, trivial⟩ ⟨.ptr 0 0 3 0 0 rfl, .ptr 3 3 1 0 0 rfl, .ptr 4 4 3 0 0 rfl, .lo _ (.s _), .lo _ (.s _), trivial⟩⟩
   ·
    have hke2 : k = n.places.toNat + w.length := by omega
    subst hke2
    (refine zlg ?_; repeat (first | refine zcr ?_ | refine zbt ?_ | refine zbk rfl ?_ | refine zbl ?_ | refine zai ?_ | refine zd1 ?_ | refine zc6 ?_ | refine zes ?_))
    refine zd8 ?_
    intro mkI
    refine zab (zaf rfl rfl (zaa rfl) (zaq rfl ta29 rfl rfl rfl rfl rfl) (zaf rfl rfl (zaa rfl) (zc7 rfl ts29 rfl) (zac rfl (zad (zai (zes ?_))))))
    clear mkI
    have hfl := hfar.len
    have h0g : 0 < far.length := by omega
    refine zi4 (S := Nat) (fun m => [(9, .ptr 0 3 0 0), (31, .ptr 3 1 0 0), (35, .ptr 4 3 0 0), (208, .own 2 1 g.st.length), (209, eI g.st.length), (210, eI m)]) (fun m => stU g (capM far m) (n.places.toNat + w.length)) (fun m => m ≤ g.st.length) (fun m => g.st.length - m) 0
     (fun [_] => by rw [zqa]; exact zel _ ⟨rfl, rfl, rfl, rfl, rfl, rfl, trivial⟩) (Nat.zero_le _) (fun m hm => ?_)
    replace hm : m ≤ g.st.length := hm
    refine zd1 (zd8 ?_)
    intro mkI
    refine zab ?_
    refine za3 rfl rfl (zaa rfl) (za2 rfl rfl rfl) (fun h211 => ?_) (fun h211 => ?_)
    all_goals refine zad (zd1 ?_)
    all_goals (first | refine zfv rfl ?_ | refine ze1 rfl ?_)
    all_goals (repeat (first | refine zd1 ?_ | refine zc6 ?_ | refine zes ?_))
    all_goals clear mkI
    ·
     have hmt : m < g.st.length := by omega
     have hcl := zs1 far m
     have e1 : ((capM far m).map eI)[m]? = some (eI (gti far m)) := by rw [zbb (by omega), z2c far (Nat.le_refl _)]
     have e2 : ((capM far m).map eI)[0]? = some (eI (gti far 0)) := by rw [zbb (by omega), zm6 far m h0g]
     have hsu := zxc (R := far) (m := m) (by omega)
     refine zd8 ?_
     intro mkI
     refine zab (zac rfl (zaf rfl rfl (zaa rfl) (za0 rfl ts29 ti3 rfl rfl rfl hmt) (zaf rfl rfl (zaa rfl) (zaq rfl ta3 rfl rfl rfl e1 rfl) (zac rfl (zac rfl (zad (zd1 ?_)))))))
     clear mkI
     refine zd8 ?_
     intro mkI
     refine zab (zac rfl (zaf rfl rfl (zaa rfl) (zaq rfl ta29 rfl rfl rfl rfl rfl) (zaf rfl rfl (zaa rfl) (za0 rfl ts29 ti3 rfl rfl (k := 0) rfl hpos) (zaf rfl rfl (zaa rfl) (zaq rfl ta3 rfl rfl rfl e2 rfl) ?_))))
     refine za3 rfl rfl (zaa rfl) (zb0 rfl rfl rfl) (fun h219 => ?_) (fun h219 => ?_)
     all_goals refine zad (zai ?_)
     all_goals (first | refine zfv rfl ?_ | refine ze1 rfl ?_)
     all_goals (repeat (first | refine zai ?_ | refine zc6 ?_ | refine zbl ?_))
     all_goals clear mkI
     ·
      replace h219 : gti far 0 < gti far m := h219
      rw [if_pos h219] at hsu
      have hsu2 : ((capM far m).map eI).set m (eI (gti far 0)) = (capM far (m + 1)).map eI := by rw [hsu, List.map_set]
      refine zd8 ?_
      intro mkI
      refine zb2 hmix ?_
      refine zc1 ?_
      refine zbv rfl rfl (zaa rfl) (zbr rfl ta29 rfl rfl rfl rfl rfl) (ex_s rfl (zbv rfl rfl (zaa rfl) (zbr rfl ta29 rfl rfl rfl rfl rfl) (zay rfl rfl (zaa rfl) (fun _ => (za0 rfl ts29 ti3 rfl rfl (k := 0) rfl hpos)) (zbv rfl rfl (zaa rfl) (zbr rfl ta3 rfl rfl rfl e2 rfl) (zay rfl rfl (zaa rfl) (fun _ => (za0 rfl ts29 ti3 rfl rfl rfl hmt)) ?_)))))
      refine zci rfl (zaa rfl) (zaj rfl ti3 rfl rfl rfl e1 rfl rfl (by decide) (by decide)) (fun _ h => zbw h) ?_
      refine zcf (by kernel_rfl) ?_
      refine zbl (zai ?_)
      clear mkI
      refine zd8 ?_
      intro mkI
      refine zab (zaf rfl rfl (zaa rfl) (zax rfl rfl rfl (IntWalk.i64_in _ (by omega))) (zac rfl (zad (zai ?_))))
      clear mkI
      exact ⟨m + 1, by show m + 1 ≤ g.st.length; omega, by show g.st.length - (m + 1) < g.st.length - m; omega, fun [_] => zb8 [0, 1, 2, 3, 4, 5] (by decide) ⟨⟨_, rfl, .rowE zj0 rfl⟩, ⟨_, rfl, .rowE (zde _) rfl⟩, ⟨_, rfl, .rowE (zf0 _) hsu2⟩, ⟨_, rfl, zi3 (.own _ _ _ _ _ rfl rfl)⟩, ⟨_, rfl, zc5 (.cons (.own _ _ _ _ _ rfl rfl) (.cons (.own _ _ _ _ _ rfl rfl) (.cons (.own _ _ _ _ _ rfl rfl) .nil)))⟩, ⟨_, rfl, .rowE (by intro e he c hc; rw [List.eq_of_mem_replicate he] at hc; exact (zfe _).cells c hc) rfl⟩, trivial⟩ ⟨.ptr 0 0 3 0 0 rfl, .ptr 3 3 1 0 0 rfl, .ptr 4 4 3 0 0 rfl, .own 2 2 1 _ _ rfl rfl, .lo _ (.s _), .lo _ (.s _), trivial⟩⟩
     ·
      replace h219 : ¬ gti far 0 < gti far m := h219
      rw [if_neg h219] at hsu
      refine zd8 ?_
      intro mkI
      refine zab (zaf rfl rfl (zaa rfl) (zax rfl rfl rfl (IntWalk.i64_in _ (by omega))) (zac rfl (zad (zai ?_))))
      clear mkI
      exact ⟨m + 1, by show m + 1 ≤ g.st.length; omega, by show g.st.length - (m + 1) < g.st.length - m; omega, fun [_] => by rw [hsu]; exact zel _ ⟨rfl, rfl, rfl, rfl, rfl, rfl, trivial⟩⟩
    ·
     have hme : m = far.length := by omega
     subst hme
     rw [zs2]
     have e2 : ((capD far).map eI)[0]? = some (eI (gti far 0)) := by rw [← zs2, zbb (by rw [zs1]; omega), zm6 far _ h0g]
     (refine zlg ?_; repeat (first | refine zcr ?_ | refine zbt ?_ | refine zbk rfl ?_ | refine zbl ?_ | refine zai ?_ | refine zd1 ?_ | refine zc6 ?_ | refine zes ?_))
     refine zd8 ?_
     intro mkI
     refine zb2 hmix ?_
     refine zc1 ?_
     refine zbv rfl rfl (zaa rfl) (zbr rfl ta29 rfl rfl rfl rfl rfl) (zay rfl rfl (zaa rfl) (fun _ => (za0 rfl ts29 ti3 rfl rfl (k := 0) rfl hpos)) (zbv rfl rfl (zaa rfl) (zbr rfl ta3 rfl rfl rfl e2 rfl) (zbv rfl rfl (zaa rfl) (zdq rfl ta32 ti32 rfl rfl rfl rfl rfl) (ex_s rfl ?_))))
     refine zci rfl (zaa rfl) (zaj rfl ti32 rfl rfl rfl rfl rfl rfl (by decide) (by decide)) (fun _ h => zbw h) ?_
     refine ex_s rfl ?_
     refine zcf (by kernel_rfl) ?_
     refine zai ?_
     clear mkI
     (refine zpa ?_; repeat (first | refine zbc ?_ | refine zbe ?_))
     rw [HI]
     exact zr9 (.inr rfl) rfl ta32 ti32 rfl rfl rfl rfl rfl rfl (.refl _) (.agg _ _ rfl (zbd.cons (.own _ _ _ _ _ rfl rfl (by simp)) (zbd.cons (.own _ _ _ _ _ rfl rfl (by simp [capD]; omega)) (zbd.cons (by rw [show eL eF (List.replicate (n.places.toNat + w.length) (Fr.of 0)) = .sl (List.replicate (n.places.toNat + w.length) (eF (Fr.of 0))) from by unfold eL; rw [List.map_replicate]]; exact .own _ _ _ _ _ rfl rfl (by simp)) zbd.nil))).2) (.refl _)
 have hlt : i < g.st.length := by omega
 have hf : most.toNat + 1 - i = most.toNat - i + 1 := by omega
 rw [hf] at hE
 unfold bfsD at hE
 rw [if_pos hlt] at hE
 have hx0 := hB.ok _ (gti_mem hlt)
 have hxi : g.st[i]? = some (gti g.st i) := zdh hlt
 have hCi : Dl.Clo (nxD n w c) g i 0 := fun k r hk => by omega
 generalize gti g.st i = x at hE hx0 hxi
 have hix : (g.st.map (eL eI))[i]? = some (eL eI x) := by rw [List.getElem?_map, hxi]; rfl
 have hM := zno (P := P) n w x
 have hMe : zgs n w x = (zds n w x, 0) := by unfold zgs; rw [if_pos (show zd3 n w x = true from hx0)]
 have hml := fun m hm => zgk (m := m) hx0 hm
 have hmlen := zho hx0
 have hnx : nxD n w c x = (zds n w x).map fun m => ((zd2 n w x m).1, zd4 c m.kind) := rfl
 rw [hMe] at hM
 rw [hnx] at hE
 generalize zds n w x = ml at hM hE hml hmlen hnx
 replace hM : Pure P 69 [eN n, eL eS w, eL eI x] (.tup [eL eSt ml, eI 0]) := hM
 generalize hK : bfsD (nxD n w c) most (most.toNat - i) (i + 1) = K at hE
 refine zd8 ?_
 intro mkI
 refine zb2 hmix ?_
 refine zbx (by kernel_rfl) ?_
 refine qx_w ta24 ti24 rfl (qx_s rfl (qx_s rfl (qx_s rfl (zby rfl rfl (zaa rfl) (za0 rfl ts28 ti29 rfl rfl rfl hlt) (zby rfl rfl (zaa rfl) (zaq rfl ta29 rfl rfl rfl hix rfl) (zby rfl rfl (zaa rfl) (zam rfl rfl (hM) (zae rfl (zae rfl (zae rfl zap)))) (qx_s rfl (qx_s rfl (qx_s rfl (qx_s rfl (qx_s rfl ?_)))))))))))
 refine zdg ?_
 refine zd1 ?_
 clear mkI
 refine zd8 ?_
 intro mkI
 refine zab (zac rfl (zaf rfl rfl (zaa rfl) (zao rfl ts68 rfl) (zac rfl (zad (zai (zes ?_))))))
 clear mkI
 refine zi4 (S := Nat × Gr) (fun p => [(1, eL eS w), (3, eI most), (4, .ref (eN n).cells), (6, .ref (eC c).cells), (9, .ptr 0 3 0 0), (13, .own 3 3 p.2.ed.length), (14, .own 1 1 p.2.st.length), (15, .mp 2), (16, eI i), (81, eL eSt ml), (82, eI ml.length), (83, eI p.1)]) (fun p => stP P p.2)
  (fun p => p.1 ≤ ml.length ∧ BI (nxD n w c) s0.1 most (okS n w) p.2 ∧ p.2.st[i]? = some x ∧ (∀ i', i' < i → Dl.Clo (nxD n w c) p.2 i' (nxD n w c (gti p.2.st i')).length) ∧ Dl.Clo (nxD n w c) p.2 i p.1 ∧ p.2.ed.length ≤ 4000 * i + p.1 ∧ (rowD most i ((ml.map fun m => ((zd2 n w x m).1, zd4 c m.kind)).drop p.1) p.2).bind K = R0) (fun p => ml.length - p.1) (0, g)
  (fun [_] => zel _ ⟨rfl, rfl, rfl, rfl, rfl, rfl, rfl, rfl, rfl, rfl, rfl, rfl, trivial⟩) ⟨Nat.zero_le _, hB, hxi, hC, hCi, by simpa using hEl, hE⟩ (fun p hp => ?_)
 clear hE hB hle hxi hix hlt hi hf hC hCi hEl
 obtain ⟨q, g⟩ := p
 obtain ⟨hq, hB, hxi, hC, hCi, hEl, hE⟩ := hp
 replace hq : q ≤ ml.length := hq
 replace hB : BI (nxD n w c) s0.1 most (okS n w) g := hB
 replace hxi : g.st[i]? = some x := hxi
 replace hEl : g.ed.length ≤ 4000 * i + q := hEl
 replace hE : (rowD most i ((ml.map fun m => ((zd2 n w x m).1, zd4 c m.kind)).drop q) g).bind K = R0 := hE
 have hlt : i < g.st.length := (List.getElem?_eq_some_iff.1 hxi).1
 have hle : (g.st.length : Int) ≤ most := hB.le
 have hix : (g.st.map (eL eI))[i]? = some (eL eI x) := by rw [List.getElem?_map, hxi]; rfl
 have hgx : gti g.st i = x := zfa hxi
 have hsl : (g.st.map (eL eI)).length = g.st.length := by simp
 have hsm : (g.ed.map eEd).length = g.ed.length := by simp
 refine zd1 (zd8 ?_)
 intro mkI
 refine zab ?_
 refine za3 rfl rfl (zaa rfl) (za2 rfl rfl rfl) (fun h84 => ?_) (fun h84 => ?_)
 all_goals refine zad (zd1 ?_)
 all_goals (first | refine zfv rfl ?_ | refine ze1 rfl ?_)
 all_goals (repeat (first | refine zd1 ?_ | refine zc6 ?_ | refine zes ?_))
 all_goals clear mkI
 all_goals dsimp only at h84
 rotate_left 1
 ·
  have e : q = ml.length := by omega
  subst e
  rw [List.drop_of_length_le (by simp)] at hE
  (refine zlg ?_; repeat (first | refine zcr ?_ | refine zbt ?_ | refine zbk rfl ?_ | refine zbl ?_ | refine zai ?_ | refine zd1 ?_ | refine zc6 ?_ | refine zes ?_))
  refine zd8 ?_
  intro mkI
  refine zab (zac rfl (zaf rfl rfl (zaa rfl) (zax rfl rfl rfl (IntWalk.i64_in _ (by omega))) (zac rfl (zad (zai ?_)))))
  clear mkI
  refine ⟨(i + 1, g), ⟨hB, by show i + 1 ≤ g.st.length; omega, fun i' hi' => ?_, by show g.ed.length ≤ 4000 * (i + 1); omega, ?_⟩, by show most.toNat + 1 - (i + 1) < most.toNat + 1 - i; omega, fun [_] => zel _ ⟨rfl, rfl, rfl, rfl, rfl, rfl, rfl, rfl, rfl, trivial⟩⟩
  ·
   by_cases e : i' < i
   ·
    exact hC i' e
   ·
    have : i' = i := by omega
    subst this
    show Dl.Clo (nxD n w c) g i' (nxD n w c (gti g.st i')).length
    rw [hgx, hnx, List.length_map]; exact hCi
  ·
   show bfsD (nxD n w c) most (most.toNat + 1 - (i + 1)) (i + 1) g = R0
   rw [show most.toNat + 1 - (i + 1) = most.toNat - i by omega, hK]
   exact hE
 have hqt : q < ml.length := by omega
 have hdr : (ml.map fun m => ((zd2 n w x m).1, zd4 c m.kind)).drop q = ((zd2 n w x (gti ml q)).1, zd4 c (gti ml q).kind) :: (ml.map fun m => ((zd2 n w x m).1, zd4 c m.kind)).drop (q + 1) := by
  rw [← List.map_drop, zea hqt, List.map_cons, List.map_drop]
 have hiq : (ml.map eSt)[q]? = some (eSt (gti ml q)) := zbb hqt
 obtain ⟨hap, hkd, hoy⟩ := hml _ (gti_mem hqt)
 have hrm : (nxD n w c (gti g.st i))[q]? = some ((zd2 n w x (gti ml q)).1, zd4 c (gti ml q).kind) := by rw [hgx, hnx, List.getElem?_map, zdh hqt]; rfl
 rw [hdr] at hE
 have hA := zs8 (P := P) n w x (gti ml q)
 have hco := zw8 (P := P) c [gti ml q]
 rw [zsz hvc hkd] at hco
 have hstep := fun g' h => hB.step hN hlt (List.mem_of_getElem? hrm) (g' := g') h
 have hAe : (zd2 n w x (gti ml q)).2 = 0 := hap
 generalize hm0 : gti ml q = m at hiq hA hco hstep hrm hE hoy hkd hap hAe
 generalize hy0 : zd2 n w x m = ya at hA hstep hrm hE hoy hAe
 obtain ⟨y, ye⟩ := ya
 replace hAe : ye = 0 := hAe
 subst hAe
 replace hoy : okS n w y := hoy
 have hrd : rowD most i ((y, zd4 c m.kind) :: (ml.map fun m => ((zd2 n w x m).1, zd4 c m.kind)).drop (q + 1)) g = (oneD most i (y, zd4 c m.kind) g).bind (rowD most i ((ml.map fun m => ((zd2 n w x m).1, zd4 c m.kind)).drop (q + 1))) := rfl
 replace hE : (rowD most i ((y, zd4 c m.kind) :: (ml.map fun m => ((zd2 n w x m).1, zd4 c m.kind)).drop (q + 1)) g).bind K = R0 := hE
 rw [hrd] at hE
 have hk2 := zio (P := P) hoy
 have hks2 := zil hoy
 have hsms : ∀ z ∈ g.st, Small z := fun z hz => (hB.ok z hz).small
 have key : ∀ g', oneD most i (y, zd4 c m.kind) g = some g' → BI (nxD n w c) s0.1 most (okS n w) g' ∧ g'.st[i]? = some x ∧ (∀ i', i' < i → Dl.Clo (nxD n w c) g' i' (nxD n w c (gti g'.st i')).length) ∧ Dl.Clo (nxD n w c) g' i (q + 1) ∧ g'.ed.length ≤ 4000 * i + (q + 1) ∧ (rowD most i ((ml.map fun m => ((zd2 n w x m).1, zd4 c m.kind)).drop (q + 1)) g').bind K = R0 := fun g' h => by
  obtain ⟨b1, b2, b3, b4⟩ := hstep g' h
  have hst : gti g'.st i = gti g.st i := by obtain ⟨T, hT⟩ := b2; rw [hT, zfb hlt]
  refine ⟨b1, ?_, fun i' hi' => ?_, fun k r hk hr => ?_, ?_, by rw [h] at hE; exact hE⟩
  ·
   obtain ⟨T, hT⟩ := b2; rw [hT, List.getElem?_append_left hlt]; exact hxi
  ·
   have := (hC i' hi').grow (by show i' < g.st.length; omega) b2 ⟨_, b3⟩
   have e : gti g'.st i' = gti g.st i' := by obtain ⟨T, hT⟩ := b2; rw [hT, zfb (by omega)]
   rw [e]; exact this
  ·
   by_cases hkq : k < q
   ·
    exact (Dl.Clo.grow hlt (show Dl.Clo (nxD n w c) g i q from hCi) b2 ⟨_, b3⟩) k r hkq hr
   ·
    have : k = q := by omega
    subst this
    rw [hst, hrm] at hr
    cases hr
    exact ⟨_, b4, by rw [b3]; simp⟩
  ·
   rw [b3]; simp; omega
 refine zd8 ?_
 intro mkI
 refine zab (zaf rfl rfl (zaa rfl) (zal rfl ts68 ti37 rfl rfl rfl hiq rfl) (zcx ta37 ti37 rfl (zaf rfl rfl (zaa rfl) (za1 rfl ti37 rfl rfl) (zba rfl (zaa rfl) (zaj rfl ti37 rfl rfl rfl rfl rfl rfl (by decide) (by decide)) (zad (zd1 ?_))))))
 clear mkI
 refine zg3 (fun [_] => zbm (id := 4) rfl) ?_
 refine zg3 (fun [_] => zcb (d := 20) rfl rfl rfl) ?_
 refine zd8 ?_
 intro mkI
 refine zb2 hmix ?_
 refine zbx (by kernel_rfl) ?_
 refine qx_w ta24 ti24 rfl (qx_s rfl (qx_s rfl (qx_s rfl (zby rfl rfl (zaa rfl) (za0 rfl ts28 ti29 rfl rfl rfl hlt) (zby rfl rfl (zaa rfl) (zaq rfl ta29 rfl rfl rfl hix rfl) (qx_w ta37 ti37 rfl (zby rfl rfl (zaa rfl) (zam rfl rfl (hA) (zae rfl (zae rfl (zae rfl (zae rfl zap))))) (qx_s rfl (qx_s rfl (qx_s rfl (qx_s rfl (qx_s rfl ?_))))))))))))
 refine zdg ?_
 refine zd1 ?_
 clear mkI
 by_cases hf : zef g.st y < 0
 ·
  have hno := zxl hoy.small _ g.st rfl hsms (zf3.1 hf)
  refine zd8 ?_
  intro mkI
  refine zab (zac rfl (zac rfl (zaf rfl rfl (zaa rfl) (zam rfl rfl (hk2) (zae rfl zap)) ?_)))
  refine zaf rfl rfl (zaa rfl) (zgc rfl zjf tK9 rfl rfl ⟨rfl, rfl, rfl⟩ rfl (keyOf_string_mk tn9 hks2) ti3 (plainElem_int tn3 rfl) (by exact atKey_of_not_has hno _) hno) ?_
  refine zac rfl (zac rfl (zac rfl (zac rfl (zac rfl (zad (zd1 (zd1 ?_)))))))
  clear mkI
  refine zd8 ?_
  intro mkI
  refine zab (zac rfl (zaf rfl rfl (zaa rfl) (zbj rfl rfl) (zad (zai (zfv rfl (zd1 (zd1 ?_)))))))
  clear mkI
  refine zd8 ?_
  intro mkI
  refine zab (zac rfl (zaf rfl rfl (zaa rfl) (zc7 rfl ts28 rfl) (zac rfl (zad (zd1 ?_)))))
  clear mkI
  refine zd8 ?_
  intro mkI
  refine zab (zac rfl (zac rfl ?_))
  refine za3 rfl rfl (zaa rfl) (zbn rfl rfl rfl) (fun h111 => ?_) (fun h111 => ?_)
  all_goals refine zad (zai ?_)
  all_goals (first | refine zfv rfl ?_ | refine ze1 rfl ?_)
  all_goals (repeat (first | refine zd1 ?_ | refine zc6 ?_))
  all_goals clear mkI
  all_goals dsimp only at h111
  ·
   have hstep2 : oneD most i (y, zd4 c m.kind) g = none := by unfold oneD; rw [if_pos ⟨hf, by omega⟩]
   rw [hstep2] at hE
   replace hE : none = R0 := hE
   rw [← hE] at HI
   refine zd8 ?_
   intro mkI
   refine zab (zaf rfl rfl (zaa rfl) (za9 rfl ti32 tp32 rfl rfl) (zac rfl (zba rfl (zaa rfl) (zaj rfl ti32 rfl rfl rfl rfl rfl rfl (by decide) (by decide)) (zac rfl (zad (zai ?_))))))
   clear mkI
   (refine zpa ?_; repeat (first | refine zbc ?_ | refine zbe ?_))
   exact zkh (.inr rfl) rfl ta32 ti32 rfl rfl rfl rfl rfl rfl HI
  ·
   have hstep2 : oneD most i (y, zd4 c m.kind) g = some ⟨g.st ++ [y], g.ed ++ [⟨i, g.st.length, zd4 c m.kind⟩]⟩ := by unfold oneD; rw [if_neg (by rintro ⟨_, h⟩; omega), if_pos hf, zra hf]
   obtain ⟨g1, g2, g3, g4, g5, g6⟩ := key _ hstep2
   have hwf := wf_len (k := g.st.length) (by omega)
   refine zd8 ?_
   intro mkI
   refine zab (zac rfl (zac rfl (zaf rfl rfl (zaa rfl) (zam rfl rfl (hk2) (zae rfl zap)) (zac rfl ?_))))
   refine zba rfl (zaa rfl) (zf4 (.inl rfl) zjf tK9 rfl rfl ⟨rfl, rfl, rfl⟩ (by show g.st.length < maxLen; unfold maxLen; omega) rfl rfl (keyOf_string_mk tn9 (by first | assumption | (unfold maxLen; omega))) (plainElem_int tn3 (by first | rfl | assumption))) ?_
   refine zad (zai ?_)
   clear mkI
   refine zd8 ?_
   intro mkI
   refine zab (zac rfl (zac rfl ?_))
   refine zaf rfl rfl (zaa rfl) (zse rfl ts28 ti29 rfl rfl rfl rfl (zan fun _ => .s _)) ?_
   refine zaf rfl rfl (zaa rfl) (zbq rfl ts28 ti29 rfl (by decide) rfl rfl (by first | rfl | (simp; done) | (simp; omega)) rfl (by first | exact .own _ _ _ rfl rfl _ (by first | rfl | simp) | exact .emp | exact .nil | exact .sl _ (by first | simp; done | intro e he; simp at he; obtain ⟨_, _, rfl⟩ := he; rfl)) (by first | omega | (simp; omega) | (unfold maxLen; simp; omega)) (by first | omega | (simp; omega) | (unfold maxLen; simp; omega))) ?_
   refine zac rfl (zad (zd1 ?_))
   clear mkI
   refine zd8 ?_
   intro mkI
   refine zab (zcx ta27 ti27 rfl (zcx ta37 ti37 rfl ?_))
   refine zaf rfl rfl (zaa rfl) (zco rfl ts68 ti37 rfl rfl (by decide) (by decide) rfl rfl rfl (by repeat' (first | exact Lo.s _ | exact zak | refine zah ?_ ?_ | refine zan ?_ | refine Lo.agg _ ?_ | refine Lo.sl _ ?_ | intro _))) ?_
   refine zaf rfl rfl (zaa rfl) (zam rfl rfl (hco) (zae rfl (zae rfl zap))) (zac rfl (zac rfl (zac rfl (zac rfl (zac rfl (zad (zai ?_)))))))
   clear mkI
   refine zd8 ?_
   intro mkI
   refine zab (zac rfl (zac rfl (zac rfl (zac rfl (zaf rfl rfl (zaa rfl) (za9 rfl zoq tp119 rfl rfl) ?_)))))
   refine zaf rfl rfl (zaa rfl) (zco rfl zx2 zoq rfl rfl (by decide) (by decide) rfl rfl rfl (by repeat' (first | exact Lo.s _ | exact zak | refine zah ?_ ?_ | refine zan ?_ | refine Lo.agg _ ?_ | refine Lo.sl _ ?_ | intro _))) ?_
   refine zaf rfl rfl (zaa rfl) (zbq rfl zx2 zoq rfl (by decide) rfl rfl (by first | rfl | (simp; done) | (simp; omega)) rfl (by first | exact .own _ _ _ rfl rfl _ (by first | rfl | simp) | exact .emp | exact .nil | exact .sl _ (by first | simp; done | intro e he; simp at he; obtain ⟨_, _, rfl⟩ := he; rfl)) (by first | omega | (simp; omega) | (unfold maxLen; simp; omega)) (by first | omega | (simp; omega) | (unfold maxLen; simp; omega))) ?_
   refine zac rfl (zad (zbl (zai ?_)))
   clear mkI
   refine zd8 ?_
   intro mkI
   refine zab (zaf rfl rfl (zaa rfl) (zax rfl rfl rfl (IntWalk.i64_in _ (by omega))) (zac rfl (zad (zai ?_))))
   clear mkI
   have hrow : (g.st ++ [y]).map (eL eI) = g.st.map (eL eI) ++ [eL eI y] := by simp
   have hmrow : (g.ed ++ [(⟨i, g.st.length, zd4 c m.kind⟩ : Edg)]).map eEd = g.ed.map eEd ++ [eEd ⟨i, g.st.length, zd4 c m.kind⟩] := by simp
   exact ⟨(q + 1, ⟨g.st ++ [y], g.ed ++ [⟨i, g.st.length, zd4 c m.kind⟩]⟩), ⟨by show q + 1 ≤ ml.length; omega, g1, g2, g3, g4, g5, g6⟩, by show ml.length - (q + 1) < ml.length - q; omega,
    fun [_] => zb8 [0, 5, 2, 6] (by decide) ⟨⟨_, rfl, .rowE zj0 rfl⟩, ⟨_, rfl, .rowE (zde _) hrow.symm⟩, ⟨_, rfl, zh5 (zzs P g.st y).symm⟩, ⟨_, rfl, .rowE (zsq _) (by show _ = List.map eEd (_ ++ _); rw [List.map_append]; rfl)⟩, trivial⟩ ⟨.lo _ (lo_W w), .lo _ (by repeat' (first | exact Lo.s _ | exact zak | refine zah ?_ ?_ | refine zan ?_ | refine Lo.cells ?_ | refine Lo.agg _ ?_ | refine Lo.ref _ ?_ | refine Lo.tup _ ?_ | refine Lo.fn _ _ ?_ | refine Lo.sl _ ?_ | intro _)), .lo _ hln, .lo _ hlc, .ptr 0 0 3 0 0 rfl, .own 6 3 3 _ _ rfl (by simp), .own 5 1 1 _ _ rfl (by simp), .mp 2 2 rfl, .lo _ (by repeat' (first | exact Lo.s _ | exact zak | refine zah ?_ ?_ | refine zan ?_ | refine Lo.cells ?_ | refine Lo.agg _ ?_ | refine Lo.ref _ ?_ | refine Lo.tup _ ?_ | refine Lo.fn _ _ ?_ | refine Lo.sl _ ?_ | intro _)), .lo _ (zmz _), .lo _ (by repeat' (first | exact Lo.s _ | exact zak | refine zah ?_ ?_ | refine zan ?_ | refine Lo.cells ?_ | refine Lo.agg _ ?_ | refine Lo.ref _ ?_ | refine Lo.tup _ ?_ | refine Lo.fn _ _ ?_ | refine Lo.sl _ ?_ | intro _)), .lo _ (by repeat' (first | exact Lo.s _ | exact zak | refine zah ?_ ?_ | refine zan ?_ | refine Lo.cells ?_ | refine Lo.agg _ ?_ | refine Lo.ref _ ?_ | refine Lo.tup _ ?_ | refine Lo.fn _ _ ?_ | refine Lo.sl _ ?_ | intro _)), trivial⟩⟩
 ·
  obtain ⟨p1, p2, p3⟩ := zhb hf
  have hmem : y ∈ g.st := List.mem_of_getElem? p1
  obtain ⟨hyes, hat⟩ := zrm hoy.small _ g.st rfl hsms hB.nd hmem
  have hat2 : ∀ z, (atD g.st).atKey (.string (keyD y)) z = .lit (.int .i64 (idx g.st y : Nat)) := fun z => by rw [hat z, p3]
  have hstep2 : oneD most i (y, zd4 c m.kind) g = some ⟨g.st, g.ed ++ [⟨i, idx g.st y, zd4 c m.kind⟩]⟩ := by unfold oneD; rw [if_neg (by rintro ⟨h, _⟩; exact hf h), if_neg hf]
  obtain ⟨g1, g2, g3, g4, g5, g6⟩ := key _ hstep2
  refine zd8 ?_
  intro mkI
  refine zab (zac rfl (zac rfl (zaf rfl rfl (zaa rfl) (zam rfl rfl (hk2) (zae rfl zap)) ?_)))
  refine zaf rfl rfl (zaa rfl) (zgc rfl zjf tK9 rfl rfl ⟨rfl, rfl, rfl⟩ rfl (keyOf_string_mk tn9 hks2) ti3 (plainElem_int tn3 rfl) (by exact hat2 _) hyes) ?_
  refine zac rfl (zac rfl (zac rfl (zac rfl (zac rfl (zad (zd1 (zd1 ?_)))))))
  clear mkI
  refine zd8 ?_
  intro mkI
  refine zab (zac rfl (zaf rfl rfl (zaa rfl) (zbj rfl rfl) (zad (zai (ze1 rfl (zc6 (zd1 ?_)))))))
  clear mkI
  refine zd8 ?_
  intro mkI
  refine zab (zcx ta27 ti27 rfl (zcx ta37 ti37 rfl ?_))
  refine zaf rfl rfl (zaa rfl) (zco rfl ts68 ti37 rfl rfl (by decide) (by decide) rfl rfl rfl (by repeat' (first | exact Lo.s _ | exact zak | refine zah ?_ ?_ | refine zan ?_ | refine Lo.agg _ ?_ | refine Lo.sl _ ?_ | intro _))) ?_
  refine zaf rfl rfl (zaa rfl) (zam rfl rfl (hco) (zae rfl (zae rfl zap))) (zac rfl (zac rfl (zac rfl (zac rfl (zac rfl (zad (zai ?_)))))))
  clear mkI
  refine zd8 ?_
  intro mkI
  refine zab (zac rfl (zac rfl (zac rfl (zac rfl (zaf rfl rfl (zaa rfl) (za9 rfl zoq tp119 rfl rfl) ?_)))))
  refine zaf rfl rfl (zaa rfl) (zco rfl zx2 zoq rfl rfl (by decide) (by decide) rfl rfl rfl (by repeat' (first | exact Lo.s _ | exact zak | refine zah ?_ ?_ | refine zan ?_ | refine Lo.agg _ ?_ | refine Lo.sl _ ?_ | intro _))) ?_
  refine zaf rfl rfl (zaa rfl) (zbq rfl zx2 zoq rfl (by decide) rfl rfl (by first | rfl | (simp; done) | (simp; omega)) rfl (by first | exact .own _ _ _ rfl rfl _ (by first | rfl | simp) | exact .emp | exact .nil | exact .sl _ (by first | simp; done | intro e he; simp at he; obtain ⟨_, _, rfl⟩ := he; rfl)) (by first | omega | (simp; omega) | (unfold maxLen; simp; omega)) (by first | omega | (simp; omega) | (unfold maxLen; simp; omega))) ?_
  refine zac rfl (zad (zbl (zai ?_)))
  clear mkI
  refine zd8 ?_
  intro mkI
  refine zab (zaf rfl rfl (zaa rfl) (zax rfl rfl rfl (IntWalk.i64_in _ (by omega))) (zac rfl (zad (zai ?_))))
  clear mkI
  have hmrow : (g.ed ++ [(⟨i, idx g.st y, zd4 c m.kind⟩ : Edg)]).map eEd = g.ed.map eEd ++ [eEd ⟨i, idx g.st y, zd4 c m.kind⟩] := by simp
  exact ⟨(q + 1, ⟨g.st, g.ed ++ [⟨i, idx g.st y, zd4 c m.kind⟩]⟩), ⟨by show q + 1 ≤ ml.length; omega, g1, g2, g3, g4, g5, g6⟩, by show ml.length - (q + 1) < ml.length - q; omega,
   fun [_] => zb8 [0, 1, 2, 5] (by decide) ⟨⟨_, rfl, .rowE zj0 rfl⟩, ⟨_, rfl, .rowE (zde _) rfl⟩, ⟨_, rfl, zh5 rfl⟩, ⟨_, rfl, .rowE (zsq _) (by show _ = List.map eEd (_ ++ _); rw [List.map_append]; rfl)⟩, trivial⟩ ⟨.lo _ (lo_W w), .lo _ (by repeat' (first | exact Lo.s _ | exact zak | refine zah ?_ ?_ | refine zan ?_ | refine Lo.cells ?_ | refine Lo.agg _ ?_ | refine Lo.ref _ ?_ | refine Lo.tup _ ?_ | refine Lo.fn _ _ ?_ | refine Lo.sl _ ?_ | intro _)), .lo _ hln, .lo _ hlc, .ptr 0 0 3 0 0 rfl, .own 5 3 3 _ _ rfl (by simp), .own 1 1 1 _ _ rfl rfl, .mp 2 2 rfl, .lo _ (by repeat' (first | exact Lo.s _ | exact zak | refine zah ?_ ?_ | refine zan ?_ | refine Lo.cells ?_ | refine Lo.agg _ ?_ | refine Lo.ref _ ?_ | refine Lo.tup _ ?_ | refine Lo.fn _ _ ?_ | refine Lo.sl _ ?_ | intro _)), .lo _ (zmz _), .lo _ (by repeat' (first | exact Lo.s _ | exact zak | refine zah ?_ ?_ | refine zan ?_ | refine Lo.cells ?_ | refine Lo.agg _ ?_ | refine Lo.ref _ ?_ | refine Lo.tup _ ?_ | refine Lo.fn _ _ ?_ | refine Lo.sl _ ?_ | intro _)), .lo _ (by repeat' (first | exact Lo.s _ | exact zak | refine zah ?_ ?_ | refine zan ?_ | refine Lo.cells ?_ | refine Lo.agg _ ?_ | refine Lo.ref _ ?_ | refine Lo.tup _ ?_ | refine Lo.fn _ _ ?_ | refine Lo.sl _ ?_ | intro _)), trivial⟩⟩
end Aw
end Go.Proofs.YtjhdcgaiccnmeaaGreatDoor
