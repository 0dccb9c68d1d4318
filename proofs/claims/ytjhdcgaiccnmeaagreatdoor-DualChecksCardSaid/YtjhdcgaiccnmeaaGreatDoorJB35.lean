import Derived.Test.YtjhdcgaiccnmeaaGreatDoorJB34
import Derived.Test.YtjhdcgaiccnmeaaGreatDoorJB31
import Derived.Test.YtjhdcgaiccnmeaaGreatDoorJB25
import Derived.Test.YtjhdcgaiccnmeaaGreatDoorJB21
set_option linter.unusedSimpArgs false
set_option linter.unusedVariables false
set_option linter.unusedSectionVars false
namespace Go.Proofs.YtjhdcgaiccnmeaaGreatDoor
namespace Aw
open Go Go.RowKit Go.Proofs Go.Maps Go.WideMaps Dl
theorem noMp1 (X : List Ob) (h : X.all (fun ob => match ob with | .mp _ => false | _ => true) = true) : ∀ ob ∈ X, NoMp ob := fun ob hob => by
 have := List.all_eq_true.1 h ob hob
 cases ob <;> first | trivial | cases this
def zStA : AV := .agg [eI 0, eI 0, eS ByteArray.empty]
theorem ze6 : ∀ e ∈ [zStA], ∀ c ∈ e.cells, Lo 0 c := by
 intro e he c hc
 simp only [List.mem_singleton] at he; subst he
 simp only [zStA, AV.cells, List.mem_cons, List.not_mem_nil, or_false] at hc
 rcases hc with rfl | rfl | rfl <;> exact .s _
def eWr (r : List Int × Stp × Int) : AV := .tup [eL eI r.1, eSt r.2.1, eI r.2.2]
theorem z1o {k : Nat} (r : List Int × Stp × Int) : Lo k (eWr r) := .tup _ (zah lo_I (zah (.agg _ (zah (.s _) (zah (.s _) (zah (.s _) zak)))) (zah (.s _) zak)))
namespace K2
variable {P : Program} [IsP P]
theorem zku {A X : List Ob} {F : Frm} {tl ad u : Nat} {id : Nat} {ob : Ob} {cs : List AV} {a : AV} {r : List Int × Stp × Int} (hl : F.get tl = a) (hw : Wn a (eL eI r.1)) (hp : F.get ad = .ptr id 3 0 0) (hs : (A ++ X)[id]? = some ob) (ho : ze7 ob = some (3, cs)) (hk : cs[0]? = some (eSt r.2.1)) (hu : F.get u = eI r.2.2) :
  ∃ Y xs, A ++ X = A ++ Y ∧ ResL P F (A ++ X) [.tmp tl, .cell ad 37, .tmp u] xs ∧ Wn (zkb xs) (eWr r) :=
 ⟨X, _, rfl, .cons _ _ _ _ (.tmp tl _ hl) (.cons _ _ _ _ (.cells ad _ id 3 0 _ _ _ ob cs (eSt r.2.1) ta37 ti37 hp hs ho hk rfl) (.cons _ _ _ _ (.tmp u _ hu) .nil)), (WnL.cons hw (WnL.cons (.refl _) (WnL.cons (.refl _) WnL.nil))).tup⟩
theorem kw_join {P : Program} {N : Nat} {F : Frm} {σ : List Ob} {Q : Exit → Frm → List Ob → Prop} {c c2 c3 : Code} (F1 : Frm) (σ1 : List Ob)
  (h : KWp P N c F σ (zeh (fun F σ => KWp P N c2 F σ (zeh (fun F' σ' => WeakK N F' σ' F1 σ1) Q)) (zeh (fun F' σ' => WeakK N F' σ' F1 σ1) Q)))
  (k : KWp P N c3 F1 σ1 Q) : KWp P N c F σ (zeh (fun F σ => KWp P N c2 F σ (zeh (fun F σ => KWp P N c3 F σ Q) Q)) (zeh (fun F σ => KWp P N c3 F σ Q) Q)) := by
 have w : ∀ e F σ, zeh (fun F' σ' => WeakK N F' σ' F1 σ1) Q e F σ → zeh (fun F σ => KWp P N c3 F σ Q) Q e F σ := fun e F σ q => by
  cases e with
  | normal => exact kw_weak q k
  | _ => exact q
 refine kw_mono h (fun e F σ q => ?_)
 cases e with
 | normal => exact kw_mono q w
 | _ => first | exact w .ret F σ q | exact w (.exit _) F σ q | exact w (.goto _) F σ q | exact w (.panic _) F σ q | exact w .outgrown F σ q
set_option maxHeartbeats 4000000 in
theorem third_ce (n : Net) (w : List ByteArray) (c : Cst) (p : Prf) (hv : VD n w p) (hc : vcB c = true) :
  CallE P 50 [.ptr 0 10 0 0, eC c] (stC P n w p (endE n w).1 (p.st.zip p.pots)) (eWr (thS n w c p c6 (p.st.zip p.pots))) (stC P n w p (endE n w).1 (p.st.zip p.pots)) := by
 have hpl := hv.pl
 have hfw := hv.few
 have hlc : Lo 0 (.ref (eC c).cells) := .ref _ (zah (.s _) (zah (.s _) (zah (.s _) zak)))
 have hpot : ∀ s, okS n w s → ∀ X : List Ob, X.all (fun ob => match ob with | .mp _ => false | _ => true) = true → CallE P 52 [.ptr 0 10 0 0, eL eI s] (.row 10 [.agg (ckC n w p (endE n w).1 ++ [.mp 1])] :: .mp (poX P (p.st.zip p.pots)) :: X) (eFE (potX n w p s)) (.row 10 [.agg (ckC n w p (endE n w).1 ++ [.mp 1])] :: .mp (poX P (p.st.zip p.pots)) :: X) := fun s hs X hX =>
  (potential_ce n w p s hv hs).frameM rfl (noMp1 X hX) (fun id Y h => ⟨Y, h⟩) (by
   intro x hx
   simp only [List.mem_cons, List.not_mem_nil, or_false] at hx
   rcases hx with rfl | rfl
   ·
    exact .ptr 0 10 0 0 (Nat.succ_pos _)
   ·
    exact lo_I) zx4
 have hlin : ∀ s, okS n w s → Pure P 101 [ckR n w p (endE n w).1 (.mp 1), eL eI s] (eFE (linX n w p s)) := fun s hs =>
  zqr (fun v => zpg n w p _ s v ⟨hs.len.1, hs.len.2.1⟩ (by have h1 := hv.end_ok.len; have h2 := hs.len; omega) hv.wl hs.small hv.end_ok.small)
 have hth : ∀ s k l, thS n w c p c6 ((s, k) :: l) = if (linX n w p s).e ≠ 0 then ([], zStp, 6) else if grB (frE (linX n w p s)) (Fr.of k) ∨ (s = (endE n w).1 ∧ k ≠ 0) then (s, zStp, 0) else thR s (thM n w c p c6 s k (zds n w s)) (thS n w c p c6 l) := fun s k l => rfl
 have htm : ∀ s k m ms, thM n w c p c6 s k (m :: ms) = if (potX n w p (zd2 n w s m).1).e ≠ 0 then some (zStp, 6)
  else if (addE (Fr.of (zd4 c m.kind)) (frE (potX n w p (zd2 n w s m).1))).e ≠ 0 then some (zStp, 6)
  else if grB (Fr.of k) (frE (addE (Fr.of (zd4 c m.kind)) (frE (potX n w p (zd2 n w s m).1)))) then some (m, 0)
  else thM n w c p c6 s k ms := fun s k m ms => rfl
 generalize hR : thS n w c p c6 (p.st.zip p.pots) = R
 have hend := hv.end_ok
 generalize endE n w = e0 at hpot hlin hth hend ⊢
 have hzl : (p.st.zip p.pots).length = p.st.length := by simp; omega
 have hzg : ∀ k, k < p.st.length → (p.st.zip p.pots).drop k = (gti p.st k, gti p.pots k) :: (p.st.zip p.pots).drop (k + 1) := fun k hk => by
  rw [List.drop_eq_getElem_cons (by omega)]
  congr 1
  have hz : (p.st.zip p.pots)[k]? = some (gti p.st k, gti p.pots k) := by
   rw [List.getElem?_zip_eq_some]
   exact ⟨zdh hk, zdh (by omega)⟩
  rw [List.getElem?_eq_getElem (by omega)] at hz
  exact Option.some.inj hz
 generalize p.st.zip p.pots = Z at hpot hR hzl hzg ⊢
 refine callE_fnW rfl rfl zx4 (z1o R) (by rw [IsP.eq (P := P)]; exact Tryz.func50) rfl rfl (Nat.le_of_ble_eq_true rfl) ?_
 simp only [argF, stC]
 refine kw_seq (kw_region (kops_op rfl rfl (zaa rfl) (zb3 rfl rfl rfl rfl) (kops_s rfl (kops_op rfl rfl (zaa rfl) (za1 rfl ti37 rfl rfl) (kops_s rfl (kops_nil (kw_seq (kw_seq ?_))))))))
 refine kw_weak (kwk_froz (id := 2) rfl) ?_
 refine kw_weak (kwk_ref (d := 3) rfl rfl rfl) ?_
 refine kw_region (kops_s rfl (kops_s rfl (kops_f zkx rfl (kops_f zd6 rfl (kops_op rfl rfl (zaa rfl) (zaq rfl ta28 rfl rfl rfl rfl rfl) (kops_op rfl rfl (zaa rfl) (zao rfl ts28 rfl) (kops_s rfl (kops_nil (zai (kw_block ?_))))))))))
 refine kw_loops (S := Nat) (fun k => [(0, .ptr 0 10 0 0), (3, .ref (eC c).cells), (4, .s (.slice none 0 0)), (5, .ptr 2 3 0 0), (6, eI 0), (27, eL (eL eI) p.st), (28, eI p.st.length), (29, eI k)]) (fun _ => [.row 10 [.agg (ckC n w p e0.1 ++ [.mp 1])], .mp (poX P Z), .row 3 [zStA]]) (fun k => k ≤ p.st.length ∧ R = thS n w c p c6 (Z.drop k)) (fun k => p.st.length - k) 0
  (kwk_st [0, 1, 3] rfl rfl (by decide) ⟨⟨_, rfl, zjk rfl⟩, ⟨_, rfl, zh5 rfl⟩, ⟨_, rfl, .rowE ze6 rfl⟩, trivial⟩ ⟨.ptr 0 0 10 0 0 rfl, .lo _ hlc, .lo _ (.s _), .ptr 3 2 3 0 0 rfl, .lo _ (.s _), .lo _ (zgm _), .lo _ (.s _), .lo _ (.s _), trivial⟩) ⟨Nat.zero_le _, hR.symm⟩ (fun k hk => ?_)
 obtain ⟨hk, HI⟩ := hk
 refine kw_seq (kw_region ?_)
 refine kops_opP rfl rfl (zaa rfl) (za2 rfl rfl rfl) (fun h30 => ?_) (fun h30 => ?_)
 all_goals refine kops_nil (kw_seq ?_)
 all_goals (first | refine kw_true rfl ?_ | refine kw_false rfl ?_)
 all_goals (repeat (first | refine kw_seq ?_ | refine kw_skip ?_ | refine kw_block ?_))
 rotate_left 1
 ·
  have hke : k = p.st.length := by omega
  subst hke
  rw [List.drop_of_length_le (by omega)] at HI
  subst HI
  (refine kw_exit ?_; repeat (first | refine zcr ?_ | refine zbt ?_ | refine zbk rfl ?_ | refine zbl ?_ | refine zai ?_ | refine kw_seq ?_ | refine kw_skip ?_ | refine kw_block ?_))
  refine kw_region (kops_op rfl rfl (zaa rfl) (za9 rfl ti37 tp37 rfl rfl) (kops_s rfl (kops_eff rfl (zaa rfl) (zaj rfl ti37 rfl rfl rfl rfl rfl rfl (by decide) (by decide)) (kops_s rfl (kops_nil (zai ?_))))))
  (refine kw_ret ?_; repeat (first | refine zbc ?_ | refine zbe ?_))
  exact ⟨.inr rfl, zku (A := stC P n w p e0.1 Z) (r := ([], zStp, 10)) rfl .nil rfl rfl rfl rfl rfl⟩
 have hkt : k < p.st.length := by omega
 have his : (p.st.map (eL eI))[k]? = some (eL eI (gti p.st k)) := zbb hkt
 have hip : (p.pots.map eI)[k]? = some (eI (gti p.pots k)) := zbb (by omega)
 have hok := hv.ok _ (gti_mem hkt)
 have hpb := hv.pb _ (gti_mem (l := p.pots) (k := k) (by omega))
 rw [hzg k hkt, hth] at HI
 generalize gti p.st k = s at his hok HI
 generalize gti p.pots k = q at hip hpb HI
 have hw1 := zer (P := P) q
 have hl1 := hlin s hok
 have hsl := hok.len
 have hcl := zxb (P := P) s (by omega) hsl.1
 generalize linX n w p s = L at hl1 HI
 have hat := zl5 (P := P) (frE L) (Fr.of q)
 refine kw_region (kops_s rfl (kops_op rfl rfl (zaa rfl) (zal rfl ts28 ti29 rfl rfl rfl his rfl) (kops_l ta29 rfl (kops_s rfl (kops_s rfl (kops_nil (kw_seq (kw_region (kops_s rfl (kops_s rfl (kops_f zkx rfl (kops_f zbh rfl (kops_op rfl rfl (zaa rfl) (zaq rfl ta29 rfl rfl rfl rfl rfl) (kops_s rfl (kops_op rfl rfl (zaa rfl) (zal rfl ts29 ti3 rfl rfl rfl hip rfl) (kops_l ta3 rfl (kops_op rfl rfl (zaa rfl) (zam rfl rfl (hw1) (zae rfl zap)) (kops_op rfl rfl (zaa rfl) (za1 rfl ti56 rfl rfl) (kops_eff rfl (zaa rfl) (zaj rfl ti56 rfl rfl rfl rfl rfl rfl (by decide) (by decide)) ?_)))))))))))))))))))
 refine kops_nil (kw_seq ?_)
 refine kw_weak (kwk_froz (id := 3) rfl) ?_
 refine kw_weak (kwk_ref (d := 9) rfl rfl rfl) ?_
 refine kw_region (kops_s rfl (kops_s rfl ?_))
 refine kops_op rfl rfl (zaa rfl) (zcv rfl rfl hl1 (zbd.cons (.ptr 0 10 0 _ _ (.agg (ckC n w p e0.1 ++ [.mp 1])) rfl rfl rfl) (zbd.cons (.refl _) zbd.nil)) (by repeat' (first | exact Flat.s _ | exact zfn | refine ze4 ?_ ?_ | refine Flat.agg ?_ | refine Flat.tup ?_))) ?_
 refine kops_s rfl (kops_s rfl (kops_s rfl (kops_op rfl rfl (zaa rfl) (za1 rfl ti56 rfl rfl) (kops_eff rfl (zaa rfl) (zaj rfl ti56 rfl rfl rfl rfl rfl rfl (by decide) (by decide)) (kops_s rfl (kops_nil (kw_seq (kw_seq ?_))))))))
 refine kw_weak (kwk_froz (id := 4) rfl) ?_
 refine kw_weak (kwk_ref (d := 10) rfl rfl rfl) ?_
 refine kw_region (kops_s rfl ?_)
 refine kops_opP rfl rfl (zaa rfl) (zbp rfl rfl rfl) (fun h50 => ?_) (fun h50 => ?_)
 all_goals refine kops_nil (zai ?_)
 all_goals (first | refine kw_true rfl ?_ | refine kw_false rfl ?_)
 all_goals (repeat (first | refine kw_seq ?_ | refine kw_skip ?_))
 ·
  rw [if_pos h50] at HI
  subst HI
  refine kw_region (kops_op rfl rfl (zaa rfl) (za9 rfl ti37 tp37 rfl rfl) (kops_s rfl (kops_eff rfl (zaa rfl) (zaj rfl ti37 rfl rfl rfl rfl rfl rfl (by decide) (by decide)) (kops_s rfl (kops_nil (zai ?_))))))
  (refine kw_ret ?_; repeat (first | refine zbc ?_ | refine zbe ?_))
  exact ⟨.inr rfl, zku (A := stC P n w p e0.1 Z) (r := ([], zStp, 6)) rfl .nil rfl rfl rfl rfl rfl⟩
 rw [if_neg h50] at HI
 have hgr : grB (frE L) (Fr.of q) = !decide ((cmpE (frE L) (Fr.of q)).1 ≤ 0) := by unfold grB; rw [decide_not]
 rw [hgr] at HI
 generalize decide ((cmpE (frE L) (Fr.of q)).1 ≤ 0) = b at hat HI
 have heq := z0i (P := P) s e0.1
 have hlf : Lo 0 (.ref (eF (Fr.of q)).cells) := .ref _ (zfe _).cells
 have lo_Ms : ∀ {ms : List Stp}, Lo 0 (eL eSt ms) := fun {ms} => zan fun m => .agg _ (zah (.s _) (zah (.s _) (zah (.s _) zak)))
 cases b with
 | false =>
  rw [if_pos (.inl rfl)] at HI
  subst HI
  refine kw_region (kops_w ta56 ti56 rfl (kops_w ta56 ti56 rfl (kops_op rfl rfl (zaa rfl) (zam rfl rfl (hat) (zae rfl (zae rfl zap))) (kops_op rfl rfl (zaa rfl) (zbj rfl rfl) (kops_s rfl (kops_z rfl (kops_z rfl (kops_z rfl (kops_z rfl (kops_z rfl (kops_z rfl (kops_z rfl (kops_skip rfl rfl (zbi rfl rfl rfl) (kops_skip rfl rfl (zbi rfl rfl rfl) (kops_skip rfl rfl (zbi rfl rfl rfl) (kops_z rfl (kops_s rfl (kops_nil (zai (kw_true rfl (kw_seq (kw_region (kops_s rfl (kops_op rfl rfl (zaa rfl) (zam rfl rfl (hcl) (zae rfl zap)) ?_))))))))))))))))))))))))
  refine kops_op rfl rfl (zaa rfl) (za9 rfl ti37 tp37 rfl rfl) (kops_s rfl (kops_eff rfl (zaa rfl) (zaj rfl ti37 rfl rfl rfl rfl rfl rfl (by decide) (by decide)) (kops_s rfl (kops_nil (zai ?_)))))
  (refine kw_ret ?_; repeat (first | refine zbc ?_ | refine zbe ?_))
  exact ⟨.inr rfl, zku (A := stC P n w p e0.1 Z) (r := (s, zStp, 0)) rfl (.refl _) rfl rfl rfl rfl rfl⟩
 | true =>
 by_cases hw0 : s = e0.1 ∧ q ≠ 0
 ·
  rw [if_pos (.inr hw0)] at HI
  subst HI
  rw [decide_eq_true hw0.1] at heq
  refine kw_region (kops_w ta56 ti56 rfl (kops_w ta56 ti56 rfl (kops_op rfl rfl (zaa rfl) (zam rfl rfl (hat) (zae rfl (zae rfl zap))) (kops_op rfl rfl (zaa rfl) (zbj rfl rfl) (kops_s rfl (kops_s rfl (kops_s rfl (kops_s rfl (kops_f zjg rfl (kops_op rfl rfl (zat rfl rfl rfl) (zaq rfl ta29 rfl rfl rfl rfl rfl) (kops_op rfl rfl (zat rfl rfl rfl) (zam rfl rfl (heq) (zae rfl (zae rfl zap))) (kops_s rfl (kops_f zkw rfl (kops_l ta3 rfl (kops_op rfl rfl (zat rfl rfl rfl) (zdc hw0.2 (zbp rfl rfl rfl)) (kops_s rfl ?_))))))))))))))))
  refine kops_s rfl (kops_nil (zai (kw_true rfl (kw_seq (kw_region (kops_s rfl (kops_op rfl rfl (zaa rfl) (zam rfl rfl (hcl) (zae rfl zap)) (kops_op rfl rfl (zaa rfl) (za9 rfl ti37 tp37 rfl rfl) (kops_s rfl (kops_eff rfl (zaa rfl) (zaj rfl ti37 rfl rfl rfl rfl rfl rfl (by decide) (by decide)) (kops_s rfl (kops_nil (zai ?_)))))))))))))
  (refine kw_ret ?_; repeat (first | refine zbc ?_ | refine zbe ?_))
  exact ⟨.inr rfl, zku (A := stC P n w p e0.1 Z) (r := (s, zStp, 0)) rfl (.refl _) rfl rfl rfl rfl rfl⟩
 rw [if_neg (by rintro (h | h); cases h; exact hw0 h)] at HI
 refine kw_join [(0, .ptr 0 10 0 0), (3, .ref (eC c).cells), (4, .s (.slice none 0 0)), (5, .ptr 2 3 0 0), (6, eI 0), (8, eL eI s), (9, .ref (eF (Fr.of q)).cells), (27, eL (eL eI) p.st), (28, eI p.st.length), (29, eI k)] [.row 10 [.agg (ckC n w p e0.1 ++ [.mp 1])], .mp (poX P Z), .row 3 [zStA]] ?_ ?_
 ·
  by_cases he : s = e0.1
  ·
   have hq : q = 0 := Classical.byContradiction fun h => hw0 ⟨he, h⟩
   rw [decide_eq_true he] at heq
   refine kw_region (kops_w ta56 ti56 rfl (kops_w ta56 ti56 rfl (kops_op rfl rfl (zaa rfl) (zam rfl rfl (hat) (zae rfl (zae rfl zap))) (kops_op rfl rfl (zaa rfl) (zbj rfl rfl) (kops_s rfl (kops_s rfl (kops_s rfl (kops_s rfl (kops_f zjg rfl (kops_op rfl rfl (zat rfl rfl rfl) (zaq rfl ta29 rfl rfl rfl rfl rfl) (kops_op rfl rfl (zat rfl rfl rfl) (zam rfl rfl (heq) (zae rfl (zae rfl zap))) (kops_s rfl (kops_f zkw rfl (kops_l ta3 rfl ?_))))))))))))))
   refine kops_op rfl rfl (zat rfl rfl rfl) (zeg (fun h => h hq) (zbp rfl rfl rfl)) ?_
   refine kops_s rfl (kops_s rfl (kops_nil (zai ?_)))
   ·
    refine kw_false rfl (kw_skip (zai ?_))
    exact kwk_st [0, 1, 2] rfl rfl (by decide) ⟨⟨_, rfl, zjk rfl⟩, ⟨_, rfl, zh5 rfl⟩, ⟨_, rfl, .rowE ze6 rfl⟩, trivial⟩ ⟨.ptr 0 0 10 0 0 rfl, .lo _ hlc, .lo _ (.s _), .ptr 2 2 3 0 0 rfl, .lo _ (.s _), .lo _ lo_I, .lo _ hlf, .lo _ (zgm _), .lo _ (.s _), .lo _ (.s _), trivial⟩
  ·
   rw [decide_eq_false he] at heq
   refine kw_region (kops_w ta56 ti56 rfl (kops_w ta56 ti56 rfl (kops_op rfl rfl (zaa rfl) (zam rfl rfl (hat) (zae rfl (zae rfl zap))) (kops_op rfl rfl (zaa rfl) (zbj rfl rfl) (kops_s rfl (kops_s rfl (kops_s rfl (kops_s rfl (kops_f zjg rfl (kops_op rfl rfl (zat rfl rfl rfl) (zaq rfl ta29 rfl rfl rfl rfl rfl) (kops_op rfl rfl (zat rfl rfl rfl) (zam rfl rfl (heq) (zae rfl (zae rfl zap))) (kops_s rfl (kops_z rfl (kops_z rfl (kops_z rfl (kops_s rfl (kops_s rfl (kops_nil (zai (kw_false rfl (kw_skip (zai ?_))))))))))))))))))))))
   exact kwk_st [0, 1, 2] rfl rfl (by decide) ⟨⟨_, rfl, zjk rfl⟩, ⟨_, rfl, zh5 rfl⟩, ⟨_, rfl, .rowE ze6 rfl⟩, trivial⟩ ⟨.ptr 0 0 10 0 0 rfl, .lo _ hlc, .lo _ (.s _), .ptr 2 2 3 0 0 rfl, .lo _ (.s _), .lo _ lo_I, .lo _ hlf, .lo _ (zgm _), .lo _ (.s _), .lo _ (.s _), trivial⟩
 have hM := zno (P := P) n w s
 have hMe : zgs n w s = (zds n w s, 0) := by unfold zgs; exact if_pos hok
 rw [hMe] at hM
 have hml := zho hok
 have hmm := fun m => zgk (m := m) hok
 generalize hms : zds n w s = ms at hM HI hml hmm
 clear hMe hw1 hl1 hat hgr
 refine kw_seq ?_
 refine kw_draw hmix ?_
 refine kdraw_ex ?_
 refine ex_s rfl (ex_s rfl (ex_f zif rfl (zbv rfl rfl (zaa rfl) (zpe rfl ta24 ti24 rfl rfl rfl rfl (Nat.le_of_ble_eq_true rfl)) (ex_s rfl (ex_s rfl (ex_f znb rfl (zbv rfl rfl (zaa rfl) (zbr rfl ta25 rfl rfl rfl rfl rfl) (ex_s rfl (zay rfl rfl (zaa rfl) (fun _ => (zam rfl rfl (hM) (zae rfl (zae rfl (zae rfl zap))))) (ex_s rfl (ex_s rfl (ex_s rfl (ex_s rfl (ex_s rfl ?_))))))))))))))
 refine zcf (by kernel_rfl) ?_
 refine kw_seq (kw_region (kops_s rfl (kops_op rfl rfl (zaa rfl) (zao rfl ts68 rfl) (kops_s rfl (kops_nil (zai (kw_block ?_)))))))
 refine kw_loops (S := Nat) (fun j => [(0, .ptr 0 10 0 0), (3, .ref (eC c).cells), (4, .s (.slice none 0 0)), (5, .ptr 2 3 0 0), (6, eI 0), (8, eL eI s), (9, .ref (eF (Fr.of q)).cells), (27, eL (eL eI) p.st), (28, eI p.st.length), (29, eI k), (85, eL eSt ms), (86, eI ms.length), (87, eI j)]) (fun _ => [.row 10 [.agg (ckC n w p e0.1 ++ [.mp 1])], .mp (poX P Z), .row 3 [zStA]]) (fun j => j ≤ ms.length ∧ R = thR s (thM n w c p c6 s q (ms.drop j)) (thS n w c p c6 (Z.drop (k + 1)))) (fun j => ms.length - j) 0
  (kwk_st [0, 1, 2] rfl rfl (by decide) ⟨⟨_, rfl, zjk rfl⟩, ⟨_, rfl, zh5 rfl⟩, ⟨_, rfl, .rowE ze6 rfl⟩, trivial⟩ ⟨.ptr 0 0 10 0 0 rfl, .lo _ hlc, .lo _ (.s _), .ptr 2 2 3 0 0 rfl, .lo _ (.s _), .lo _ lo_I, .lo _ hlf, .lo _ (zgm _), .lo _ (.s _), .lo _ (.s _), .lo _ lo_Ms, .lo _ (.s _), .lo _ (.s _), trivial⟩) ⟨Nat.zero_le _, HI⟩ (fun j hj => ?_)
 clear HI
 obtain ⟨hj, HI⟩ := hj
 refine kw_seq (kw_region ?_)
 refine kops_opP rfl rfl (zaa rfl) (za2 rfl rfl rfl) (fun h88 => ?_) (fun h88 => ?_)
 all_goals refine kops_nil (kw_seq ?_)
 all_goals (first | refine kw_true rfl ?_ | refine kw_false rfl ?_)
 all_goals (repeat (first | refine kw_seq ?_ | refine kw_skip ?_ | refine kw_block ?_))
 rotate_left 1
 ·
  have hje : j = ms.length := by omega
  subst hje
  rw [List.drop_of_length_le (by omega)] at HI
  (refine kw_exit ?_; repeat (first | refine zcr ?_ | refine zbt ?_ | refine zbk rfl ?_ | refine zbl ?_ | refine zai ?_ | refine kw_seq ?_ | refine kw_skip ?_ | refine kw_block ?_))
  refine kw_region (kops_op rfl rfl (zaa rfl) (zax rfl rfl rfl (IntWalk.i64_in _ (by omega))) (kops_s rfl (kops_nil (zai ?_))))
  exact ⟨k + 1, ⟨by omega, HI⟩, by omega, kwk_st [0, 1, 2] rfl rfl (by decide) ⟨⟨_, rfl, zjk rfl⟩, ⟨_, rfl, zh5 rfl⟩, ⟨_, rfl, .rowE ze6 rfl⟩, trivial⟩ ⟨.ptr 0 0 10 0 0 rfl, .lo _ hlc, .lo _ (.s _), .ptr 2 2 3 0 0 rfl, .lo _ (.s _), .lo _ (zgm _), .lo _ (.s _), .lo _ (.s _), trivial⟩⟩
 have hjt : j < ms.length := by omega
 have hjm : ms[j]? = some (ms[j]'hjt) := List.getElem?_eq_getElem hjt
 have him : (ms.map eSt)[j]? = some (eSt (ms[j]'hjt)) := by rw [List.getElem?_map, hjm]; rfl
 have hmj := hmm _ (List.getElem_mem hjt)
 rw [List.drop_eq_getElem_cons hjt, htm] at HI
 generalize ms[j]'hjt = m at him hmj HI
 obtain ⟨ha1, ha2, ha3⟩ := hmj
 have hco := zw8 (P := P) c [m]
 rw [zsz hc ha2] at hco
 have hap := zs8 (P := P) n w s m
 rw [show zd2 n w s m = ((zd2 n w s m).1, 0) from Prod.ext rfl ha1] at hap
 have hpt := hpot _ ha3
 generalize (zd2 n w s m).1 = s2 at hap hpt HI
 generalize potX n w p s2 = Y at hpt HI
 generalize zd4 c m.kind = pc at hco HI
 have hw2 := zer (P := P) pc
 have had := zrd (P := P) (Fr.of pc) (frE Y)
 generalize addE (Fr.of pc) (frE Y) = A at had HI
 have hat := zl5 (P := P) (Fr.of q) (frE A)
 have hgr : grB (Fr.of q) (frE A) = !decide ((cmpE (Fr.of q) (frE A)).1 ≤ 0) := by unfold grB; rw [decide_not]
 rw [hgr] at HI
 generalize decide ((cmpE (Fr.of q) (frE A)).1 ≤ 0) = b at hat HI
 refine kw_region (kops_op rfl rfl (zaa rfl) (zal rfl ts68 ti37 rfl rfl rfl him rfl) (kops_w ta37 ti37 rfl (kops_op rfl rfl (zaa rfl) (za1 rfl ti37 rfl rfl) (kops_eff rfl (zaa rfl) (zaj rfl ti37 rfl rfl rfl rfl rfl rfl (by decide) (by decide)) (kops_nil (kw_seq ?_))))))
 refine kw_weak (kwk_froz (id := 3) rfl) ?_
 refine kw_weak (kwk_ref (d := 15) rfl rfl rfl) ?_
 refine kw_region (kops_w ta27 ti27 rfl (kops_w ta37 ti37 rfl ?_))
 refine kops_op rfl rfl (zaa rfl) (zco rfl ts68 ti37 rfl rfl (by decide) (by decide) rfl rfl rfl (by repeat' (first | exact Lo.s _ | exact zak | refine zah ?_ ?_ | refine zan ?_ | refine Lo.agg _ ?_ | refine Lo.sl _ ?_ | intro _))) ?_
 refine kops_op rfl rfl (zaa rfl) (zam rfl rfl (hco) (zae rfl (zae rfl zap))) (kops_s rfl (kops_s rfl (kops_s rfl (kops_s rfl (kops_s rfl (kops_nil (kw_seq ?_)))))))
 refine kw_draw hmix ?_
 refine kdraw_ex ?_
 refine ex_s rfl (ex_s rfl (ex_f zif rfl (zbv rfl rfl (zaa rfl) (zpe rfl ta24 ti24 rfl rfl rfl rfl (Nat.le_of_ble_eq_true rfl)) (ex_s rfl (ex_s rfl (ex_f znb rfl (zbv rfl rfl (zaa rfl) (zbr rfl ta25 rfl rfl rfl rfl rfl) (ex_s rfl (ex_w ta37 ti37 rfl (zay rfl rfl (zaa rfl) (fun _ => (zam rfl rfl (hap) (zae rfl (zae rfl (zae rfl (zae rfl zap)))))) (ex_s rfl (ex_s rfl (ex_s rfl (ex_s rfl (ex_s rfl ?_)))))))))))))))
 refine zcf (by kernel_rfl) ?_
 refine kw_seq (kw_region (kops_s rfl (kops_s rfl (kops_op rfl rfl (zaa rfl) (zbs rfl rfl (hpt _ rfl) rfl) (kops_s rfl (kops_s rfl (kops_s rfl (kops_op rfl rfl (zaa rfl) (za1 rfl ti56 rfl rfl) (kops_eff rfl (zaa rfl) (zaj rfl ti56 rfl rfl rfl rfl rfl rfl (by decide) (by decide)) (kops_s rfl (kops_nil (kw_seq (kw_seq ?_)))))))))))))
 refine kw_weak (kwk_froz (id := 4) rfl) ?_
 refine kw_weak (kwk_ref (d := 20) rfl rfl rfl) ?_
 refine kw_region (kops_s rfl ?_)
 refine kops_opP rfl rfl (zaa rfl) (zbp rfl rfl rfl) (fun h119 => ?_) (fun h119 => ?_)
 all_goals refine kops_nil (zai ?_)
 all_goals (first | refine kw_true rfl ?_ | refine kw_false rfl ?_)
 all_goals (repeat (first | refine kw_seq ?_ | refine kw_skip ?_))
 ·
  rw [if_pos h119] at HI
  subst HI
  refine kw_region (kops_op rfl rfl (zaa rfl) (za9 rfl ti37 tp37 rfl rfl) (kops_s rfl (kops_eff rfl (zaa rfl) (zaj rfl ti37 rfl rfl rfl rfl rfl rfl (by decide) (by decide)) (kops_s rfl (kops_nil (zai ?_))))))
  (refine kw_ret ?_; repeat (first | refine zbc ?_ | refine zbe ?_))
  exact ⟨.inr rfl, zku (A := stC P n w p e0.1 Z) (r := ([], zStp, 6)) rfl .nil rfl rfl rfl rfl rfl⟩
 rw [if_neg h119] at HI
 refine kw_draw hmix ?_
 refine kdraw_ex ?_
 refine ex_s rfl (zay rfl rfl (zaa rfl) (fun _ => (zam rfl rfl (hw2) (zae rfl zap))) (ex_w ta56 ti56 rfl (zay rfl rfl (zaa rfl) (fun _ => (zam rfl rfl (had) (zae rfl (zae rfl zap)))) (ex_s rfl (ex_s rfl (ex_s rfl ?_))))))
 refine zc9 rfl rfl (zaa rfl) (za1 rfl ti56 rfl rfl) (fun _ h => zdo h) ?_
 refine zci rfl (zaa rfl) (zaj rfl ti56 rfl rfl rfl rfl rfl rfl (by decide) (by decide)) (fun _ h => zbw h) ?_
 refine ex_s rfl ?_
 refine zcf (by kernel_rfl) ?_
 refine kw_seq (kw_seq ?_)
 refine kw_weak (kwk_froz (id := 5) rfl) ?_
 refine kw_weak (kwk_ref (d := 22) rfl rfl rfl) ?_
 refine kw_region (kops_s rfl ?_)
 refine kops_opP rfl rfl (zaa rfl) (zbp rfl rfl rfl) (fun h129 => ?_) (fun h129 => ?_)
 all_goals refine kops_nil (zai ?_)
 all_goals (first | refine kw_true rfl ?_ | refine kw_false rfl ?_)
 all_goals (repeat (first | refine kw_seq ?_ | refine kw_skip ?_))
 ·
  rw [if_pos h129] at HI
  subst HI
  refine kw_region (kops_op rfl rfl (zaa rfl) (za9 rfl ti37 tp37 rfl rfl) (kops_s rfl (kops_eff rfl (zaa rfl) (zaj rfl ti37 rfl rfl rfl rfl rfl rfl (by decide) (by decide)) (kops_s rfl (kops_nil (zai ?_))))))
  (refine kw_ret ?_; repeat (first | refine zbc ?_ | refine zbe ?_))
  exact ⟨.inr rfl, zku (A := stC P n w p e0.1 Z) (r := ([], zStp, 6)) rfl .nil rfl rfl rfl rfl rfl⟩
 rw [if_neg h129] at HI
 refine kw_region (kops_w ta56 ti56 rfl (kops_w ta56 ti56 rfl (kops_op rfl rfl (zaa rfl) (zam rfl rfl (hat) (zae rfl (zae rfl zap))) (kops_op rfl rfl (zaa rfl) (zbj rfl rfl) (kops_nil (zai ?_))))))
 cases b with
 | false =>
  rw [if_pos (by decide)] at HI
  refine kw_true rfl (kw_seq ?_)
  subst HI
  refine kw_draw hmix ?_
  refine kdraw_ex ?_
  refine ex_s rfl (zay rfl rfl (zaa rfl) (fun _ => (zam rfl rfl (hcl) (zae rfl zap))) (ex_w ta37 ti37 rfl (ex_s rfl ?_)))
  refine zci rfl (zaa rfl) (zaj rfl ti37 rfl rfl rfl rfl rfl rfl (by decide) (by decide)) (fun _ h => zbw h) ?_
  refine ex_s rfl ?_
  refine zcf (by kernel_rfl) ?_
  refine zai ?_
  (refine kw_ret ?_; repeat (first | refine zbc ?_ | refine zbe ?_))
  exact ⟨.inr rfl, zku (A := stC P n w p e0.1 Z) (r := (s, m, 0)) rfl (.refl _) rfl rfl rfl rfl rfl⟩
 | true =>
  rw [if_neg (by decide)] at HI
  refine kw_false rfl (kw_skip (zbl (zai (kw_region (kops_op rfl rfl (zaa rfl) (zax rfl rfl rfl (IntWalk.i64_in _ (by omega))) (kops_s rfl (kops_nil (zai ?_))))))))
  exact ⟨j + 1, ⟨by omega, HI⟩, by omega, kwk_st [0, 1, 2] rfl rfl (by decide) ⟨⟨_, rfl, zjk rfl⟩, ⟨_, rfl, zh5 rfl⟩, ⟨_, rfl, .rowE ze6 rfl⟩, trivial⟩ ⟨.ptr 0 0 10 0 0 rfl, .lo _ hlc, .lo _ (.s _), .ptr 2 2 3 0 0 rfl, .lo _ (.s _), .lo _ lo_I, .lo _ hlf, .lo _ (zgm _), .lo _ (.s _), .lo _ (.s _), .lo _ lo_Ms, .lo _ (.s _), .lo _ (.s _), trivial⟩⟩
end K2
end Aw
namespace Aw
open Go Go.RowKit Go.Proofs Go.Maps Go.WideMaps Dl
def stC1 (P : Program) (n : Net) (w : List ByteArray) (p : Prf) (e : List Int) (L : List (List Int × Int)) : List Ob := [.row 10 [.agg (ckC n w p e ++ [.mp 2])], .mp (poX P L)]
namespace K1
variable {P : Program} [IsP P]
set_option maxHeartbeats 2000000 in
theorem check_ce1 (sz : Nat) (cs : List AV) (hX : ∀ e ∈ cs, ∀ c ∈ e.cells, Lo 0 c) (n : Net) (w : List ByteArray) (p : Prf) (hv : VD n w p) : CallE P 48 [eN n, eL eS w, ePf p] [.row sz cs] (.ptr 1 10 0 0) (.row sz cs :: stC1 P n w p (endE n w).1 (p.st.zip p.pots)) := by
 have hen := zww (P := P) n w
 have hln : Lo 0 (.ref (eN n).cells) := .ref _ (lo_N n).cells
 have hlp : Lo 0 (.ref (ePf p).cells) := ze2 p
 have hpl := hv.pl
 have hfw := hv.few
 generalize endE n w = e0 at hen ⊢
 refine callE_fn1 (by simp) (by rw [IsP.eq (P := P)]; exact Tryz.func48) rfl rfl (Nat.le_of_ble_eq_true rfl) rfl ?_
 simp only [argF]
 refine kw_seq (kw_region (kops_op rfl rfl (zaa rfl) (zb3 rfl rfl rfl rfl) (kops_op rfl rfl (zaa rfl) (zb3 rfl rfl rfl rfl) (kops_s rfl (kops_nil (kw_seq ?_))))))
 refine kw_weak (kwk_froz (id := 1) rfl) ?_
 refine kw_weak (kwk_ref (d := 3) rfl rfl rfl) ?_
 refine kw_weak (kwk_froz (id := 2) rfl) ?_
 refine kw_weak (kwk_ref (d := 5) rfl rfl rfl) ?_
 refine kw_region (kops_w ta24 ti24 rfl (kops_s rfl (kops_w ta32 ti32 rfl (kops_op rfl rfl (zaa rfl) (zh3 rfl zjf) (kops_op rfl rfl (zaa rfl) (za9 rfl ti142 tp142 rfl rfl) (kops_op rfl rfl (zaa rfl) (zb3 rfl rfl rfl rfl) (kops_s rfl (kops_nil (kw_seq ?_)))))))))
 refine kw_weak (F' := [(1, eL eS w), (3, .ref (eN n).cells), (5, .ref (ePf p).cells), (7, .ptr 1 10 0 0)]) (σ' := [.row sz cs, .row 10 [.agg [eI n.places, eL eT n.trans, eI n.source, eI n.sink, eL eS w, eL (eL eI) p.st, eL eI p.pots, eL eF p.duals, .s (.slice none 0 0), .mp 2]], .mp (poX P [])])
  (kwk_st [0, 4, 3] rfl (by decide) ⟨⟨_, rfl, .rowE hX rfl⟩, ⟨_, rfl, zc5 (.cons (.lo _ (.s _)) (.cons (.lo _ (zll n)) (.cons (.lo _ (.s _)) (.cons (.lo _ (.s _)) (.cons (.lo _ (lo_W w)) (.cons (.lo _ (zgm _)) (.cons (.lo _ lo_I) (.cons (.lo _ (zan fun a => zfe a)) (.cons (.lo _ (.s _)) (.cons (.mp _ _ rfl) .nil))))))))))⟩, ⟨_, rfl, zh5 rfl⟩, trivial⟩ ⟨.lo _ (lo_W w), .lo _ hln, .lo _ hlp, .ptr 4 1 10 0 0 rfl, trivial⟩) ?_
 refine kw_region (kops_s rfl (kops_w ta24 ti24 rfl (kops_s rfl (kops_op rfl rfl (zaa rfl) (zam rfl rfl (hen) (zae rfl (zae rfl zap))) (kops_s rfl (kops_s rfl (kops_s rfl (kops_s rfl (kops_f zjg rfl (kops_eff rfl (zaa rfl) (zaj rfl ti29 rfl rfl rfl rfl rfl rfl (by decide) (by decide)) (kops_nil (kw_seq (kw_seq (kw_region (kops_f zd6 rfl (kops_l ta28 rfl (kops_op rfl rfl (zaa rfl) (zao rfl ts28 rfl) (kops_s rfl (kops_nil (zai (kw_block ?_)))))))))))))))))))))
 refine kw_loops (S := Nat) (fun k => [(1, eL eS w), (3, .ref (eN n).cells), (5, .ref (ePf p).cells), (7, .ptr 1 10 0 0), (26, eL (eL eI) p.st), (27, eI p.st.length), (28, eI k)]) (fun k => .row sz cs :: stC1 P n w p e0.1 ((p.st.zip p.pots).take k)) (fun k => k ≤ p.st.length) (fun k => p.st.length - k) 0
  (kwk_sub ⟨rfl, rfl, rfl, rfl, rfl, rfl, rfl, trivial⟩) (Nat.zero_le _) (fun k hk => ?_)
 replace hk : k ≤ p.st.length := hk
 have hzl : (p.st.zip p.pots).length = p.st.length := by simp; omega
 refine kw_seq (kw_region ?_)
 refine kops_opP rfl rfl (zaa rfl) (za2 rfl rfl rfl) (fun h29 => ?_) (fun h29 => ?_)
 all_goals refine kops_nil (kw_seq ?_)
 all_goals (first | refine kw_true rfl ?_ | refine kw_false rfl ?_)
 all_goals (repeat (first | refine kw_seq ?_ | refine kw_skip ?_ | refine kw_block ?_))
 rotate_left 1
 ·
  have hke : k = p.st.length := by omega
  subst hke
  rw [List.take_of_length_le (by omega)]
  (refine kw_exit ?_; repeat (first | refine zcr ?_ | refine zbt ?_ | refine zbk rfl ?_ | refine zbl ?_ | refine zai ?_ | refine kw_seq ?_ | refine kw_skip ?_ | refine kw_block ?_))
  refine kw_region (kops_s rfl (kops_s rfl (kops_nil (zai ?_))))
  (refine kw_ret ?_; repeat (first | refine zbc ?_ | refine zbe ?_))
  exact ⟨.inr rfl, rfl, rfl⟩
 have hkt : k < p.st.length := by omega
 have hz : (p.st.zip p.pots)[k]? = some (gti p.st k, gti p.pots k) := by
  rw [List.getElem?_zip_eq_some]
  exact ⟨zdh hkt, zdh (by omega)⟩
 have htk : (p.st.zip p.pots).take (k + 1) = (p.st.zip p.pots).take k ++ [(gti p.st k, gti p.pots k)] := by rw [List.take_add_one, hz]; rfl
 have his : (p.st.map (eL eI))[k]? = some (eL eI (gti p.st k)) := zbb hkt
 have hip : (p.pots.map eI)[k]? = some (eI (gti p.pots k)) := zbb (by omega)
 have hok := hv.ok _ (gti_mem hkt)
 have hpb := hv.pb _ (gti_mem (l := p.pots) (k := k) (by omega))
 generalize gti p.st k = s at his hok htk
 generalize gti p.pots k = q at hip hpb htk
 have hkp := zio (P := P) hok
 have hks := zil hok
 have hwf := zzw hpb
 refine kw_region (kops_s rfl (kops_op rfl rfl (zaa rfl) (zal rfl ts28 ti29 rfl rfl rfl his rfl) (kops_l ta29 rfl (kops_s rfl (kops_s rfl (kops_nil (zai ?_)))))))
 refine kw_draw hmix ?_
 refine kdraw_ex ?_
 refine ex_s rfl (ex_s rfl (ex_f zna rfl (zbv rfl rfl (zaa rfl) (zbr rfl zx3 rfl rfl rfl rfl rfl) (ex_s rfl (zay rfl rfl (zaa rfl) (fun _ => (zam rfl rfl (hkp) (zae rfl zap))) (ex_f zbh rfl (ex_l ta29 rfl (ex_s rfl (zay rfl rfl (zaa rfl) (fun _ => (zal rfl ts29 ti3 rfl rfl rfl hip rfl)) (ex_l ta3 rfl ?_))))))))))
 refine zci rfl (zaa rfl) (zf4 (.inl rfl) zjf tK9 rfl rfl ⟨rfl, rfl, rfl⟩ (by show ((p.st.zip p.pots).take k).length < maxLen; rw [List.length_take]; unfold maxLen; omega) rfl rfl (keyOf_string_mk tn9 (by first | assumption | (unfold maxLen; omega))) (plainElem_int tn3 (by first | rfl | assumption))) (fun _ h => zbw h) ?_
 refine zcf (by kernel_rfl) ?_
 refine zbl (zai (kw_region (kops_op rfl rfl (zaa rfl) (zax rfl rfl rfl (IntWalk.i64_in _ (by omega))) (kops_s rfl (kops_nil (zai ?_))))))
 exact ⟨k + 1, by omega, by omega, kwk_st [0, 1, 2] rfl (by decide) ⟨⟨_, rfl, .rowE hX rfl⟩, ⟨_, rfl, zc5 (.cons (.lo _ (.s _)) (.cons (.lo _ (zll n)) (.cons (.lo _ (.s _)) (.cons (.lo _ (.s _)) (.cons (.lo _ (lo_W w)) (.cons (.lo _ (zgm _)) (.cons (.lo _ lo_I) (.cons (.lo _ (zan fun a => zfe a)) (.cons (.lo _ lo_I) (.cons (.mp _ _ rfl) .nil))))))))))⟩, ⟨_, rfl, zh5 (by rw [htk]; exact (zsa P _ (s, q)).symm)⟩, trivial⟩ ⟨.lo _ (lo_W w), .lo _ hln, .lo _ hlp, .ptr 1 1 10 0 0 rfl, .lo _ (zgm _), .lo _ (.s _), .lo _ (.s _), trivial⟩⟩
end K1
end Aw
namespace Aw
open Go Go.RowKit Go.Proofs Go.Maps Go.WideMaps Dl
variable {P : Program} [IsP P]
def zhr (a : Fr) : Int := if a.n.tmod a.d < 0 then a.n.tdiv a.d - 1 else a.n.tdiv a.d
theorem zuq {n d : Int} (hn : -1073741824 ≤ n ∧ n ≤ 1073741824) (hd : 1 ≤ d) : -1073741824 ≤ n.tdiv d ∧ n.tdiv d ≤ 1073741824 := by
 rcases Int.lt_or_le n 0 with h | h
 ·
  have e : n.tdiv d = -((-n).tdiv d) := by rw [Int.neg_tdiv]; omega
  have h1 : (-n).tdiv d = (-n) / d := Int.tdiv_eq_ediv_of_nonneg (by omega)
  have h2 : (-n) / d ≤ -n := Int.ediv_le_self _ (by omega)
  have h3 : 0 ≤ (-n) / d := Int.ediv_nonneg (by omega) (by omega)
  omega
 ·
  have h1 : n.tdiv d = n / d := Int.tdiv_eq_ediv_of_nonneg h
  have h2 : n / d ≤ n := Int.ediv_le_self _ h
  have h3 : 0 ≤ n / d := Int.ediv_nonneg h (by omega)
  omega
theorem zwm {a : Fr} (hd : 1 ≤ a.d) : zhr a = a.n / a.d := by
 have h1 := Int.mul_tdiv_add_tmod a.n a.d
 have h2 : a.n.tmod a.d < a.d := Int.tmod_lt_of_pos _ (by omega)
 have h3 : -a.d < a.n.tmod a.d := by
  rcases Int.lt_or_le a.n 0 with h | h
  ·
   have e : (-a.n).tmod a.d = -(a.n.tmod a.d) := Int.neg_tmod ..
   have := Int.tmod_lt_of_pos (-a.n) (b := a.d) (by omega)
   omega
  ·
   have := Int.tmod_nonneg (a := a.n) a.d h
   omega
 unfold zhr
 generalize a.n.tdiv a.d = q at h1
 generalize a.n.tmod a.d = r at h1 h2 h3
 split
 ·
  refine ((Int.ediv_emod_unique (r := r + a.d) (by omega)).2 ⟨?_, by omega, by omega⟩).1.symm
  rw [Int.mul_sub]
  omega
 ·
  exact ((Int.ediv_emod_unique (r := r) (by omega)).2 ⟨by omega, by omega, by omega⟩).1.symm
theorem zym {a : Fr} (h : a.okB = true) : (-1073741824 ≤ a.n ∧ a.n ≤ 1073741824) ∧ 1 ≤ a.d ∧ a.d ≤ 1073741824 := by
 have := (Fr.okB_iff a).1 h
 exact ⟨⟨this.1, this.2.1⟩, this.2.2.1, this.2.2.2.1⟩
theorem zwq (a : Fr) (h : a.okB = true) : Pure P 53 [eF a] (.tup [eI (zhr a), eI 0]) := by
 have hv := zi8 (P := P) a
 obtain ⟨hn, hd⟩ := zym h
 rw [h] at hv
 have hd0 : a.d ≠ 0 := by omega
 have hb := zuq hn hd.1
 refine zcl (by rw [IsP.eq (P := P)]; exact Tryz.func53) rfl rfl rfl rfl rfl (zah (zfe a) zak) (.tup _ (zah (.s _) (zah (.s _) zak))) (by simp only [argF]; rfl) ?_
 refine zag (zab (zaf rfl rfl (zaa rfl) (zb3 rfl rfl rfl rfl) ?_))
 refine za6 (zbm (id := 0) rfl) (za6 (zcb (d := 1) rfl rfl rfl) ?_)
 refine zac rfl (zac rfl (zad (zag (zag (zab (zcx ta56 ti56 rfl (zaf rfl rfl (zaa rfl) (zam rfl rfl (hv) (zae rfl zap)) (zaf rfl rfl (zaa rfl) (zbj rfl rfl) (zad (zai (zau rfl (zar (zag (zab (zbz zkw rfl (zbu ta3 rfl (zbz zrz rfl (zbu ta3 rfl (zaf rfl rfl (zaa rfl) (zsv rfl rfl rfl (by omega) (IntWalk.i64_in _ (by omega))) (zac rfl (zad (zag (zag (zab (zbz zkw rfl (zbu ta3 rfl (zbz zrz rfl (zbu ta3 rfl (zaf rfl rfl (zaa rfl) (zsu rfl rfl rfl (by omega) rfl) ?_)))))))))))))))))))))))))))))
 refine za3 rfl rfl (zaa rfl) (za2 rfl rfl rfl) (fun h18 => ?_) (fun h18 => ?_)
 all_goals refine zad (zai ?_)
 all_goals (first | refine za5 rfl ?_ | refine zau rfl ?_)
 all_goals (repeat (first | refine zag ?_ | refine zar ?_))
 ·
  refine zab (zac rfl (zaf rfl rfl (zaa rfl) (zdx rfl rfl rfl (IntWalk.i64_in _ (by omega))) (zac rfl (zad (zag (zab (zac rfl (zac rfl (zac rfl (zad (zai ?_)))))))))))
  (refine za7 ?_; repeat (first | refine zbc ?_ | refine zbe ?_))
  rw [show zhr a = a.n.tdiv a.d - 1 from if_pos h18]
  exact zqt (.inr rfl) rfl rfl (.refl _) (.refl _)
 ·
  refine zab (zac rfl (zac rfl (zac rfl (zad (zai ?_)))))
  (refine za7 ?_; repeat (first | refine zbc ?_ | refine zbe ?_))
  rw [show zhr a = a.n.tdiv a.d from if_neg h18]
  exact zqt (.inr rfl) rfl rfl (.refl _) (.refl _)
theorem zuz (a : Fr) (h : a.okB = true) : Pure P 55 [eF a] (eI (zhr a)) := by
 obtain ⟨hn, hd⟩ := zym h
 have hd0 : a.d ≠ 0 := by omega
 have hb := zuq hn hd.1
 refine zcl (by rw [IsP.eq (P := P)]; exact Tryz.func55) rfl rfl rfl rfl rfl (zah (zfe a) zak) (.s _) (by simp only [argF]; rfl) ?_
 refine zag (zab (zaf rfl rfl (zaa rfl) (zb3 rfl rfl rfl rfl) ?_))
 refine za6 (zbm (id := 0) rfl) (za6 (zcb (d := 1) rfl rfl rfl) ?_)
 refine zac rfl (zad (zag (zab (zbz zkw rfl (zbu ta3 rfl (zbz zrz rfl (zbu ta3 rfl (zaf rfl rfl (zaa rfl) (zsv rfl rfl rfl (by omega) (IntWalk.i64_in _ (by omega))) (zac rfl (zad (zag (zag (zab (zbz zkw rfl (zbu ta3 rfl (zbz zrz rfl (zbu ta3 rfl (zaf rfl rfl (zaa rfl) (zsu rfl rfl rfl (by omega) rfl) ?_))))))))))))))))))
 refine za3 rfl rfl (zaa rfl) (za2 rfl rfl rfl) (fun h14 => ?_) (fun h14 => ?_)
 all_goals refine zad (zai ?_)
 all_goals (first | refine za5 rfl ?_ | refine zau rfl ?_)
 all_goals (repeat (first | refine zag ?_ | refine zar ?_))
 ·
  refine zab (zac rfl (zaf rfl rfl (zaa rfl) (zdx rfl rfl rfl (IntWalk.i64_in _ (by omega))) (zac rfl (zad (zag (zab (zac rfl (zac rfl (zad (zai ?_))))))))))
  (refine za7 ?_; repeat (first | refine zbc ?_ | refine zbe ?_))
  exact zb6 (.inr rfl) rfl (congrArg eI (if_pos h14).symm)
 ·
  refine zab (zac rfl (zac rfl (zad (zai ?_))))
  (refine za7 ?_; repeat (first | refine zbc ?_ | refine zbe ?_))
  exact zb6 (.inr rfl) rfl (congrArg eI (if_neg h14).symm)
def zj1 (n : Net) (w : List ByteArray) (c : Cst) (p : Prf) : List Int × Stp × Int := if vcB c = true ∧ vdB n w p = true then zf6 n w c p c6 else ([], zStp, 1)
theorem zfq {F : Frm} {σ : List Ob} {tl ad u id : Nat} {ob : Ob} {cs : List AV} {a : AV} {r : List Int × Stp × Int} {e : Exit} (he : e = .normal ∨ e = .ret) (hl : F.get tl = a) (hw : Fini σ a (eL eI r.1)) (hp : F.get ad = .ptr id 3 0 0) (hs : σ[id]? = some ob) (ho : ze7 ob = some (3, cs)) (hk : cs[0]? = some (eSt r.2.1)) (hu : F.get u = eI r.2.2) :
  zl7 P [.tmp tl, .cell ad 37, .tmp u] (eWr r) e F σ :=
 ⟨he, _, .cons _ _ _ _ (.tmp tl _ hl) (.cons _ _ _ _ (.cells ad _ id 3 0 _ _ _ ob cs (eSt r.2.1) ta37 ti37 hp hs ho hk rfl) (.cons _ _ _ _ (.tmp u _ hu) .nil)), .tup _ _ rfl (zbd.cons hw (zbd.cons (.refl _) (zbd.cons (.refl _) zbd.nil))).2⟩
set_option maxHeartbeats 1000000 in
theorem zru (n : Net) (w : List ByteArray) (c : Cst) (p : Prf) : Pure P 12 [eN n, eL eS w, eC c, ePf p] (eWr (zj1 n w c p)) := by
 have hvc := zit (P := P) c
 have hvd := zw6 (P := P) n w p
 have hln : Lo 0 (.ref (eN n).cells) := .ref _ (lo_N n).cells
 have hlp : Lo 0 (.ref (ePf p).cells) := ze2 p
 have hlc : Lo 0 (.ref (eC c).cells) := .ref _ (lo_C c).cells
 refine zcl (by rw [IsP.eq (P := P)]; exact Tryz.func12) rfl rfl rfl rfl rfl (zah (lo_N n) (zah (lo_W w) (zah (lo_C c) (zah (zij p) zak)))) (z1o _) (by simp only [argF]; rfl) ?_
 refine zag (zab (zaf rfl rfl (zaa rfl) (zb3 rfl rfl rfl rfl) ?_))
 refine za6 (zbm (id := 0) rfl) (za6 (zcb (d := 4) rfl rfl rfl) ?_)
 refine zaf rfl rfl (zaa rfl) (zb3 rfl rfl rfl rfl) ?_
 refine za6 (zbm (id := 1) rfl) (za6 (zcb (d := 6) rfl rfl rfl) ?_)
 refine zaf rfl rfl (zaa rfl) (zb3 rfl rfl rfl rfl) ?_
 refine za6 (zbm (id := 2) rfl) (za6 (zcb (d := 7) rfl rfl rfl) ?_)
 refine zac rfl (zaf rfl rfl (zaa rfl) (za1 rfl ti37 rfl rfl) (zac rfl (zad (zag (zag ?_)))))
 refine zbg (F' := [(1, eL eS w), (4, .ref (eN n).cells), (6, .ref (eC c).cells), (7, .ref (ePf p).cells), (8, .s (.slice none 0 0)), (9, .ptr 0 3 0 0), (10, eI 0)]) (σ' := [.row 3 [zStA]])
  (zb8 [3] (by decide) ⟨⟨_, rfl, .rowE ze6 rfl⟩, trivial⟩ ⟨.lo _ (lo_W w), .lo _ hln, .lo _ hlc, .lo _ hlp, .lo _ (.s _), .ptr 3 0 3 0 0 rfl, .lo _ (.s _), trivial⟩) ?_
 by_cases hb : vcB c = true ∧ vdB n w p = true
 rotate_left 1
 ·
  have hR : zj1 n w c p = ([], zStp, 1) := if_neg hb
  rw [hR]
  generalize vcB c = b1 at hvc hb
  generalize vdB n w p = b2 at hvd hb
  have hc : (b1 = false) ∨ (b1 = true ∧ b2 = false) := by cases b1 <;> cases b2 <;> simp_all
  rcases hc with rfl | ⟨rfl, rfl⟩
  all_goals
   refine zab (zcx ta27 ti27 rfl (zaf rfl rfl (zaa rfl) (zam rfl rfl (hvc) (zae rfl zap)) (zaf rfl rfl (zaa rfl) (zbj rfl rfl) (zac rfl ?_))))
   first | refine zcx ta24 ti24 rfl ?_ | refine za4 rfl ?_
   first | refine zac rfl ?_ | refine za4 rfl ?_
   first | refine zcx ta32 ti32 rfl ?_ | refine za4 rfl ?_
   first | refine zaf rfl rfl (zat rfl rfl rfl) (zam rfl rfl (hvd) (zae rfl (zae rfl (zae rfl zap)))) ?_ | refine za4 rfl ?_
   first | refine zaf rfl rfl (zat rfl rfl rfl) (zbj rfl rfl) ?_ | refine za4 rfl ?_
   refine zac rfl (zad (zai (za5 rfl (zag (zab (zaf rfl rfl (zaa rfl) (za9 rfl ti37 tp37 rfl rfl) (zac rfl (zba rfl (zaa rfl) (zaj rfl ti37 rfl rfl rfl rfl rfl rfl (by decide) (by decide)) (zac rfl (zad (zai ?_)))))))))))
   (refine za7 ?_; repeat (first | refine zbc ?_ | refine zbe ?_))
   exact zfq (r := ([], zStp, 1)) (.inr rfl) rfl .nil rfl rfl rfl rfl rfl
 have hR : zj1 n w c p = zf6 n w c p c6 := if_pos hb
 obtain ⟨hb1, hb2⟩ := hb
 have hv := zhi.1 hb2
 rw [hR]
 rw [hb1] at hvc
 rw [hb2] at hvd
 have hck := K1.check_ce1 (P := P) 3 [zStA] ze6 n w p hv
 have hth : CallE P _ _ _ _ _ := (K2.third_ce (P := P) n w c p hv hb1).frameM (X := [.row 3 [zStA]]) rfl (noMp1 _ rfl) (fun id Y h => ⟨Y, h⟩) (by
   intro x hx
   simp only [List.mem_cons, List.not_mem_nil, or_false] at hx
   rcases hx with rfl | rfl
   ·
    exact .ptr 0 10 0 0 (Nat.succ_pos _)
   ·
    exact lo_C c) zx4
 have hfi : Pure P 49 [ckR n w p (endE n w).1 (.mp 1), eC c] (eI (fstE n w c p c6)) := zqr fun v => zy9 n w c p _ v hv
 have hW : zf6 n w c p c6 = if fstE n w c p c6 ≠ 0 then ([], zStp, fstE n w c p c6) else thS n w c p c6 (p.st.zip p.pots) := rfl
 rw [hW]
 generalize endE n w = e0 at hck hth hfi
 generalize thS n w c p c6 (p.st.zip p.pots) = T at hth ⊢
 generalize p.st.zip p.pots = Z at hck hth
 generalize fstE n w c p c6 = fe at hfi ⊢
 refine zab (zcx ta27 ti27 rfl (zaf rfl rfl (zaa rfl) (zam rfl rfl (hvc) (zae rfl zap)) (zaf rfl rfl (zaa rfl) (zbj rfl rfl) (zac rfl (zcx ta24 ti24 rfl (zac rfl (zcx ta32 ti32 rfl (zaf rfl rfl (zat rfl rfl rfl) (zam rfl rfl (hvd) (zae rfl (zae rfl (zae rfl zap)))) (zaf rfl rfl (zat rfl rfl rfl) (zbj rfl rfl) (zac rfl (zad (zai (zau rfl (zar (zag (zab (zcx ta24 ti24 rfl (zac rfl (zcx ta32 ti32 rfl (zaf rfl rfl (zaa rfl) (zbs rfl rfl hck rfl) ?_))))))))))))))))))))
 refine zac rfl (zad (zag (zag ?_)))
 refine zbg (F' := [(6, .ref (eC c).cells), (8, .s (.slice none 0 0)), (9, .ptr 2 3 0 0), (10, eI 0), (11, .ptr 0 10 0 0)]) (σ' := [.row 10 [.agg (ckC n w p e0.1 ++ [.mp 1])], .mp (poX P Z), .row 3 [zStA]])
  (zb8 [1, 2, 0] (by decide) ⟨⟨_, rfl, zc5 (.cons (.lo _ (.s _)) (.cons (.lo _ (zll n)) (.cons (.lo _ (.s _)) (.cons (.lo _ (.s _)) (.cons (.lo _ (lo_W w)) (.cons (.lo _ (zgm _)) (.cons (.lo _ lo_I) (.cons (.lo _ (zan fun a => zfe a)) (.cons (.lo _ lo_I) (.cons (.mp 2 1 rfl) .nil))))))))))⟩, ⟨_, rfl, zh5 rfl⟩, ⟨_, rfl, .rowE ze6 rfl⟩, trivial⟩ ⟨.lo _ hlc, .lo _ (.s _), .ptr 0 2 3 0 0 rfl, .lo _ (.s _), .ptr 1 0 10 0 0 rfl, trivial⟩) ?_
 refine zab (zac rfl (zcx ta27 ti27 rfl ?_))
 refine zaf rfl rfl (zaa rfl) (zcv rfl rfl hfi (zbd.cons (.ptr 0 10 0 _ _ (.agg (ckC n w p e0.1 ++ [.mp 1])) rfl rfl rfl) (zbd.cons (.refl _) zbd.nil)) (by repeat' (first | exact Flat.s _ | exact zfn | refine ze4 ?_ ?_ | refine Flat.agg ?_ | refine Flat.tup ?_))) ?_
 refine zac rfl (zad (zag (zab (zac rfl ?_))))
 refine za3 rfl rfl (zaa rfl) (zbp rfl rfl rfl) (fun h32 => ?_) (fun h32 => ?_)
 all_goals refine zad (zai ?_)
 all_goals (first | refine za5 rfl ?_ | refine zau rfl ?_)
 all_goals (repeat (first | refine zag ?_ | refine zar ?_))
 ·
  rw [if_pos h32]
  refine zab (zaf rfl rfl (zaa rfl) (za9 rfl ti37 tp37 rfl rfl) (zac rfl (zac rfl (zba rfl (zaa rfl) (zaj rfl ti37 rfl rfl rfl rfl rfl rfl (by decide) (by decide)) (zac rfl (zad (zai ?_)))))))
  (refine za7 ?_; repeat (first | refine zbc ?_ | refine zbe ?_))
  exact zfq (r := ([], zStp, fe)) (.inr rfl) rfl .nil rfl rfl rfl rfl rfl
 ·
  rw [if_neg h32]
  refine zab (zac rfl (zcx ta27 ti27 rfl (zaf rfl rfl (zaa rfl) (zbs rfl rfl hth rfl) (zac rfl (zac rfl (zac rfl (zac rfl (zba rfl (zaa rfl) (zaj rfl ti37 rfl rfl rfl rfl rfl rfl (by decide) (by decide)) (zac rfl (zad (zai ?_)))))))))))
  (refine za7 ?_; repeat (first | refine zbc ?_ | refine zbe ?_))
  exact zfq (r := T) (.inr rfl) rfl (.refl _) rfl rfl rfl rfl rfl
def checkE (n : Net) (w : List ByteArray) (c : Cst) (cost : Int) (p : Prf) : Bool :=
 vcB c && (vdB n w p && (decide ((zf6 n w c p c6).2.2 = 10) && (decide ((potX n w p (zd9 n w).1).e = 0) && decide (cost ≤ zhr (frE (potX n w p (zd9 n w).1))))))
set_option maxHeartbeats 1000000 in
theorem zl2 (n : Net) (w : List ByteArray) (c : Cst) (cost : Int) (p : Prf) : Pure P 13 [eN n, eL eS w, eC c, eI cost, ePf p] (eB (checkE n w c cost p)) := by
 have hwr := zru (P := P) n w c p
 have hS := znc (P := P) n w
 have hln : Lo 0 (.ref (eN n).cells) := .ref _ (lo_N n).cells
 have hlp : Lo 0 (.ref (ePf p).cells) := ze2 p
 have hlc : Lo 0 (.ref (eC c).cells) := .ref _ (lo_C c).cells
 have h10 : (zj1 n w c p).2.2 = 10 ↔ vcB c = true ∧ vdB n w p = true ∧ (zf6 n w c p c6).2.2 = 10 := by
  unfold zj1
  split
  ·
   rename_i h; exact ⟨fun g => ⟨h.1, h.2, g⟩, fun g => g.2.2⟩
  ·
   rename_i h; exact ⟨fun g => absurd g (by decide), fun g => absurd ⟨g.1, g.2.1⟩ h⟩
 generalize zj1 n w c p = we at hwr h10
 refine zcl (by rw [IsP.eq (P := P)]; exact Tryz.func13) rfl rfl rfl rfl rfl (zah (lo_N n) (zah (lo_W w) (zah (lo_C c) (zah (.s _) (zah (zij p) zak))))) (.s _) (by simp only [argF]; rfl) ?_
 refine zag (zab (zaf rfl rfl (zaa rfl) (zb3 rfl rfl rfl rfl) ?_))
 refine za6 (zbm (id := 0) rfl) (za6 (zcb (d := 5) rfl rfl rfl) ?_)
 refine zaf rfl rfl (zaa rfl) (zb3 rfl rfl rfl rfl) ?_
 refine za6 (zbm (id := 1) rfl) (za6 (zcb (d := 7) rfl rfl rfl) ?_)
 refine zaf rfl rfl (zaa rfl) (zb3 rfl rfl rfl rfl) ?_
 refine za6 (zbm (id := 2) rfl) (za6 (zcb (d := 9) rfl rfl rfl) ?_)
 refine zac rfl (zad (zag (zag (zab (zcx ta24 ti24 rfl (zac rfl (zcx ta27 ti27 rfl (zcx ta32 ti32 rfl (zaf rfl rfl (zaa rfl) (zam rfl rfl (hwr) (zae rfl (zae rfl (zae rfl (zae rfl zap))))) (zac rfl (zac rfl (zac rfl (zac rfl (zaf rfl rfl (zaa rfl) (za1 rfl ti37 rfl rfl) (zac rfl (zba rfl (zaa rfl) (zaj rfl ti37 rfl rfl rfl rfl rfl rfl (by decide) (by decide)) (zac rfl (zad (zag (zab (zac rfl ?_)))))))))))))))))))))
 refine za3 rfl rfl (zaa rfl) (zbp rfl rfl rfl) (fun h30 => ?_) (fun h30 => ?_)
 all_goals refine zad (zai ?_)
 all_goals (first | refine za5 rfl ?_ | refine zau rfl ?_)
 all_goals (repeat (first | refine zag ?_ | refine zar ?_))
 ·
  have hR : checkE n w c cost p = false := by
   unfold checkE
   rw [Bool.eq_false_iff]
   intro h
   simp only [Bool.and_eq_true, decide_eq_true_eq] at h
   exact h30 (h10.2 ⟨h.1, h.2.1, h.2.2.1⟩)
  rw [hR]
  refine zab (zac rfl (zad (zai ?_)))
  (refine za7 ?_; repeat (first | refine zbc ?_ | refine zbe ?_))
  exact zb6 (.inr rfl) rfl rfl
 obtain ⟨hvc, hvd, hwx⟩ := h10.1 (Classical.byContradiction h30)
 have hv := zhi.1 hvd
 have hR : checkE n w c cost p = (decide ((potX n w p (zd9 n w).1).e = 0) && decide (cost ≤ zhr (frE (potX n w p (zd9 n w).1)))) := by
  unfold checkE
  rw [hvc, hvd, hwx]; rfl
 rw [hR]
 have hso := hv.start_ok'
 have hck := K0.check_ce (P := P) n w p hv
 have hpt := K2.potential_ce (P := P) n w p _ hv hso
 have hpo := (hv.pot hso).2
 generalize zd9 n w = s0 at hS hpt hpo hso ⊢
 generalize endE n w = e0 at hck hpt
 generalize p.st.zip p.pots = Z at hck hpt
 generalize potX n w p s0.1 = Y at hpt hpo ⊢
 refine zab (zcx ta24 ti24 rfl (zac rfl (zaf rfl rfl (zaa rfl) (zam rfl rfl (hS) (zae rfl (zae rfl zap))) (zac rfl (zac rfl (zac rfl (zac rfl (zac rfl (zad (zag ?_))))))))))
 refine zbg (F' := [(1, eL eS w), (3, eI cost), (5, .ref (eN n).cells), (9, .ref (ePf p).cells), (14, eL eI s0.1)]) (σ' := []) (zb8 [] (by decide) trivial ⟨.lo _ (lo_W w), .lo _ (.s _), .lo _ hln, .lo _ hlp, .lo _ lo_I, trivial⟩) ?_
 refine zab (zcx ta24 ti24 rfl (zac rfl (zcx ta32 ti32 rfl (zaf rfl rfl (zaa rfl) (zbs rfl rfl hck rfl) (zac rfl (zaf rfl rfl (zaa rfl) (zbs rfl rfl hpt rfl) (zac rfl (zac rfl (zac rfl (zaf rfl rfl (zaa rfl) (za1 rfl ti56 rfl rfl) (zba rfl (zaa rfl) (zaj rfl ti56 rfl rfl rfl rfl rfl rfl (by decide) (by decide)) (zac rfl (zad (zag (zag ?_)))))))))))))))
 refine zbg (zbm (id := 2) rfl) ?_
 refine zbg (zcb (d := 16) rfl rfl rfl) ?_
 refine zab (zac rfl ?_)
 refine za3 rfl rfl (zaa rfl) (zbp rfl rfl rfl) (fun h47 => ?_) (fun h47 => ?_)
 all_goals refine zad (zai ?_)
 all_goals (first | refine za5 rfl ?_ | refine zau rfl ?_)
 all_goals (repeat (first | refine zag ?_ | refine zar ?_))
 ·
  refine zab (zac rfl (zad (zai ?_)))
  (refine za7 ?_; repeat (first | refine zbc ?_ | refine zbe ?_))
  exact zb6 (.inr rfl) rfl (by rw [decide_eq_false h47]; rfl)
 have he0 : Y.e = 0 := Classical.byContradiction h47
 have hfl := zwq (P := P) (frE Y) (hpo he0)
 rw [decide_eq_true he0, Bool.true_and]
 refine zab (zcx ta56 ti56 rfl (zaf rfl rfl (zaa rfl) (zam rfl rfl (hfl) (zae rfl zap)) (zac rfl (zac rfl (zac rfl (zac rfl (zac rfl (zad (zag (zab (zac rfl (zac rfl (zaf rfl rfl (zaa rfl) (zcp rfl rfl rfl) (zac rfl (zad (zai ?_))))))))))))))))
 (refine za7 ?_; repeat (first | refine zbc ?_ | refine zbe ?_))
 exact zb6 (.inr rfl) rfl rfl
end Aw
namespace Aw
open Go Go.RowKit Go.Proofs Go.Maps Go.WideMaps Dl
variable {P : Program} [IsP P]
theorem zwt {a b : List Int} (hl : a.length = b.length) (h : ∀ j, j < a.length → gti a j = gti b j) : a = b := by
 refine List.ext_getElem? fun j => ?_
 by_cases hj : j < a.length
 ·
  rw [zdh hj, zdh (by omega), h j hj]
 ·
  rw [List.getElem?_eq_none (by omega), List.getElem?_eq_none (by omega)]
theorem zzc {S : List (List Int)} {m : List Int} {i : Nat} (h : S[i]? = some m) : zef S m ≤ i := by
 unfold zef zc2
 cases e : S.findIdx? (fun x => decide (x = m)) with
 | none => show (-1 : Int) ≤ i; omega
 | some k =>
  show (k : Int) ≤ i
  obtain ⟨h1, h2, h3⟩ := List.findIdx?_eq_some_iff_getElem.1 e
  by_cases hik : i < k
  ·
   have := h3 i hik
   rw [List.getElem?_eq_getElem (by omega)] at h
   cases h
   simp at this
  ·
   omega
theorem zr4 (a b : List Int) : Pure P 63 [eL eI a, eL eI b] (eB (decide (a = b))) := by
 refine zcl (by rw [IsP.eq (P := P)]; exact Tryz.func63) rfl rfl rfl rfl rfl (by repeat' (first | exact Lo.s _ | exact zak | refine zah ?_ ?_ | refine zan ?_ | refine Lo.agg _ ?_ | refine Lo.sl _ ?_ | intro _)) (.s _) (by simp only [argF]; rfl) ?_
 refine zag ?_
 refine zda (d := 0) rfl (fun hmx => ?_)
 unfold maxLen at hmx
 refine zab (zac rfl (zad (zag (zag (zab (zac rfl (zaf rfl rfl (zaa rfl) (zao rfl ts29 rfl) (zac rfl (zaf rfl rfl (zaa rfl) (zao rfl ts29 rfl) ?_)))))))))
 refine za3 rfl rfl (zaa rfl) (zbp rfl rfl rfl) (fun h10 => ?_) (fun h10 => ?_)
 all_goals refine zad (zai ?_)
 all_goals (first | refine za5 rfl ?_ | refine zau rfl ?_)
 all_goals (repeat (first | refine zag ?_ | refine zar ?_))
 ·
  refine zab (zac rfl (zad (zai ?_)))
  (refine za7 ?_; repeat (first | refine zbc ?_ | refine zbe ?_))
  exact zb6 (.inr rfl) rfl (congrArg eB (decide_eq_false (fun e => by subst e; exact h10 rfl)).symm)
 have hl : a.length = b.length := by omega
 refine zab (zac rfl (zad (zai (zas ?_))))
 refine zb1 (S := Nat) (fun k => [(0, eL eI a), (1, eL eI b), (5, eI k)]) (fun _ => []) (fun k => k ≤ a.length ∧ ∀ j, j < k → gti a j = gti b j) (fun k => a.length - k) 0 (zel _ ⟨rfl, rfl, rfl, trivial⟩) ⟨Nat.zero_le _, fun j hj => by omega⟩ (fun k hk => ?_)
 obtain ⟨hk, hall⟩ := hk
 refine zag (zag (zab (zac rfl (zac rfl (zaf rfl rfl (zaa rfl) (zao rfl ts29 rfl) ?_)))))
 refine za3 rfl rfl (zaa rfl) (za2 rfl rfl rfl) (fun h14 => ?_) (fun h14 => ?_)
 all_goals refine zad (zai ?_)
 all_goals (first | refine za5 rfl ?_ | refine zau rfl ?_)
 all_goals (repeat (first | refine zag ?_ | refine zar ?_ | refine zas ?_))
 ·
  have hlt : k < a.length := by omega
  refine zb2 hmix ?_
  refine zbx (by kernel_rfl) ?_
  refine qx_s rfl (qx_s rfl (zby rfl rfl (zaa rfl) (zal rfl ts29 ti3 rfl rfl rfl (zbb hlt) rfl) (qx_l ta3 rfl (qx_s rfl (qx_s rfl (zby rfl rfl (zaa rfl) (zal rfl ts29 ti3 rfl rfl rfl (zbb (hl ▸ hlt)) rfl) (qx_l ta3 rfl ?_)))))))
  refine zo6 rfl rfl (zaa rfl) (zbp rfl rfl rfl) (fun h25 => ?_) (fun h25 => ?_)
  all_goals refine zdg ?_
  all_goals refine zai ?_
  all_goals (first | refine za5 rfl ?_ | refine zau rfl ?_)
  all_goals (repeat (first | refine zag ?_ | refine zai ?_ | refine zar ?_ | refine zbl ?_))
  ·
   refine zab (zac rfl (zad (zai ?_)))
   (refine za7 ?_; repeat (first | refine zbc ?_ | refine zbe ?_))
   exact zb6 (.inr rfl) rfl (congrArg eB (decide_eq_false (fun e => by subst e; exact h25 rfl)).symm)
  ·
   refine zab (zac rfl (zaf rfl rfl (zaa rfl) (zax rfl rfl rfl (IntWalk.i64_in _ (by omega))) (zac rfl (zad (zai ?_)))))
   refine ⟨k + 1, ⟨by omega, fun j hj => ?_⟩, by omega, zel _ ⟨rfl, rfl, rfl, trivial⟩⟩
   by_cases e : j = k
   ·
    subst e; exact Classical.byContradiction fun h => h25 h
   ·
    exact hall j (by omega)
 ·
  have e : k = a.length := by omega
  subst e
  (refine zb9 ?_; repeat (first | refine zcr ?_ | refine zbt ?_ | refine zbk rfl ?_ | refine zbl ?_ | refine zai ?_ | refine zag ?_ | refine zar ?_ | refine zas ?_))
  refine zab (zac rfl (zad (zai ?_)))
  (refine za7 ?_; repeat (first | refine zbc ?_ | refine zbe ?_))
  exact zb6 (.inr rfl) rfl (congrArg eB (decide_eq_true (zwt hl hall)).symm)
theorem zkg (l : List (List Int)) (m : List Int) : Pure P 57 [eL (eL eI) l, eL eI m] (eI (zef l m)) := by
 refine zcl (by rw [IsP.eq (P := P)]; exact Tryz.func57) rfl rfl rfl rfl rfl (zah (zgm l) (zah lo_I zak)) (.s _) (by simp only [argF]; rfl) ?_
 refine zag ?_
 refine zda (d := 0) rfl (fun hmx => ?_)
 unfold maxLen at hmx
 refine zab (zac rfl (zad (zag (zag (zab (zac rfl (zad (zai (zas ?_)))))))))
 refine zb1 (S := Nat) (fun k => [(0, eL (eL eI) l), (1, eL eI m), (5, eI k)]) (fun _ => []) (fun k => k ≤ l.length ∧ ∀ j, j < k → l[j]? ≠ some m) (fun k => l.length - k) 0 (zel _ ⟨rfl, rfl, rfl, trivial⟩) ⟨Nat.zero_le _, fun j hj => by omega⟩ (fun k hk => ?_)
 obtain ⟨hk, hall⟩ := hk
 refine zag (zag (zab (zac rfl (zac rfl (zaf rfl rfl (zaa rfl) (zao rfl ts28 rfl) ?_)))))
 refine za3 rfl rfl (zaa rfl) (za2 rfl rfl rfl) (fun h9 => ?_) (fun h9 => ?_)
 all_goals refine zad (zai ?_)
 all_goals (first | refine za5 rfl ?_ | refine zau rfl ?_)
 all_goals (repeat (first | refine zag ?_ | refine zar ?_ | refine zas ?_))
 ·
  have hlt : k < l.length := by omega
  have hix : (l.map (eL eI))[k]? = some (eL eI (gti l k)) := zbb hlt
  have hxi : l[k]? = some (gti l k) := zdh hlt
  generalize gti l k = x at hix hxi
  have hs := zr4 (P := P) x m
  refine zab (zac rfl (zac rfl (zaf rfl rfl (zaa rfl) (zal rfl ts28 ti29 rfl rfl rfl hix rfl) (zbu ta29 rfl (zac rfl ?_)))))
  refine za3 rfl rfl (zaa rfl) (zam rfl rfl (hs) (zae rfl (zae rfl zap))) (fun h17 => ?_) (fun h17 => ?_)
  all_goals refine zad (zai ?_)
  all_goals (first | refine za5 rfl ?_ | refine zau rfl ?_)
  all_goals (repeat (first | refine zag ?_ | refine zai ?_ | refine zar ?_ | refine zbl ?_))
  ·
   have hxm : x = m := h17
   refine zab (zac rfl (zac rfl (zad (zai ?_))))
   (refine za7 ?_; repeat (first | refine zbc ?_ | refine zbe ?_))
   exact zb6 (.inr rfl) rfl (congrArg eI (zny (hxm ▸ hxi) hall).symm)
  ·
   have hxm : x ≠ m := h17
   refine zab (zac rfl (zaf rfl rfl (zaa rfl) (zax rfl rfl rfl (IntWalk.i64_in _ (by omega))) (zac rfl (zad (zai ?_)))))
   refine ⟨k + 1, ⟨by omega, fun j hj => ?_⟩, by omega, zel _ ⟨rfl, rfl, rfl, trivial⟩⟩
   by_cases e : j = k
   ·
    subst e; rw [hxi]; exact fun e => hxm (by injection e)
   ·
    exact hall j (by omega)
 ·
  have e : k = l.length := by omega
  subst e
  (refine zb9 ?_; repeat (first | refine zcr ?_ | refine zbt ?_ | refine zbk rfl ?_ | refine zbl ?_ | refine zai ?_ | refine zag ?_ | refine zar ?_ | refine zas ?_))
  refine zab (zac rfl (zad (zai ?_)))
  (refine za7 ?_; repeat (first | refine zbc ?_ | refine zbe ?_))
  refine zb6 (.inr rfl) rfl (congrArg eI ?_)
  have : zef l m < 0 := zf3.2 fun h => by
   obtain ⟨j, hj, e⟩ := List.getElem_of_mem h
   exact hall j hj (by rw [List.getElem?_eq_getElem hj, e])
  have := zzd l m
  omega
theorem zjl {α : Type} [Inhabited α] {l : List α} {x : α} {k : Nat} (hlt : k < l.length) (h : x ∉ l.take k) (hne : gti l k ≠ x) : x ∉ l.take (k + 1) := by
 rw [List.take_add_one, zdh hlt]
 simp only [List.mem_append, Option.toList_some, List.mem_singleton, not_or]
 exact ⟨h, fun e => hne e.symm⟩
theorem Has_pf (l : List Int) (x : Int) : Pure P 152 [eL eI l, eI x] (eB (decide (x ∈ l))) := by
 refine zcl (by rw [IsP.eq (P := P)]; exact Tryz.func152) rfl rfl rfl rfl rfl (by repeat' (first | exact Lo.s _ | exact zak | refine zah ?_ ?_ | refine zan ?_ | refine Lo.agg _ ?_ | refine Lo.sl _ ?_ | intro _)) (.s _) (by simp only [argF]; rfl) ?_
 refine zag (zab (zac rfl (zad (zag (zag ?_)))))
 refine zda (d := 0) rfl (fun ha => ?_)
 unfold maxLen at ha
 refine zab (zac rfl (zad (zai (zas ?_))))
 refine zb1 (S := Nat) (fun k => [(0, eL eI l), (1, eI x), (5, eI k)]) (fun _ => []) (fun k => k ≤ l.length ∧ x ∉ l.take k) (fun k => l.length - k) 0 (zel _ ⟨rfl, rfl, rfl, trivial⟩) ⟨by omega, by simp⟩ (fun k hk => ?_)
 refine zag (zag (zab (zac rfl (zac rfl (zaf rfl rfl (zaa rfl) (zao rfl ts29 rfl) (zaf rfl rfl (zaa rfl) (za2 rfl rfl rfl) (zad (zai ?_))))))))
 refine zrl rfl (fun h => ?_) (fun h => ?_)
 ·
  have hlt : k < l.length := by omega
  refine zar (zag (zas (zag (zab (zac rfl (zac rfl (zaf rfl rfl (zaa rfl) (zal rfl ts29 ti3 rfl rfl rfl (zbb hlt) rfl) (zbu ta3 rfl (zac rfl (zaf rfl rfl (zaa rfl) (zbn rfl rfl rfl) (zad (zai ?_))))))))))))
  refine zrl rfl (fun h => ?_) (fun h => ?_)
  ·
   refine zag (zab (zac rfl (zad (zai ?_))))
   (refine za7 ?_; repeat (first | refine zbc ?_ | refine zbe ?_))
   refine zb6 (.inr rfl) rfl (congrArg eB ?_)
   have : x ∈ l := h ▸ gti_mem hlt
   simp [this]
  ·
   refine zar (zbl (zai (zab (zac rfl (zaf rfl rfl (zaa rfl) (zax rfl rfl rfl (IntWalk.i64_in _ (by omega))) (zac rfl (zad (zai ?_))))))))
   exact ⟨k + 1, ⟨by omega, zjl hlt hk.2 h⟩, by omega, zel _ ⟨rfl, rfl, rfl, trivial⟩⟩
 ·
  (refine zb9 ?_; repeat (first | refine zcr ?_ | refine zbt ?_ | refine zbk rfl ?_ | refine zbl ?_ | refine zai ?_ | refine zag ?_ | refine zar ?_ | refine zas ?_))
  refine zab (zac rfl (zad (zai ?_)))
  (refine za7 ?_; repeat (first | refine zbc ?_ | refine zbe ?_))
  refine zb6 (.inr rfl) rfl (congrArg eB ?_)
  have h2 := hk.2
  rw [List.take_of_length_le (by omega)] at h2
  simp [h2]
def b01 (b : Bool) : Int := if b then 1 else 0
theorem z0d (l : List Int) (x : Int) : Pure P 137 [eL eI l, eI x] (eI (b01 (decide (x ∈ l)))) := by
 have hh := Has_pf (P := P) l x
 generalize decide (x ∈ l) = b at hh ⊢
 refine zcl (by rw [IsP.eq (P := P)]; exact Tryz.func137) rfl rfl rfl rfl rfl (zah lo_I (zah (.s _) zak)) (.s _) (by simp only [argF]; rfl) ?_
 refine zag (zab (zac rfl (zad (zag (zag (zab (zac rfl (zac rfl (zaf rfl rfl (zaa rfl) (zam rfl rfl (hh) (zae rfl (zae rfl zap))) (zad (zai ?_)))))))))))
 cases b with
 | true =>
  refine za5 rfl (zag (zab (zac rfl (zad (zai ?_)))))
  (refine za7 ?_; repeat (first | refine zbc ?_ | refine zbe ?_))
  exact zb6 (.inr rfl) rfl rfl
 | false =>
  refine zau rfl (zar (zag (zab (zac rfl (zad (zai ?_))))))
  (refine za7 ?_; repeat (first | refine zbc ?_ | refine zbe ?_))
  exact zb6 (.inr rfl) rfl rfl
theorem zmq (n : Net) (w : List ByteArray) (p : Prf) (s : List Int) (hs : okS n w s) : Pure P 60 [eN n, eL eS w, ePf p, eL eI s] (eFE (linX n w p s)) := by
 have hE := zqp (P := P) n w
 have hso := zf8 (n := n) (w := w) (by have := hs.valid; unfold zd9; rw [this.1, this.2]; rfl)
 have heo : okS n w (endE n w).1 := hso.2.2.2.2.2
 have hd := zvf (P := P) p.duals (linL w s (endE n w).1)
 have hw1 := zhm (P := P) 1
 have hw0 := zhm (P := P) 0
 have hln : Lo 0 (.ref (eN n).cells) := .ref _ (lo_N n).cells
 have hlp : Lo 0 (.ref (ePf p).cells) := ze2 p
 have hsl := hs.len
 have hel := heo.len
 have hww := hs.valid.2
 have hwl : w.length ≤ 200 := by unfold zew at hww; simp only [Bool.and_eq_true, decide_eq_true_eq] at hww; exact hww.1
 have hsm := hs.small
 have hem := heo.small
 unfold linX
 generalize endE n w = er at hE hd heo hel hem ⊢
 obtain ⟨e, ee⟩ := er
 dsimp only at hE hd heo hel hem ⊢
 obtain ⟨np, hnp⟩ : ∃ np : Nat, n.places = np := ⟨n.places.toNat, by omega⟩
 have hsn : s.length = np + 1 := by omega
 have hln1 : linL w s e = lin1 s e np ++ lin2 s w.length := by unfold linL; rw [hsn]; rfl
 rw [hln1] at hd ⊢
 refine zcl (by rw [IsP.eq (P := P)]; exact Tryz.func60) rfl rfl rfl rfl rfl (zah (lo_N n) (zah (lo_W w) (zah (zij p) (zah lo_I zak)))) (.tup _ (zah (.agg _ (zah (.s _) (zah (.s _) zak))) (zah (.s _) zak))) (by simp only [argF]; rfl) ?_
 refine zag (zab (zaf rfl rfl (zaa rfl) (zb3 rfl rfl rfl rfl) ?_))
 refine za6 (zbm (id := 0) rfl) (za6 (zcb (d := 4) rfl rfl rfl) ?_)
 refine zaf rfl rfl (zaa rfl) (zb3 rfl rfl rfl rfl) ?_
 refine za6 (zbm (id := 1) rfl) (za6 (zcb (d := 6) rfl rfl rfl) ?_)
 refine zaf rfl rfl (zaa rfl) (za1 rfl ti56 rfl rfl) (zac rfl (zad (zag (zab (zcx ta24 ti24 rfl (zac rfl (zaf rfl rfl (zaa rfl) (zam rfl rfl (hE) (zae rfl (zae rfl zap))) (zac rfl (zac rfl (zac rfl (zac rfl (zac rfl (zad (zag (zab (zac rfl (zad (zag (zag (zab (zac rfl (zad (zai (zas ?_))))))))))))))))))))))))
 refine zbg (zkv (d := 12) (x := .s (.slice none 0 0)) 2 rfl (.inr rfl)) ?_
 refine zb1 (S := Nat) (fun k => [(1, eL eS w), (3, eL eI s), (4, .ref (eN n).cells), (6, .ref (ePf p).cells), (8, .ptr 0 2 0 0), (9, eI 0), (10, eL eI e), (12, .own 1 2 k), (13, eI k)]) (fun k => [.row 2 [zFA], .row 2 ((lin1 s e k).map eF)]) (fun k => k ≤ np) (fun k => np - k) 0
  (zb8 [2, 3] (by decide) ⟨⟨_, rfl, .rowE zfc rfl⟩, ⟨_, rfl, .rowE (zdt _) rfl⟩, trivial⟩ ⟨.lo _ (lo_W w), .lo _ lo_I, .lo _ hln, .lo _ hlp, .ptr 2 0 2 0 0 rfl, .lo _ (.s _), .lo _ lo_I, .own 3 1 2 _ _ rfl rfl, .lo _ (.s _), trivial⟩) (Nat.zero_le _) (fun k hk => ?_)
 replace hk : k ≤ np := hk
 have hll : ((lin1 s e k).map eF).length = k := by rw [List.length_map, zfl]
 have hl2 := zfl s e k
 refine zag (zag (zab (zac rfl (zbz zem rfl (zbu ta3 rfl ?_)))))
 refine za3 rfl rfl (zaa rfl) (za2 rfl rfl rfl) (fun h24 => ?_) (fun h24 => ?_)
 all_goals refine zad (zai ?_)
 all_goals (first | refine za5 rfl ?_ | refine zau rfl ?_)
 all_goals (repeat (first | refine zag ?_ | refine zar ?_ | refine zas ?_))
 ·
  have hkt : k < np := by omega
  have hi1 : (s.map eI)[k + 1]? = some (eI (gti s (k + 1))) := zbb (by omega)
  have hi2 : (e.map eI)[k + 1]? = some (eI (gti e (k + 1))) := zbb (by omega)
  have b1 := hsm _ (gti_mem (l := s) (k := k + 1) (by omega))
  have b2 := hem _ (gti_mem (l := e) (k := k + 1) (by omega))
  have hwk := zhm (P := P) (gti s (k + 1) - gti e (k + 1))
  refine zb2 hmix ?_
  refine zc1 ?_
  refine ex_s rfl (ex_s rfl (ex_s rfl (zay rfl rfl (zaa rfl) (fun _ => (zax rfl rfl rfl (IntWalk.i64_in _ (by omega)))) (zay rfl rfl (zaa rfl) (fun _ => (zal rfl ts29 ti3 rfl rfl (k := k + 1) (by omega) hi1 rfl)) (ex_l ta3 rfl (ex_s rfl (ex_s rfl (zay rfl rfl (zaa rfl) (fun _ => (zax rfl rfl rfl (IntWalk.i64_in _ (by omega)))) (zay rfl rfl (zaa rfl) (fun _ => (zal rfl ts29 ti3 rfl rfl (k := k + 1) (by omega) hi2 rfl)) (ex_l ta3 rfl (zay rfl rfl (zaa rfl) (fun _ => (zdx rfl rfl rfl (IntWalk.i64_in _ (by omega)))) ?_)))))))))))
  refine zay rfl rfl (zaa rfl) (fun _ => (zam rfl rfl (hwk) (zae rfl zap))) (zay rfl rfl (zaa rfl) (fun _ => (zco rfl ts30 ti56 rfl rfl (by decide) (by decide) rfl rfl rfl (.agg _ (zah (.s _) (zah (.s _) zak))))) ?_)
  refine zc9 rfl rfl (zaa rfl) (zbq rfl ts30 ti56 rfl (by decide) rfl rfl hll.symm rfl (by first | exact .own _ _ _ rfl rfl _ (by first | rfl | simp) | exact .emp | exact .nil | exact .sl _ (by first | simp; done | intro e he; simp at he; obtain ⟨_, _, rfl⟩ := he; rfl)) (by first | omega | (simp; omega) | (unfold maxLen; simp; omega)) (by first | omega | (simp; omega) | (unfold maxLen; simp; omega))) (fun _ h => zct h) ?_
  refine ex_s rfl ?_
  refine zcf (by kernel_rfl) ?_
  refine zbl (zai (zab (zac rfl (zaf rfl rfl (zaa rfl) (zax rfl rfl rfl (IntWalk.i64_in _ (by omega))) (zac rfl (zad (zai ?_)))))))
  have hrow : (lin1 s e (k + 1)).map eF = (lin1 s e k).map eF ++ [eF (Fr.of (gti s (k + 1) - gti e (k + 1)))] := by rw [zpi, List.map_append]; rfl
  exact ⟨k + 1, by omega, by omega, zb8 [0, 2] (by decide) ⟨⟨_, rfl, .rowE zfc rfl⟩, ⟨_, rfl, .rowE (zdt _) hrow.symm⟩, trivial⟩ ⟨.lo _ (lo_W w), .lo _ lo_I, .lo _ hln, .lo _ hlp, .ptr 0 0 2 0 0 rfl, .lo _ (.s _), .lo _ lo_I, .own 2 1 2 _ _ rfl (by rw [hll]; rfl), .lo _ (.s _), trivial⟩⟩
 have hke : k = np := by omega
 subst hke
 clear hll
 (refine zb9 ?_; repeat (first | refine zcr ?_ | refine zbt ?_ | refine zbk rfl ?_ | refine zbl ?_ | refine zai ?_ | refine zag ?_ | refine zar ?_ | refine zas ?_))
 refine zab (zac rfl (zad (zai (zas ?_))))
 refine zb1 (S := Nat) (fun m => [(1, eL eS w), (3, eL eI s), (6, .ref (ePf p).cells), (8, .ptr 0 2 0 0), (9, eI 0), (12, .own 1 2 (k + m)), (14, eI m)]) (fun m => [.row 2 [zFA], .row 2 ((lin1 s e k ++ lin2 s m).map eF)]) (fun m => m ≤ w.length) (fun m => w.length - m) 0
  (zb8 [0, 1] (by decide) ⟨⟨_, rfl, .rowE zfc rfl⟩, ⟨_, rfl, .rowE (zdt _) (by simp [lin2])⟩, trivial⟩ ⟨.lo _ (lo_W w), .lo _ lo_I, .lo _ hlp, .ptr 0 0 2 0 0 rfl, .lo _ (.s _), .own 1 1 2 _ _ rfl rfl, .lo _ (.s _), trivial⟩) (Nat.zero_le _) (fun m hm => ?_)
 replace hm : m ≤ w.length := hm
 have hll : ((lin1 s e k ++ lin2 s m).map eF).length = k + m := by rw [List.length_map, List.length_append, zfl, zh1]
 have hl3 := zh1 s m
 have hs0 : (s.map eI)[0]? = some (eI (gti s 0)) := zbb (by omega)
 refine zag (zag (zab (zac rfl (zac rfl (zaf rfl rfl (zaa rfl) (zao rfl ts25 rfl) ?_)))))
 refine za3 rfl rfl (zaa rfl) (za2 rfl rfl rfl) (fun h45 => ?_) (fun h45 => ?_)
 all_goals refine zad (zai ?_)
 all_goals (first | refine za5 rfl ?_ | refine zau rfl ?_)
 all_goals (repeat (first | refine zag ?_ | refine zar ?_ | refine zas ?_))
 ·
  have hmt : m < w.length := by omega
  have hrow : ∀ z, (if gti s 0 ≤ (m : Int) then (1 : Int) else 0) = z → (lin1 s e k ++ lin2 s (m + 1)).map eF = (lin1 s e k ++ lin2 s m).map eF ++ [eF (Fr.of z)] := fun z hz => by rw [zph, hz]; simp
  refine zab (zac rfl (zac rfl (zaf rfl rfl (zaa rfl) (zal rfl ts29 ti3 rfl rfl (k := 0) rfl hs0 rfl) (zbu ta3 rfl ?_))))
  refine za3 rfl rfl (zaa rfl) (zcp rfl rfl rfl) (fun h52 => ?_) (fun h52 => ?_)
  all_goals refine zad (zai ?_)
  all_goals (first | refine za5 rfl ?_ | refine zau rfl ?_)
  ·
   refine zab (zac rfl (zaf rfl rfl (zaa rfl) (zam rfl rfl (hw1) (zae rfl zap)) (zaf rfl rfl (zaa rfl) (zco rfl ts30 ti56 rfl rfl (by decide) (by decide) rfl rfl rfl (.agg _ (zah (.s _) (zah (.s _) zak)))) ?_)))
   refine zaf rfl rfl (zaa rfl) (zbq rfl ts30 ti56 rfl (by decide) rfl rfl hll.symm rfl (by first | exact .own _ _ _ rfl rfl _ (by first | rfl | simp) | exact .emp | exact .nil | exact .sl _ (by first | simp; done | intro e he; simp at he; obtain ⟨_, _, rfl⟩ := he; rfl)) (by first | omega | (simp; omega) | (unfold maxLen; simp; omega)) (by first | omega | (simp; omega) | (unfold maxLen; simp; omega))) ?_
   refine zac rfl (zad (zbl (zai (zab (zac rfl (zaf rfl rfl (zaa rfl) (zax rfl rfl rfl (IntWalk.i64_in _ (by omega))) (zac rfl (zad (zai ?_)))))))))
   exact ⟨m + 1, by omega, by omega, zb8 [0, 2] (by decide) ⟨⟨_, rfl, .rowE zfc rfl⟩, ⟨_, rfl, .rowE (zdt _) (hrow 1 (if_pos h52)).symm⟩, trivial⟩ ⟨.lo _ (lo_W w), .lo _ lo_I, .lo _ hlp, .ptr 0 0 2 0 0 rfl, .lo _ (.s _), .own 2 1 2 _ _ rfl (by rw [hll]; rfl), .lo _ (.s _), trivial⟩⟩
  ·
   refine zab (zac rfl (zaf rfl rfl (zaa rfl) (zam rfl rfl (hw0) (zae rfl zap)) (zaf rfl rfl (zaa rfl) (zco rfl ts30 ti56 rfl rfl (by decide) (by decide) rfl rfl rfl (.agg _ (zah (.s _) (zah (.s _) zak)))) ?_)))
   refine zaf rfl rfl (zaa rfl) (zbq rfl ts30 ti56 rfl (by decide) rfl rfl hll.symm rfl (by first | exact .own _ _ _ rfl rfl _ (by first | rfl | simp) | exact .emp | exact .nil | exact .sl _ (by first | simp; done | intro e he; simp at he; obtain ⟨_, _, rfl⟩ := he; rfl)) (by first | omega | (simp; omega) | (unfold maxLen; simp; omega)) (by first | omega | (simp; omega) | (unfold maxLen; simp; omega))) ?_
   refine zac rfl (zad (zbl (zai (zab (zac rfl (zaf rfl rfl (zaa rfl) (zax rfl rfl rfl (IntWalk.i64_in _ (by omega))) (zac rfl (zad (zai ?_)))))))))
   exact ⟨m + 1, by omega, by omega, zb8 [0, 2] (by decide) ⟨⟨_, rfl, .rowE zfc rfl⟩, ⟨_, rfl, .rowE (zdt _) (hrow 0 (if_neg h52)).symm⟩, trivial⟩ ⟨.lo _ (lo_W w), .lo _ lo_I, .lo _ hlp, .ptr 0 0 2 0 0 rfl, .lo _ (.s _), .own 2 1 2 _ _ rfl (by rw [hll]; rfl), .lo _ (.s _), trivial⟩⟩
 have hme : m = w.length := by omega
 subst hme
 (refine zb9 ?_; repeat (first | refine zcr ?_ | refine zbt ?_ | refine zbk rfl ?_ | refine zbl ?_ | refine zai ?_ | refine zag ?_ | refine zar ?_ | refine zas ?_))
 refine zbg (zbm (id := 1) rfl) ?_
 refine zbg (zoh (d := 12) rfl rfl (by rw [hll])) ?_
 refine zab (zbz zdu rfl (zbu ta30 rfl (zac rfl (zaf rfl rfl (zaa rfl) (zam rfl rfl (hd) (zae rfl (zae rfl zap))) (zac rfl (zac rfl (zba rfl (zaa rfl) (zaj rfl ti56 rfl rfl rfl rfl rfl rfl (by decide) (by decide)) (zac rfl (zad (zai ?_))))))))))
 (refine za7 ?_; repeat (first | refine zbc ?_ | refine zbe ?_))
 exact zjj (.inr rfl) ta56 ti56 rfl rfl rfl rfl rfl rfl
theorem zyf (n : Net) (p : Prf) (t : Nat) (ht : t < n.trans.length) (hp : 0 ≤ n.places ∧ n.places ≤ 40) (hd0 : n.places.toNat ≤ p.duals.length) :
  Pure P 106 [eN n, ePf p, eI t] (eFE (gE n p (gti n.trans t))) := by
 have hd := zvf (P := P) (p.duals.take n.places.toNat) (zhg (gti n.trans t) n.places.toNat)
 have hln : Lo 0 (.ref (eN n).cells) := .ref _ (lo_N n).cells
 have hlp : Lo 0 (.ref (ePf p).cells) := ze2 p
 have hit : (n.trans.map eT)[t]? = some (eT (gti n.trans t)) := zbb ht
 unfold gE
 generalize gti n.trans t = tr at hd hit ⊢
 obtain ⟨np, hnp⟩ : ∃ np : Nat, n.places = np := ⟨n.places.toNat, by omega⟩
 have hnt : n.places.toNat = np := by omega
 rw [hnt] at hd hd0
 rw [hnt]
 refine zcl (by rw [IsP.eq (P := P)]; exact Tryz.func106) rfl rfl rfl rfl rfl (zah (lo_N n) (zah (zij p) (zah (.s _) zak))) (.tup _ (zah (.agg _ (zah (.s _) (zah (.s _) zak))) (zah (.s _) zak))) (by simp only [argF]; rfl) ?_
 refine zag (zab (zaf rfl rfl (zaa rfl) (zb3 rfl rfl rfl rfl) ?_))
 refine za6 (zbm (id := 0) rfl) (za6 (zcb (d := 3) rfl rfl rfl) ?_)
 refine zaf rfl rfl (zaa rfl) (zb3 rfl rfl rfl rfl) ?_
 refine za6 (zbm (id := 1) rfl) (za6 (zcb (d := 4) rfl rfl rfl) ?_)
 refine zaf rfl rfl (zaa rfl) (za1 rfl ti56 rfl rfl) (zac rfl (zad (zag (zab (zac rfl (zad (zag (zag (zab (zac rfl (zad (zai (zas ?_)))))))))))))
 refine zbg (zkv (d := 8) (x := .s (.slice none 0 0)) 2 rfl (.inr rfl)) ?_
 refine zb1 (S := Nat) (fun k => [(2, eI t), (3, .ref (eN n).cells), (4, .ref (ePf p).cells), (6, .ptr 0 2 0 0), (7, eI 0), (8, .own 1 2 k), (9, eI k)]) (fun k => [.row 2 [zFA], .row 2 ((zhg tr k).map eF)]) (fun k => k ≤ np) (fun k => np - k) 0
  (zb8 [2, 3] (by decide) ⟨⟨_, rfl, .rowE zfc rfl⟩, ⟨_, rfl, .rowE (zdt _) rfl⟩, trivial⟩ ⟨.lo _ (.s _), .lo _ hln, .lo _ hlp, .ptr 2 0 2 0 0 rfl, .lo _ (.s _), .own 3 1 2 _ _ rfl rfl, .lo _ (.s _), trivial⟩) (Nat.zero_le _) (fun k hk => ?_)
 replace hk : k ≤ np := hk
 have hll : ((zhg tr k).map eF).length = k := by rw [List.length_map, zgp]
 have hl2 := zgp tr k
 refine zag (zag (zab (zac rfl (zbz zem rfl (zbu ta3 rfl ?_)))))
 refine za3 rfl rfl (zaa rfl) (za2 rfl rfl rfl) (fun h13 => ?_) (fun h13 => ?_)
 all_goals refine zad (zai ?_)
 all_goals (first | refine za5 rfl ?_ | refine zau rfl ?_)
 all_goals (repeat (first | refine zag ?_ | refine zar ?_ | refine zas ?_))
 ·
  have hkt : k < np := by omega
  have hc1 := z0d (P := P) tr.inn k
  have hc2 := z0d (P := P) tr.out k
  have hwk := zhm (P := P) (b01 (decide ((k : Int) ∈ tr.inn)) - b01 (decide ((k : Int) ∈ tr.out)))
  have hrow : (zhg tr (k + 1)).map eF = (zhg tr k).map eF ++ [eF (Fr.of (b01 (decide ((k : Int) ∈ tr.inn)) - b01 (decide ((k : Int) ∈ tr.out))))] := by rw [zm2, List.map_append]; rfl
  have hb1 : 0 ≤ b01 (decide ((k : Int) ∈ tr.inn)) ∧ b01 (decide ((k : Int) ∈ tr.inn)) ≤ 1 := by unfold b01; split <;> omega
  have hb2 : 0 ≤ b01 (decide ((k : Int) ∈ tr.out)) ∧ b01 (decide ((k : Int) ∈ tr.out)) ≤ 1 := by unfold b01; split <;> omega
  generalize b01 (decide ((k : Int) ∈ tr.inn)) = x1 at hc1 hwk hrow hb1
  generalize b01 (decide ((k : Int) ∈ tr.out)) = x2 at hc2 hwk hrow hb2
  refine zb2 hmix ?_
  refine zc1 ?_
  refine ex_s rfl (ex_f zex rfl (ex_l ta22 rfl (ex_s rfl (zay rfl rfl (zaa rfl) (fun _ => (zal rfl ts22 ti86 rfl rfl rfl hit rfl)) (ex_f ziw rfl (ex_l ta29 rfl (ex_s rfl (zay rfl rfl (zaa rfl) (fun _ => (zam rfl rfl (hc1) (zae rfl (zae rfl zap)))) (ex_f zex rfl (ex_l ta22 rfl (ex_s rfl (zay rfl rfl (zaa rfl) (fun _ => (zal rfl ts22 ti86 rfl rfl rfl hit rfl)) (ex_f zj2 rfl (ex_l ta29 rfl (ex_s rfl (zay rfl rfl (zaa rfl) (fun _ => (zam rfl rfl (hc2) (zae rfl (zae rfl zap)))) (zay rfl rfl (zaa rfl) (fun _ => (zdx rfl rfl rfl (IntWalk.i64_in _ (by omega)))) ?_)))))))))))))))))
  refine zay rfl rfl (zaa rfl) (fun _ => (zam rfl rfl (hwk) (zae rfl zap))) (zay rfl rfl (zaa rfl) (fun _ => (zco rfl ts30 ti56 rfl rfl (by decide) (by decide) rfl rfl rfl (.agg _ (zah (.s _) (zah (.s _) zak))))) ?_)
  refine zc9 rfl rfl (zaa rfl) (zbq rfl ts30 ti56 rfl (by decide) rfl rfl hll.symm rfl (by first | exact .own _ _ _ rfl rfl _ (by first | rfl | simp) | exact .emp | exact .nil | exact .sl _ (by first | simp; done | intro e he; simp at he; obtain ⟨_, _, rfl⟩ := he; rfl)) (by first | omega | (simp; omega) | (unfold maxLen; simp; omega)) (by first | omega | (simp; omega) | (unfold maxLen; simp; omega))) (fun _ h => zct h) ?_
  refine ex_s rfl ?_
  refine zcf (by kernel_rfl) ?_
  refine zbl (zai (zab (zac rfl (zaf rfl rfl (zaa rfl) (zax rfl rfl rfl (IntWalk.i64_in _ (by omega))) (zac rfl (zad (zai ?_)))))))
  exact ⟨k + 1, by omega, by omega, zb8 [0, 2] (by decide) ⟨⟨_, rfl, .rowE zfc rfl⟩, ⟨_, rfl, .rowE (zdt _) hrow.symm⟩, trivial⟩ ⟨.lo _ (.s _), .lo _ hln, .lo _ hlp, .ptr 0 0 2 0 0 rfl, .lo _ (.s _), .own 2 1 2 _ _ rfl (by rw [hll]; rfl), .lo _ (.s _), trivial⟩⟩
 ·
  have hke : k = np := by omega
  subst hke
  (refine zb9 ?_; repeat (first | refine zcr ?_ | refine zbt ?_ | refine zbk rfl ?_ | refine zbl ?_ | refine zai ?_ | refine zag ?_ | refine zar ?_ | refine zas ?_))
  refine zbg (zbm (id := 1) rfl) ?_
  refine zbg (zoh (d := 8) rfl rfl (by rw [hll])) ?_
  refine zab (zbz zdu rfl (zbu ta30 rfl (zbz zem rfl (zbu ta3 rfl ?_))))
  refine zaf rfl rfl (zaa rfl) (zka rfl ts30 ti56 rfl rfl hnp (by simpa using hd0) (by intro e he; simp at he; obtain ⟨_, _, rfl⟩ := he; rfl)) ?_
  refine zac rfl ?_
  refine zaf rfl rfl (zaa rfl) (zam rfl rfl hd (zae (by show _ = AV.sl ((p.duals.take k).map eF); rw [List.map_take]; rfl) (zae rfl zap))) ?_
  refine zac rfl (zac rfl (zba rfl (zaa rfl) (zaj rfl ti56 rfl rfl rfl rfl rfl rfl (by decide) (by decide)) (zac rfl (zad (zai ?_)))))
  (refine za7 ?_; repeat (first | refine zbc ?_ | refine zbe ?_))
  exact zjj (.inr rfl) ta56 ti56 rfl rfl rfl rfl rfl rfl
end Aw
namespace Aw
open Go Go.RowKit Go.Proofs Go.Maps Go.WideMaps Dl
variable {P : Program} [IsP P]
theorem zjq {a b : Fr} (ha : a.okB = true) (hb : b.okB = true) : grB a b = decide (cmpN a b > 0) := by
 unfold grB cmpE
 rw [ha, hb]
 exact decide_eq_decide.2 (by show ¬ cmpN a b ≤ 0 ↔ _; omega)
theorem zy4 {a : Fr} (ha : a.okB = true) : grB a (Fr.of 0) = decide (a.n > 0) := by
 rw [zjq ha (zfu (by omega))]
 refine decide_eq_decide.2 ?_
 unfold cmpN
 have h1 : a.n * (Fr.of 0).d = a.n := by show a.n * 1 = _; omega
 have h2 : (Fr.of 0).n * a.d = 0 := by show 0 * _ = _; omega
 rw [h1, h2]
 split
 ·
  omega
 ·
  split <;> omega
theorem zsd {c : Cst} (hc : vcB c = true) (t : Tr) : 0 ≤ zii c t ∧ zii c t ≤ 1000 := by
 unfold zii
 unfold vcB inB at hc
 simp only [Bool.and_eq_true, decide_eq_true_eq] at hc
 split <;> omega
theorem zzx {c : Cst} (hc : vcB c = true) : (0 ≤ c.log ∧ c.log ≤ 1000) ∧ (0 ≤ c.model ∧ c.model ≤ 1000) ∧ 0 ≤ c.silent ∧ c.silent ≤ 1000 := by
 unfold vcB inB at hc
 simp only [Bool.and_eq_true, decide_eq_true_eq] at hc
 omega
theorem zi1 (n : Net) (w : List ByteArray) (p : Prf) (s : List Int) (hv : VD n w p) (hs : okS n w s) : Pure P 32 [eN n, eL eS w, ePf p, eL eI s] (eFE (potX n w p s)) := by
 have hln : Lo 0 (.ref (eN n).cells) := .ref _ (lo_N n).cells
 have hlp : Lo 0 (.ref (ePf p).cells) := ze2 p
 have hfi := zkg (P := P) p.st s
 have hli := zmq (P := P) n w p s hs
 have hpx : potX n w p s = if zef p.st s < 0 then linX n w p s else ⟨gti p.pots (idx p.st s), 1, 0⟩ := rfl
 refine zcl (by rw [IsP.eq (P := P)]; exact Tryz.func32) rfl rfl rfl rfl rfl (zah (lo_N n) (zah (lo_W w) (zah (zij p) (zah lo_I zak)))) (.tup _ (zah (.agg _ (zah (.s _) (zah (.s _) zak))) (zah (.s _) zak))) (by simp only [argF]; rfl) ?_
 refine zag (zab (zaf rfl rfl (zaa rfl) (zb3 rfl rfl rfl rfl) ?_))
 refine za6 (zbm (id := 0) rfl) (za6 (zcb (d := 4) rfl rfl rfl) ?_)
 refine zaf rfl rfl (zaa rfl) (zb3 rfl rfl rfl rfl) ?_
 refine za6 (zbm (id := 1) rfl) (za6 (zcb (d := 6) rfl rfl rfl) ?_)
 refine zaf rfl rfl (zaa rfl) (za1 rfl ti56 rfl rfl) (zac rfl (zad (zag (zag (zab (zbz zd6 rfl (zbu ta28 rfl (zac rfl (zaf rfl rfl (zaa rfl) (zam rfl rfl (hfi) (zae rfl (zae rfl zap))) (zac rfl (zad (zag (zab (zac rfl ?_))))))))))))))
 refine za3 rfl rfl (zaa rfl) (zcp rfl rfl rfl) (fun h16 => ?_) (fun h16 => ?_)
 all_goals refine zad (zai ?_)
 all_goals (first | refine za5 rfl ?_ | refine zau rfl ?_)
 all_goals (repeat (first | refine zag ?_ | refine zar ?_))
 ·
  obtain ⟨p1, p2, p3⟩ := zhb (S := p.st) (x := s) (by omega)
  rw [hpx, if_neg (by omega)]
  have hip : (p.pots.map eI)[idx p.st s]? = some (eI (gti p.pots (idx p.st s))) := zbb (by have := hv.pl; omega)
  have hof := zhm (P := P) (gti p.pots (idx p.st s))
  generalize gti p.pots (idx p.st s) = q at hip hof ⊢
  refine zab (zbz zbh rfl (zbu ta29 rfl (zac rfl (zaf rfl rfl (zaa rfl) (zal rfl ts29 ti3 rfl rfl (k := idx p.st s) p3.symm hip rfl) (zbu ta3 rfl (zaf rfl rfl (zaa rfl) (zam rfl rfl (hof) (zae rfl zap)) (zba rfl (zaa rfl) (zaj rfl ti56 rfl rfl rfl rfl rfl rfl (by decide) (by decide)) (zac rfl (zad (zai ?_))))))))))
  (refine za7 ?_; repeat (first | refine zbc ?_ | refine zbe ?_))
  exact zjj (x := ⟨q, 1, 0⟩) (.inr rfl) ta56 ti56 rfl rfl rfl rfl rfl rfl
 ·
  rw [hpx, if_pos (by omega)]
  generalize linX n w p s = Y at hli ⊢
  refine zab (zcx ta24 ti24 rfl (zac rfl (zcx ta32 ti32 rfl (zac rfl (zaf rfl rfl (zaa rfl) (zam rfl rfl (hli) (zae rfl (zae rfl (zae rfl (zae rfl zap))))) (zac rfl (zac rfl (zba rfl (zaa rfl) (zaj rfl ti56 rfl rfl rfl rfl rfl rfl (by decide) (by decide)) (zac rfl (zad (zai ?_)))))))))))
  (refine za7 ?_; repeat (first | refine zbc ?_ | refine zbe ?_))
  exact zjj (x := Y) (.inr rfl) ta56 ti56 rfl rfl rfl rfl rfl rfl
theorem ztv {S : List (List Int)} (h : ∀ j, j < S.length → ¬ zef S (gti S j) < j) : S.Nodup := by
 refine List.pairwise_iff_getElem.2 fun i j hi hj hij e => h j hj ?_
 have h1 : S[i]? = some (gti S j) := by rw [← zdh hj, List.getElem?_eq_getElem hi, List.getElem?_eq_getElem hj, e]
 have := zzc h1
 omega
theorem zh2 {S : List (List Int)} (h : S.Nodup) {j : Nat} (hj : j < S.length) : zef S (gti S j) = j := zny (zdh hj) (fun i hi e => by
 refine List.pairwise_iff_getElem.1 h i j (by omega) hj hi ?_
 rw [← zdh hj, List.getElem?_eq_getElem (by omega), List.getElem?_eq_getElem hj] at e
 exact Option.some.inj e)
set_option maxHeartbeats 2000000 in
theorem zk7 (n : Net) (w : List ByteArray) (p : Prf) : Pure P 15 [eN n, eL eS w, ePf p] (eB (vdB n w p)) := by
 have hln : Lo 0 (.ref (eN n).cells) := .ref _ (lo_N n).cells
 have hlp : Lo 0 (.ref (ePf p).cells) := ze2 p
 have hvf := zhi (n := n) (w := w) (p := p)
 generalize vdB n w p = R at hvf ⊢
 have hRf : ¬ VD n w p → R = false := fun h => by cases R with
  | false => rfl
  | true => exact absurd (hvf.1 rfl) h
 have h21 := zos (P := P) n
 have h42 := zmr (P := P) w
 have h01 := zhl (P := P) p.duals
 have hbp : zd5 n = true → 0 ≤ n.places ∧ n.places ≤ 40 := fun h => by have := zdy h; omega
 have hbw : zew w = true → w.length ≤ 200 := fun hww => by unfold zew at hww; simp only [Bool.and_eq_true, decide_eq_true_eq] at hww; exact hww.1
 have hvn : VD n w p → zd5 n = true := fun h => h.net
 have hvw : VD n w p → zew w = true := fun h => h.word
 have hvd : VD n w p → p.duals.all Fr.okB = true := fun h => h.dok
 have hmk : zd5 n = true → zew w = true → p.duals.all Fr.okB = true → p.st.length ≤ 2000 → p.pots.length = p.st.length → (p.duals.length : Int) = n.places + w.length → (∀ j, j < p.st.length → okS n w (gti p.st j) ∧ ¬ zef p.st (gti p.st j) < j ∧ 0 ≤ gti p.pots j ∧ gti p.pots j ≤ 1073741824) → VD n w p := fun h1 h2 h3 h4 h5 h6 h7 => by
  refine ⟨h1, h2, h4, h5, h6, fun s hs => ?_, ztv (fun j hj => (h7 j hj).2.1), fun k hk => ?_, h3⟩
  ·
   obtain ⟨j, hj, rfl⟩ := mem_gti' hs
   exact (h7 j hj).1
  ·
   obtain ⟨j, hj, rfl⟩ := mem_gti' hk
   exact (h7 j (by omega)).2.2
 generalize hb1 : zd5 n = b1 at h21 hbp hvn hmk
 generalize hb2 : zew w = b2 at h42 hbw hvw hmk
 generalize p.duals.all Fr.okB = b3 at h01 hvd hmk
 refine zcl (by rw [IsP.eq (P := P)]; exact Tryz.func15) rfl rfl rfl rfl rfl (zah (lo_N n) (zah (lo_W w) (zah (zij p) zak))) (.s _) (by simp only [argF]; rfl) ?_
 refine zag (zab (zaf rfl rfl (zaa rfl) (zb3 rfl rfl rfl rfl) ?_))
 refine za6 (zbm (id := 0) rfl) (za6 (zcb (d := 3) rfl rfl rfl) ?_)
 refine zaf rfl rfl (zaa rfl) (zb3 rfl rfl rfl rfl) ?_
 refine za6 (zbm (id := 1) rfl) (za6 (zcb (d := 5) rfl rfl rfl) ?_)
 refine zac rfl (zad (zag (zag ?_)))
 cases b1 with
 | false =>
  refine zab (zcx ta24 ti24 rfl (zaf rfl rfl (zaa rfl) (zam rfl rfl (h21) (zae rfl zap)) (zaf rfl rfl (zaa rfl) (zbj rfl rfl) (zac rfl (za4 rfl (za4 rfl (za4 rfl (zac rfl (zac rfl (za4 rfl (za4 rfl (za4 rfl (za4 rfl (zac rfl (zac rfl (za4 rfl (za4 rfl (za4 rfl (za4 rfl (za4 rfl (za4 rfl (za4 rfl (zac rfl (zac rfl (za4 rfl (za4 rfl (za4 rfl (za4 rfl (za4 rfl (za4 rfl (za4 rfl (za4 rfl (za4 rfl (zac rfl (zac rfl (za4 rfl (za4 rfl (za4 rfl (za4 rfl ?_)))))))))))))))))))))))))))))))))))))))
  refine zac rfl (zad (zai (za5 rfl (zag (zab (zac rfl (zad (zai ?_))))))))
  (refine za7 ?_; repeat (first | refine zbc ?_ | refine zbe ?_))
  exact zb6 (.inr rfl) rfl (congrArg eB (hRf (fun h => by have := hvn h; cases this)).symm)
 | true =>
 cases b2 with
 | false =>
  refine zab (zcx ta24 ti24 rfl (zaf rfl rfl (zaa rfl) (zam rfl rfl (h21) (zae rfl zap)) (zaf rfl rfl (zaa rfl) (zbj rfl rfl) (zac rfl (zac rfl (zaf rfl rfl (zat rfl rfl rfl) (zam rfl rfl (h42) (zae rfl zap)) (zaf rfl rfl (zat rfl rfl rfl) (zbj rfl rfl) (zac rfl (zac rfl (za4 rfl (za4 rfl (za4 rfl (za4 rfl (zac rfl (zac rfl (za4 rfl (za4 rfl (za4 rfl (za4 rfl (za4 rfl (za4 rfl (za4 rfl (zac rfl (zac rfl (za4 rfl (za4 rfl (za4 rfl (za4 rfl (za4 rfl ?_)))))))))))))))))))))))))))))
  refine za4 rfl (za4 rfl (za4 rfl (za4 rfl (zac rfl (zac rfl (za4 rfl (za4 rfl (za4 rfl (za4 rfl (zac rfl (zad (zai (za5 rfl (zag (zab (zac rfl (zad (zai ?_))))))))))))))))))
  (refine za7 ?_; repeat (first | refine zbc ?_ | refine zbe ?_))
  exact zb6 (.inr rfl) rfl (congrArg eB (hRf (fun h => by have := hvw h; cases this)).symm)
 | true =>
 have hpl := hbp rfl
 have hwl := hbw rfl
 by_cases hc : p.st.length ≤ 2000 ∧ p.pots.length = p.st.length ∧ (p.duals.length : Int) = n.places + w.length
 rotate_left 1
 ·
  have hR : R = false := hRf (fun h => hc ⟨h.few, h.pl, h.dl⟩)
  have hcs : 2000 < p.st.length ∨ (p.st.length ≤ 2000 ∧ p.pots.length ≠ p.st.length) ∨ (p.st.length ≤ 2000 ∧ p.pots.length = p.st.length ∧ (p.duals.length : Int) ≠ n.places + w.length) := by omega
  rcases hcs with h1 | ⟨h1, h2⟩ | ⟨h1, h2, h3⟩
  ·
   refine zab (zcx ta24 ti24 rfl (zaf rfl rfl (zaa rfl) (zam rfl rfl (h21) (zae rfl zap)) (zaf rfl rfl (zaa rfl) (zbj rfl rfl) (zac rfl (zac rfl (zaf rfl rfl (zat rfl rfl rfl) (zam rfl rfl (h42) (zae rfl zap)) (zaf rfl rfl (zat rfl rfl rfl) (zbj rfl rfl) (zac rfl (zac rfl (zbz zd6 rfl (zbu ta28 rfl (zaf rfl rfl (zat rfl rfl rfl) (zao rfl ts28 rfl) (zaf rfl rfl (zat rfl rfl rfl) (zdc (by omega) (zb0 rfl rfl rfl)) (zac rfl (zac rfl (za4 rfl (za4 rfl (za4 rfl ?_))))))))))))))))))
   refine za4 rfl (za4 rfl (za4 rfl (za4 rfl (zac rfl (zac rfl (za4 rfl (za4 rfl (za4 rfl (za4 rfl (za4 rfl (za4 rfl (za4 rfl (za4 rfl (za4 rfl (zac rfl (zac rfl (za4 rfl (za4 rfl (za4 rfl (za4 rfl (zac rfl (zad (zai (za5 rfl (zag (zab (zac rfl (zad (zai ?_)))))))))))))))))))))))))))))
   (refine za7 ?_; repeat (first | refine zbc ?_ | refine zbe ?_))
   exact zb6 (.inr rfl) rfl (congrArg eB hR.symm)
  ·
   refine zab (zcx ta24 ti24 rfl (zaf rfl rfl (zaa rfl) (zam rfl rfl (h21) (zae rfl zap)) (zaf rfl rfl (zaa rfl) (zbj rfl rfl) (zac rfl (zac rfl (zaf rfl rfl (zat rfl rfl rfl) (zam rfl rfl (h42) (zae rfl zap)) (zaf rfl rfl (zat rfl rfl rfl) (zbj rfl rfl) (zac rfl (zac rfl (zbz zd6 rfl (zbu ta28 rfl (zaf rfl rfl (zat rfl rfl rfl) (zao rfl ts28 rfl) (zaf rfl rfl (zat rfl rfl rfl) (zeg (by omega) (zb0 rfl rfl rfl)) (zac rfl (zac rfl (zbz zbh rfl (zbu ta29 rfl ?_)))))))))))))))))
   refine zaf rfl rfl (zat rfl rfl rfl) (zao rfl ts29 rfl) (zbz zd6 rfl (zbu ta28 rfl (zaf rfl rfl (zat rfl rfl rfl) (zao rfl ts28 rfl) (zaf rfl rfl (zat rfl rfl rfl) (zdc (by omega) (zbp rfl rfl rfl)) (zac rfl (zac rfl (za4 rfl (za4 rfl (za4 rfl (za4 rfl (za4 rfl (za4 rfl (za4 rfl (za4 rfl (za4 rfl (zac rfl (zac rfl (za4 rfl (za4 rfl (za4 rfl (za4 rfl (zac rfl (zad (zai (za5 rfl (zag (zab (zac rfl (zad (zai ?_))))))))))))))))))))))))))))))
   (refine za7 ?_; repeat (first | refine zbc ?_ | refine zbe ?_))
   exact zb6 (.inr rfl) rfl (congrArg eB hR.symm)
  ·
   refine zab (zcx ta24 ti24 rfl (zaf rfl rfl (zaa rfl) (zam rfl rfl (h21) (zae rfl zap)) (zaf rfl rfl (zaa rfl) (zbj rfl rfl) (zac rfl (zac rfl (zaf rfl rfl (zat rfl rfl rfl) (zam rfl rfl (h42) (zae rfl zap)) (zaf rfl rfl (zat rfl rfl rfl) (zbj rfl rfl) (zac rfl (zac rfl (zbz zd6 rfl (zbu ta28 rfl (zaf rfl rfl (zat rfl rfl rfl) (zao rfl ts28 rfl) (zaf rfl rfl (zat rfl rfl rfl) (zeg (by omega) (zb0 rfl rfl rfl)) (zac rfl (zac rfl (zbz zbh rfl (zbu ta29 rfl ?_)))))))))))))))))
   refine zaf rfl rfl (zat rfl rfl rfl) (zao rfl ts29 rfl) (zbz zd6 rfl (zbu ta28 rfl (zaf rfl rfl (zat rfl rfl rfl) (zao rfl ts28 rfl) (zaf rfl rfl (zat rfl rfl rfl) (zeg (by omega) (zbp rfl rfl rfl)) (zac rfl (zac rfl (zbz zdu rfl (zbu ta30 rfl (zaf rfl rfl (zat rfl rfl rfl) (zao rfl ts30 rfl) (zbz zem rfl (zbu ta3 rfl (zac rfl (zaf rfl rfl (zat rfl rfl rfl) (zao rfl ts25 rfl) (zaf rfl rfl (zat rfl rfl rfl) (zax rfl rfl rfl (IntWalk.i64_in _ (by omega))) (zaf rfl rfl (zat rfl rfl rfl) (zdc (by omega) (zbp rfl rfl rfl)) ?_)))))))))))))))
   refine zac rfl (zac rfl (za4 rfl (za4 rfl (za4 rfl (za4 rfl (zac rfl (zad (zai (za5 rfl (zag (zab (zac rfl (zad (zai ?_))))))))))))))
   (refine za7 ?_; repeat (first | refine zbc ?_ | refine zbe ?_))
   exact zb6 (.inr rfl) rfl (congrArg eB hR.symm)
 obtain ⟨hc1, hc2, hc3⟩ := hc
 cases b3 with
 | false =>
  refine zab (zcx ta24 ti24 rfl (zaf rfl rfl (zaa rfl) (zam rfl rfl (h21) (zae rfl zap)) (zaf rfl rfl (zaa rfl) (zbj rfl rfl) (zac rfl (zac rfl (zaf rfl rfl (zat rfl rfl rfl) (zam rfl rfl (h42) (zae rfl zap)) (zaf rfl rfl (zat rfl rfl rfl) (zbj rfl rfl) (zac rfl (zac rfl (zbz zd6 rfl (zbu ta28 rfl (zaf rfl rfl (zat rfl rfl rfl) (zao rfl ts28 rfl) (zaf rfl rfl (zat rfl rfl rfl) (zeg (by omega) (zb0 rfl rfl rfl)) (zac rfl (zac rfl (zbz zbh rfl (zbu ta29 rfl ?_)))))))))))))))))
  refine zaf rfl rfl (zat rfl rfl rfl) (zao rfl ts29 rfl) (zbz zd6 rfl (zbu ta28 rfl (zaf rfl rfl (zat rfl rfl rfl) (zao rfl ts28 rfl) (zaf rfl rfl (zat rfl rfl rfl) (zeg (by omega) (zbp rfl rfl rfl)) (zac rfl (zac rfl (zbz zdu rfl (zbu ta30 rfl (zaf rfl rfl (zat rfl rfl rfl) (zao rfl ts30 rfl) (zbz zem rfl (zbu ta3 rfl (zac rfl (zaf rfl rfl (zat rfl rfl rfl) (zao rfl ts25 rfl) (zaf rfl rfl (zat rfl rfl rfl) (zax rfl rfl rfl (IntWalk.i64_in _ (by omega))) (zaf rfl rfl (zat rfl rfl rfl) (zeg (by omega) (zbp rfl rfl rfl)) ?_)))))))))))))))
  refine zac rfl (zac rfl (zbz zdu rfl (zbu ta30 rfl (zaf rfl rfl (zat rfl rfl rfl) (zam rfl rfl (h01) (zae rfl zap)) (zaf rfl rfl (zat rfl rfl rfl) (zbj rfl rfl) (zac rfl (zad (zai (za5 rfl (zag (zab (zac rfl (zad (zai ?_))))))))))))))
  (refine za7 ?_; repeat (first | refine zbc ?_ | refine zbe ?_))
  exact zb6 (.inr rfl) rfl (congrArg eB (hRf (fun h => by have := hvd h; cases this)).symm)
 | true =>
 refine zab (zcx ta24 ti24 rfl (zaf rfl rfl (zaa rfl) (zam rfl rfl (h21) (zae rfl zap)) (zaf rfl rfl (zaa rfl) (zbj rfl rfl) (zac rfl (zac rfl (zaf rfl rfl (zat rfl rfl rfl) (zam rfl rfl (h42) (zae rfl zap)) (zaf rfl rfl (zat rfl rfl rfl) (zbj rfl rfl) (zac rfl (zac rfl (zbz zd6 rfl (zbu ta28 rfl (zaf rfl rfl (zat rfl rfl rfl) (zao rfl ts28 rfl) (zaf rfl rfl (zat rfl rfl rfl) (zeg (by omega) (zb0 rfl rfl rfl)) (zac rfl (zac rfl (zbz zbh rfl (zbu ta29 rfl ?_)))))))))))))))))
 refine zaf rfl rfl (zat rfl rfl rfl) (zao rfl ts29 rfl) (zbz zd6 rfl (zbu ta28 rfl (zaf rfl rfl (zat rfl rfl rfl) (zao rfl ts28 rfl) (zaf rfl rfl (zat rfl rfl rfl) (zeg (by omega) (zbp rfl rfl rfl)) (zac rfl (zac rfl (zbz zdu rfl (zbu ta30 rfl (zaf rfl rfl (zat rfl rfl rfl) (zao rfl ts30 rfl) (zbz zem rfl (zbu ta3 rfl (zac rfl (zaf rfl rfl (zat rfl rfl rfl) (zao rfl ts25 rfl) (zaf rfl rfl (zat rfl rfl rfl) (zax rfl rfl rfl (IntWalk.i64_in _ (by omega))) (zaf rfl rfl (zat rfl rfl rfl) (zeg (by omega) (zbp rfl rfl rfl)) ?_)))))))))))))))
 refine zac rfl (zac rfl (zbz zdu rfl (zbu ta30 rfl (zaf rfl rfl (zat rfl rfl rfl) (zam rfl rfl (h01) (zae rfl zap)) (zaf rfl rfl (zat rfl rfl rfl) (zbj rfl rfl) (zac rfl (zad (zai (zau rfl (zar (zag (zag ?_))))))))))))
 replace hmk := hmk rfl rfl rfl hc1 hc2 hc3
 refine zab (zac rfl (zad (zai (zas ?_))))
 refine zb1 (S := Nat) (fun k => [(1, eL eS w), (3, .ref (eN n).cells), (5, .ref (ePf p).cells), (7, eI k)]) (fun k => []) (fun k => k ≤ p.st.length ∧ ∀ j, j < k → okS n w (gti p.st j) ∧ ¬ zef p.st (gti p.st j) < j ∧ 0 ≤ gti p.pots j ∧ gti p.pots j ≤ 1073741824) (fun k => p.st.length - k) 0
  (zb8 [] (by decide) trivial ⟨.lo _ (lo_W w), .lo _ hln, .lo _ hlp, .lo _ (.s _), trivial⟩) ⟨Nat.zero_le _, fun j hj => by omega⟩ (fun k hk => ?_)
 obtain ⟨hk, hall⟩ := hk
 refine zag (zag (zab (zac rfl (zbz zd6 rfl (zbu ta28 rfl (zaf rfl rfl (zaa rfl) (zao rfl ts28 rfl) ?_))))))
 refine za3 rfl rfl (zaa rfl) (za2 rfl rfl rfl) (fun h52 => ?_) (fun h52 => ?_)
 all_goals refine zad (zai ?_)
 all_goals (first | refine za5 rfl ?_ | refine zau rfl ?_)
 all_goals (repeat (first | refine zag ?_ | refine zar ?_ | refine zas ?_))
 rotate_left 1
 ·
  have hke : k = p.st.length := by omega
  subst hke
  (refine zb9 ?_; repeat (first | refine zcr ?_ | refine zbt ?_ | refine zbk rfl ?_ | refine zbl ?_ | refine zai ?_ | refine zag ?_ | refine zar ?_ | refine zas ?_))
  refine zab (zac rfl (zad (zai ?_)))
  (refine za7 ?_; repeat (first | refine zbc ?_ | refine zbe ?_))
  exact zb6 (.inr rfl) rfl (congrArg eB (hvf.2 (hmk hall)).symm)
 have hkt : k < p.st.length := by omega
 have his : (p.st.map (eL eI))[k]? = some (eL eI (gti p.st k)) := zbb hkt
 have hip : (p.pots.map eI)[k]? = some (eI (gti p.pots k)) := zbb (by omega)
 have hS := zqo (P := P) n w (gti p.st k)
 have hF := zkg (P := P) p.st (gti p.st k)
 have hnv : VD n w p → okS n w (gti p.st k) ∧ ¬ zef p.st (gti p.st k) < k ∧ 0 ≤ gti p.pots k ∧ gti p.pots k ≤ 1073741824 := fun h => ⟨h.ok _ (gti_mem hkt), by rw [zh2 h.nd hkt]; omega, h.pb _ (gti_mem (by omega))⟩
 have hnx : okS n w (gti p.st k) ∧ ¬ zef p.st (gti p.st k) < k ∧ 0 ≤ gti p.pots k ∧ gti p.pots k ≤ 1073741824 → ∀ j, j < k + 1 → okS n w (gti p.st j) ∧ ¬ zef p.st (gti p.st j) < j ∧ 0 ≤ gti p.pots j ∧ gti p.pots j ≤ 1073741824 := fun h j hj => by
  by_cases e : j = k
  ·
   subst e; exact h
  ·
   exact hall j (by omega)
 generalize gti p.st k = s at his hS hF hnv hnx
 generalize gti p.pots k = q at hip hnv hnx
 by_cases hst : zd3 n w s = true
 rotate_left 1
 ·
  rw [show zd3 n w s = false by simpa using hst] at hS
  refine zb2 hmix ?_
  refine zbx (by kernel_rfl) ?_
  refine qx_w ta24 ti24 rfl (qx_s rfl (qx_f zd6 rfl (qx_l ta28 rfl (qx_s rfl (zby rfl rfl (zaa rfl) (zal rfl ts28 ti29 rfl rfl rfl his rfl) (qx_l ta29 rfl (zby rfl rfl (zaa rfl) (zam rfl rfl (hS) (zae rfl (zae rfl (zae rfl zap)))) (zby rfl rfl (zaa rfl) (zbj rfl rfl) (qx_s rfl (qx_z rfl (qx_z rfl (qx_z rfl (qx_z rfl (qx_z rfl (qx_z rfl (qx_z rfl (qx_z rfl (qx_z rfl (qx_z rfl (qx_s rfl (qx_s rfl (qx_z rfl (qx_z rfl (qx_z rfl (qx_z rfl (qx_z rfl (qx_z rfl (qx_s rfl (qx_s rfl (qx_z rfl (qx_z rfl (qx_z rfl ?_))))))))))))))))))))))))))))))))
  refine qx_z rfl (qx_z rfl (qx_z rfl (qx_s rfl ?_)))
  refine zdg ?_
  refine zai (za5 rfl (zag (zab (zac rfl (zad (zai ?_))))))
  (refine za7 ?_; repeat (first | refine zbc ?_ | refine zbe ?_))
  exact zb6 (.inr rfl) rfl (congrArg eB (hRf (fun h => hst (hnv h).1)).symm)
 rw [hst] at hS
 have hbad : (zef p.st s < k ∨ q < 0 ∨ 1073741824 < q) → R = false := fun h => hRf (fun hv => by have := (hnv hv).2; omega)
 have hok2 : okS n w s := hst
 replace hnx := fun h => hnx ⟨hok2, h⟩
 generalize zef p.st s = fi at hF hbad hnx
 by_cases g1 : fi < k
 ·
  refine zb2 hmix ?_
  refine zbx (by kernel_rfl) ?_
  refine qx_w ta24 ti24 rfl (qx_s rfl (qx_f zd6 rfl (qx_l ta28 rfl (qx_s rfl (zby rfl rfl (zaa rfl) (zal rfl ts28 ti29 rfl rfl rfl his rfl) (qx_l ta29 rfl (zby rfl rfl (zaa rfl) (zam rfl rfl (hS) (zae rfl (zae rfl (zae rfl zap)))) (zby rfl rfl (zaa rfl) (zbj rfl rfl) (qx_s rfl (qx_f zd6 rfl (qx_l ta28 rfl (qx_f zd6 rfl (qx_l ta28 rfl (qx_s rfl (zby rfl rfl (zat rfl rfl rfl) (zal rfl ts28 ti29 rfl rfl rfl his rfl) (qx_l ta29 rfl (zby rfl rfl (zat rfl rfl rfl) (zam rfl rfl (hF) (zae rfl (zae rfl zap))) ?_)))))))))))))))))
  refine qx_s rfl (zby rfl rfl (zat rfl rfl rfl) (zdc g1 (za2 rfl rfl rfl)) (qx_s rfl (qx_s rfl (qx_z rfl (qx_z rfl (qx_z rfl (qx_z rfl (qx_z rfl (qx_z rfl (qx_s rfl (qx_s rfl (qx_z rfl (qx_z rfl (qx_z rfl (qx_z rfl (qx_z rfl (qx_z rfl (qx_s rfl ?_))))))))))))))))))
  refine zdg ?_
  refine zai (za5 rfl (zag (zab (zac rfl (zad (zai ?_))))))
  (refine za7 ?_; repeat (first | refine zbc ?_ | refine zbe ?_))
  exact zb6 (.inr rfl) rfl (congrArg eB (hbad (.inl g1)).symm)
 by_cases g2 : q < 0
 ·
  refine zb2 hmix ?_
  refine zbx (by kernel_rfl) ?_
  refine qx_w ta24 ti24 rfl (qx_s rfl (qx_f zd6 rfl (qx_l ta28 rfl (qx_s rfl (zby rfl rfl (zaa rfl) (zal rfl ts28 ti29 rfl rfl rfl his rfl) (qx_l ta29 rfl (zby rfl rfl (zaa rfl) (zam rfl rfl (hS) (zae rfl (zae rfl (zae rfl zap)))) (zby rfl rfl (zaa rfl) (zbj rfl rfl) (qx_s rfl (qx_f zd6 rfl (qx_l ta28 rfl (qx_f zd6 rfl (qx_l ta28 rfl (qx_s rfl (zby rfl rfl (zat rfl rfl rfl) (zal rfl ts28 ti29 rfl rfl rfl his rfl) (qx_l ta29 rfl (zby rfl rfl (zat rfl rfl rfl) (zam rfl rfl (hF) (zae rfl (zae rfl zap))) ?_)))))))))))))))))
  refine qx_s rfl (zby rfl rfl (zat rfl rfl rfl) (zeg g1 (za2 rfl rfl rfl)) (qx_s rfl (qx_s rfl (qx_f zbh rfl (qx_l ta29 rfl (qx_s rfl (zby rfl rfl (zat rfl rfl rfl) (zal rfl ts29 ti3 rfl rfl rfl hip rfl) (qx_l ta3 rfl (zby rfl rfl (zat rfl rfl rfl) (zdc g2 (za2 rfl rfl rfl)) (qx_s rfl (qx_s rfl (qx_z rfl (qx_z rfl (qx_z rfl (qx_z rfl (qx_z rfl (qx_z rfl (qx_s rfl ?_))))))))))))))))))
  refine zdg ?_
  refine zai (za5 rfl (zag (zab (zac rfl (zad (zai ?_))))))
  (refine za7 ?_; repeat (first | refine zbc ?_ | refine zbe ?_))
  exact zb6 (.inr rfl) rfl (congrArg eB (hbad (.inr (.inl g2))).symm)
 by_cases g3 : q > 1073741824
 ·
  refine zb2 hmix ?_
  refine zbx (by kernel_rfl) ?_
  refine qx_w ta24 ti24 rfl (qx_s rfl (qx_f zd6 rfl (qx_l ta28 rfl (qx_s rfl (zby rfl rfl (zaa rfl) (zal rfl ts28 ti29 rfl rfl rfl his rfl) (qx_l ta29 rfl (zby rfl rfl (zaa rfl) (zam rfl rfl (hS) (zae rfl (zae rfl (zae rfl zap)))) (zby rfl rfl (zaa rfl) (zbj rfl rfl) (qx_s rfl (qx_f zd6 rfl (qx_l ta28 rfl (qx_f zd6 rfl (qx_l ta28 rfl (qx_s rfl (zby rfl rfl (zat rfl rfl rfl) (zal rfl ts28 ti29 rfl rfl rfl his rfl) (qx_l ta29 rfl (zby rfl rfl (zat rfl rfl rfl) (zam rfl rfl (hF) (zae rfl (zae rfl zap))) ?_)))))))))))))))))
  refine qx_s rfl (zby rfl rfl (zat rfl rfl rfl) (zeg g1 (za2 rfl rfl rfl)) (qx_s rfl (qx_s rfl (qx_f zbh rfl (qx_l ta29 rfl (qx_s rfl (zby rfl rfl (zat rfl rfl rfl) (zal rfl ts29 ti3 rfl rfl rfl hip rfl) (qx_l ta3 rfl (zby rfl rfl (zat rfl rfl rfl) (zeg g2 (za2 rfl rfl rfl)) (qx_s rfl (qx_s rfl (qx_f zbh rfl (qx_l ta29 rfl (qx_s rfl (zby rfl rfl (zat rfl rfl rfl) (zal rfl ts29 ti3 rfl rfl rfl hip rfl) (qx_l ta3 rfl (zby rfl rfl (zat rfl rfl rfl) (zdc g3 (zb0 rfl rfl rfl)) (qx_s rfl ?_))))))))))))))))))
  refine zdg ?_
  refine zai (za5 rfl (zag (zab (zac rfl (zad (zai ?_))))))
  (refine za7 ?_; repeat (first | refine zbc ?_ | refine zbe ?_))
  exact zb6 (.inr rfl) rfl (congrArg eB (hbad (.inr (.inr g3))).symm)
 refine zb2 hmix ?_
 refine zbx (by kernel_rfl) ?_
 refine qx_w ta24 ti24 rfl (qx_s rfl (qx_f zd6 rfl (qx_l ta28 rfl (qx_s rfl (zby rfl rfl (zaa rfl) (zal rfl ts28 ti29 rfl rfl rfl his rfl) (qx_l ta29 rfl (zby rfl rfl (zaa rfl) (zam rfl rfl (hS) (zae rfl (zae rfl (zae rfl zap)))) (zby rfl rfl (zaa rfl) (zbj rfl rfl) (qx_s rfl (qx_f zd6 rfl (qx_l ta28 rfl (qx_f zd6 rfl (qx_l ta28 rfl (qx_s rfl (zby rfl rfl (zat rfl rfl rfl) (zal rfl ts28 ti29 rfl rfl rfl his rfl) (qx_l ta29 rfl (zby rfl rfl (zat rfl rfl rfl) (zam rfl rfl (hF) (zae rfl (zae rfl zap))) ?_)))))))))))))))))
 refine qx_s rfl (zby rfl rfl (zat rfl rfl rfl) (zeg g1 (za2 rfl rfl rfl)) (qx_s rfl (qx_s rfl (qx_f zbh rfl (qx_l ta29 rfl (qx_s rfl (zby rfl rfl (zat rfl rfl rfl) (zal rfl ts29 ti3 rfl rfl rfl hip rfl) (qx_l ta3 rfl (zby rfl rfl (zat rfl rfl rfl) (zeg g2 (za2 rfl rfl rfl)) (qx_s rfl (qx_s rfl (qx_f zbh rfl (qx_l ta29 rfl (qx_s rfl (zby rfl rfl (zat rfl rfl rfl) (zal rfl ts29 ti3 rfl rfl rfl hip rfl) (qx_l ta3 rfl (zby rfl rfl (zat rfl rfl rfl) (zeg g3 (zb0 rfl rfl rfl)) (qx_s rfl ?_))))))))))))))))))
 refine zdg ?_
 refine zai (zau rfl (zar (zbl (zai (zab (zac rfl (zaf rfl rfl (zaa rfl) (zax rfl rfl rfl (IntWalk.i64_in _ (by omega))) (zac rfl (zad (zai ?_))))))))))
 exact ⟨k + 1, ⟨by omega, hnx ⟨g1, by omega, by omega⟩⟩, by omega, zel _ ⟨rfl, rfl, rfl, rfl, trivial⟩⟩
end Aw
namespace Aw
open Go Go.RowKit Go.Proofs Go.Maps Go.WideMaps Dl
variable {P : Program} [IsP P]
def gns (n : Net) (p : Prf) (k : Nat) : List Fr := (n.trans.take k).map fun t => frE (gE n p t)
theorem zwh {n : Net} {p : Prf} {k : Nat} (h : k ≤ n.trans.length) : (gns n p k).length = k := by simp [gns]; omega
theorem zy5 {n : Net} {p : Prf} {k : Nat} (h : k < n.trans.length) : gns n p (k + 1) = gns n p k ++ [frE (gE n p (gti n.trans k))] := by
 unfold gns
 rw [List.take_add_one, zdh h]
 simp
theorem e06 {e : Int} (h : E06 e) (h0 : e ≠ 0) : e = 6 := by rcases h with h | h; exact absurd h h0; exact h
set_option maxHeartbeats 4000000 in
theorem zvd (n : Net) (w : List ByteArray) (c : Cst) (p : Prf) (hv : VD n w p) (hc : vcB c = true) : Pure P 58 [eN n, eL eS w, eC c, ePf p] (eI (fstE n w c p c6)) := by
 have hpl := zdy hv.net
 have hwl := hv.wl
 have hdl := hv.dl
 have hvb := zzx hc
 have hln : Lo 0 (.ref (eN n).cells) := .ref _ (lo_N n).cells
 have hlp : Lo 0 (.ref (ePf p).cells) := ze2 p
 have hlc : Lo 0 (.ref (eC c).cells) := .ref _ (lo_C c).cells
 have HI : fstE n w c p c6 = if fst1 n c p c6 (n.trans.drop 0) ≠ 0 then fst1 n c p c6 (n.trans.drop 0) else fst2 n c p c6 0 (w.drop 0) := rfl
 generalize fstE n w c p c6 = R at HI ⊢
 refine zcl (by rw [IsP.eq (P := P)]; exact Tryz.func58) rfl rfl rfl rfl rfl (zah (lo_N n) (zah (lo_W w) (zah (lo_C c) (zah (zij p) zak)))) (.s _) (by simp only [argF]; rfl) ?_
 refine zag (zab (zaf rfl rfl (zaa rfl) (zb3 rfl rfl rfl rfl) ?_))
 refine za6 (zbm (id := 0) rfl) (za6 (zcb (d := 4) rfl rfl rfl) ?_)
 refine zaf rfl rfl (zaa rfl) (zb3 rfl rfl rfl rfl) ?_
 refine za6 (zbm (id := 1) rfl) (za6 (zcb (d := 6) rfl rfl rfl) ?_)
 refine zaf rfl rfl (zaa rfl) (zb3 rfl rfl rfl rfl) ?_
 refine za6 (zbm (id := 2) rfl) (za6 (zcb (d := 7) rfl rfl rfl) ?_)
 refine zac rfl (zad (zag (zab (zac rfl (zad (zag (zag (zab (zac rfl (zad (zai (zas ?_))))))))))))
 refine zbg (zkv (d := 9) (x := .s (.slice none 0 0)) 2 rfl (.inr rfl)) ?_
 refine zb1 (S := Nat) (fun k => [(1, eL eS w), (4, .ref (eN n).cells), (6, .ref (eC c).cells), (7, .ref (ePf p).cells), (9, .own 0 2 k), (10, eI k)]) (fun k => [.row 2 ((gns n p k).map eF)]) (fun k => k ≤ n.trans.length ∧ (R = if fst1 n c p c6 (n.trans.drop k) ≠ 0 then fst1 n c p c6 (n.trans.drop k) else fst2 n c p c6 0 (w.drop 0)) ∧ ∀ j, j < k → (gE n p (gti n.trans j)).e = 0) (fun k => n.trans.length - k) 0
  (zb8 [3] (by decide) ⟨⟨_, rfl, .rowE (zdt _) rfl⟩, trivial⟩ ⟨.lo _ (lo_W w), .lo _ hln, .lo _ hlc, .lo _ hlp, .own 3 0 2 _ _ rfl rfl, .lo _ (.s _), trivial⟩) ⟨Nat.zero_le _, HI, fun j hj => by omega⟩ (fun k hk => ?_)
 clear HI
 obtain ⟨hk, HI, hge0⟩ := hk
 have hll : ((gns n p k).map eF).length = k := by rw [List.length_map, zwh hk]
 have hl2 := zwh (n := n) (p := p) hk
 refine zag (zag (zab (zac rfl (zbz zex rfl (zbu ta22 rfl (zaf rfl rfl (zaa rfl) (zao rfl ts22 rfl) ?_))))))
 refine za3 rfl rfl (zaa rfl) (za2 rfl rfl rfl) (fun h23 => ?_) (fun h23 => ?_)
 all_goals refine zad (zai ?_)
 all_goals (first | refine za5 rfl ?_ | refine zau rfl ?_)
 all_goals (repeat (first | refine zag ?_ | refine zar ?_ | refine zas ?_))
 ·
  have hkt : k < n.trans.length := by omega
  have hsc := zy5 (p := p) hkt
  have hge1 : (gE n p (gti n.trans k)).e = 0 → ∀ j, j < k + 1 → (gE n p (gti n.trans j)).e = 0 := fun h j hj => by
   by_cases e : j = k
   ·
    subst e; exact h
   ·
    exact hge0 j (by omega)
  rw [zea hkt] at HI
  have hit : (n.trans.map eT)[k]? = some (eT (gti n.trans k)) := zbb hkt
  have hge := zyf (P := P) n p k hkt (by omega) (by omega)
  have hgv := hv.gE (gti n.trans k)
  have hmo : fst1 n c p c6 (gti n.trans k :: n.trans.drop (k + 1)) = if (gE n p (gti n.trans k)).e ≠ 0 then 6 else if grB (frE (gE n p (gti n.trans k))) (Fr.of (zii c (gti n.trans k))) then 28 else fst1 n c p c6 (n.trans.drop (k + 1)) := rfl
  rw [hmo] at HI
  clear hmo
  generalize gE n p (gti n.trans k) = ge at HI hge hgv hsc hge1
  generalize gti n.trans k = t at HI hit
  refine zab (zcx ta24 ti24 rfl (zcx ta32 ti32 rfl (zac rfl (zaf rfl rfl (zaa rfl) (zam rfl rfl (hge) (zae rfl (zae rfl (zae rfl zap)))) (zac rfl (zac rfl (zac rfl (zaf rfl rfl (zaa rfl) (za1 rfl ti56 rfl rfl) (zba rfl (zaa rfl) (zaj rfl ti56 rfl rfl rfl rfl rfl rfl (by decide) (by decide)) (zac rfl (zad (zag (zag ?_)))))))))))))
  refine zbg (zbm (id := 1) rfl) ?_
  refine zbg (zcb (d := 11) rfl rfl rfl) ?_
  refine zab (zac rfl ?_)
  refine za3 rfl rfl (zaa rfl) (zbp rfl rfl rfl) (fun h34 => ?_) (fun h34 => ?_)
  all_goals refine zad (zai ?_)
  all_goals (first | refine za5 rfl ?_ | refine zau rfl ?_)
  all_goals (repeat (first | refine zag ?_ | refine zar ?_))
  ·
   replace h34 : ge.e ≠ 0 := h34
   rw [if_pos h34, if_pos (by decide)] at HI
   refine zab (zac rfl (zac rfl (zad (zai ?_))))
   (refine za7 ?_; repeat (first | refine zbc ?_ | refine zbe ?_))
   exact zb6 (.inr rfl) rfl (congrArg eI ((e06 hgv.1 h34).trans HI.symm))
  replace h34 : ¬ ge.e ≠ 0 := h34
  have hg0 : ge.e = 0 := Classical.byContradiction h34
  have hgk := hgv.2 hg0
  rw [if_neg h34, zjq hgk (zfu (by have := zsd hc t; omega))] at HI
  have hrow : (gns n p (k + 1)).map eF = (gns n p k).map eF ++ [eF (frE ge)] := by rw [hsc, List.map_append]; rfl
  have hend : cmpN (frE ge) (Fr.of (zii c t)) > 0 → R = 28 := fun h => by rw [decide_eq_true h] at HI; exact HI.trans (if_pos (show (28 : Int) ≠ 0 by decide))
  have hgo : ¬ cmpN (frE ge) (Fr.of (zii c t)) > 0 → R = if fst1 n c p c6 (n.trans.drop (k + 1)) ≠ 0 then fst1 n c p c6 (n.trans.drop (k + 1)) else fst2 n c p c6 0 (w.drop 0) := fun h => by rw [decide_eq_false h] at HI; exact HI
  refine zab (zbz zz0 rfl (zbu ta3 rfl (zac rfl (zad (zag (zag (zab (zbz zex rfl (zbu ta22 rfl (zac rfl (zaf rfl rfl (zaa rfl) (zal rfl ts22 ti86 rfl rfl rfl hit rfl) (zbz zmk rfl (zbu ta9 rfl ?_)))))))))))))
  refine za3 rfl rfl (zaa rfl) (zsx rfl rfl rfl) (fun h44 => ?_) (fun h44 => ?_)
  all_goals refine zad (zai ?_)
  all_goals (first | refine za5 rfl ?_ | refine zau rfl ?_)
  all_goals (repeat (first | refine zag ?_ | refine zar ?_))
  ·
   have hmo : zii c t = c.silent := if_pos h44
   rw [hmo] at hend hgo
   have hof := zhm (P := P) c.silent
   have hcm := zk9 (P := P) (frE ge) (Fr.of c.silent) ((Fr.okB_iff _).1 hgk) ((Fr.okB_iff _).1 (zfu (by omega)))
   refine zab (zbz zzz rfl (zbu ta3 rfl (zac rfl (zad (zag (zag ?_))))))
   refine zb2 hmix ?_
   refine zbx (by kernel_rfl) ?_
   refine qx_w ta56 ti56 rfl (qx_s rfl (zby rfl rfl (zaa rfl) (zam rfl rfl (hof) (zae rfl zap)) (zby rfl rfl (zaa rfl) (zam rfl rfl (hcm) (zae rfl (zae rfl zap))) ?_)))
   refine zo6 rfl rfl (zaa rfl) (zb0 rfl rfl rfl) (fun h51 => ?_) (fun h51 => ?_)
   all_goals refine zdg ?_
   all_goals refine zai ?_
   all_goals (first | refine za5 rfl ?_ | refine zau rfl ?_)
   all_goals (repeat (first | refine zag ?_ | refine zai ?_ | refine zar ?_))
   ·
    refine zab (zac rfl (zad (zai ?_)))
    (refine za7 ?_; repeat (first | refine zbc ?_ | refine zbe ?_))
    exact zb6 (.inr rfl) rfl (congrArg eI (hend h51).symm)
   ·
    refine zab (zac rfl (zcx ta56 ti56 rfl (zaf rfl rfl (zaa rfl) (zco rfl ts30 ti56 rfl rfl (by decide) (by decide) rfl rfl rfl (.agg _ (zah (.s _) (zah (.s _) zak)))) ?_)))
    refine zaf rfl rfl (zaa rfl) (zbq rfl ts30 ti56 rfl (by decide) rfl rfl hll.symm rfl (by first | exact .own _ _ _ rfl rfl _ (by first | rfl | simp) | exact .emp | exact .nil | exact .sl _ (by first | simp; done | intro e he; simp at he; obtain ⟨_, _, rfl⟩ := he; rfl)) (by first | omega | (simp; omega) | (unfold maxLen; simp; omega)) (by first | omega | (simp; omega) | (unfold maxLen; simp; omega))) ?_
    refine zac rfl (zad (zbl (zai (zab (zac rfl (zaf rfl rfl (zaa rfl) (zax rfl rfl rfl (IntWalk.i64_in _ (by omega))) (zac rfl (zad (zai ?_)))))))))
    exact ⟨k + 1, ⟨by omega, hgo h51, hge1 hg0⟩, by omega, zb8 [2] (by decide) ⟨⟨_, rfl, .rowE (zdt _) hrow.symm⟩, trivial⟩ ⟨.lo _ (lo_W w), .lo _ hln, .lo _ hlc, .lo _ hlp, .own 2 0 2 _ _ rfl (by rw [hll]; rfl), .lo _ (.s _), trivial⟩⟩
  ·
   have hmo : zii c t = c.model := if_neg h44
   rw [hmo] at hend hgo
   have hof := zhm (P := P) c.model
   have hcm := zk9 (P := P) (frE ge) (Fr.of c.model) ((Fr.okB_iff _).1 hgk) ((Fr.okB_iff _).1 (zfu (by omega)))
   refine zb2 hmix ?_
   refine zbx (by kernel_rfl) ?_
   refine qx_w ta56 ti56 rfl (qx_s rfl (zby rfl rfl (zaa rfl) (zam rfl rfl (hof) (zae rfl zap)) (zby rfl rfl (zaa rfl) (zam rfl rfl (hcm) (zae rfl (zae rfl zap))) ?_)))
   refine zo6 rfl rfl (zaa rfl) (zb0 rfl rfl rfl) (fun h51 => ?_) (fun h51 => ?_)
   all_goals refine zdg ?_
   all_goals refine zai ?_
   all_goals (first | refine za5 rfl ?_ | refine zau rfl ?_)
   all_goals (repeat (first | refine zag ?_ | refine zai ?_ | refine zar ?_))
   ·
    refine zab (zac rfl (zad (zai ?_)))
    (refine za7 ?_; repeat (first | refine zbc ?_ | refine zbe ?_))
    exact zb6 (.inr rfl) rfl (congrArg eI (hend h51).symm)
   ·
    refine zab (zac rfl (zcx ta56 ti56 rfl (zaf rfl rfl (zaa rfl) (zco rfl ts30 ti56 rfl rfl (by decide) (by decide) rfl rfl rfl (.agg _ (zah (.s _) (zah (.s _) zak)))) ?_)))
    refine zaf rfl rfl (zaa rfl) (zbq rfl ts30 ti56 rfl (by decide) rfl rfl hll.symm rfl (by first | exact .own _ _ _ rfl rfl _ (by first | rfl | simp) | exact .emp | exact .nil | exact .sl _ (by first | simp; done | intro e he; simp at he; obtain ⟨_, _, rfl⟩ := he; rfl)) (by first | omega | (simp; omega) | (unfold maxLen; simp; omega)) (by first | omega | (simp; omega) | (unfold maxLen; simp; omega))) ?_
    refine zac rfl (zad (zbl (zai (zab (zac rfl (zaf rfl rfl (zaa rfl) (zax rfl rfl rfl (IntWalk.i64_in _ (by omega))) (zac rfl (zad (zai ?_)))))))))
    exact ⟨k + 1, ⟨by omega, hgo h51, hge1 hg0⟩, by omega, zb8 [2] (by decide) ⟨⟨_, rfl, .rowE (zdt _) hrow.symm⟩, trivial⟩ ⟨.lo _ (lo_W w), .lo _ hln, .lo _ hlc, .lo _ hlp, .own 2 0 2 _ _ rfl (by rw [hll]; rfl), .lo _ (.s _), trivial⟩⟩
 have hke : k = n.trans.length := by omega
 rw [hke, List.drop_length] at HI
 replace HI : R = fst2 n c p c6 0 (w.drop 0) := HI
 (refine zb9 ?_; repeat (first | refine zcr ?_ | refine zbt ?_ | refine zbk rfl ?_ | refine zbl ?_ | refine zai ?_ | refine zag ?_ | refine zar ?_ | refine zas ?_))
 refine zbg (zbm (id := 0) rfl) ?_
 refine zbg (zoh (d := 9) rfl rfl (by rw [hll])) ?_
 have hlg : Lo 0 (eL eF (gns n p k)) := zan fun a => zfe a
 refine zab (zac rfl (zad (zai (zas ?_))))
 refine zb1 (S := Nat) (fun m => [(1, eL eS w), (4, .ref (eN n).cells), (6, .ref (eC c).cells), (7, .ref (ePf p).cells), (9, eL eF (gns n p k)), (14, eI m)]) (fun m => []) (fun m => m ≤ w.length ∧ R = fst2 n c p c6 m (w.drop m)) (fun m => w.length - m) 0
  (zb8 [] (by decide) trivial ⟨.lo _ (lo_W w), .lo _ hln, .lo _ hlc, .lo _ hlp, .lo _ hlg, .lo _ (.s _), trivial⟩) ⟨Nat.zero_le _, HI⟩ (fun m hm => ?_)
 clear HI hll
 obtain ⟨hm, HI⟩ := hm
 refine zag (zag (zab (zac rfl (zac rfl (zaf rfl rfl (zaa rfl) (zao rfl ts25 rfl) ?_)))))
 refine za3 rfl rfl (zaa rfl) (za2 rfl rfl rfl) (fun h59 => ?_) (fun h59 => ?_)
 all_goals refine zad (zai ?_)
 all_goals (first | refine za5 rfl ?_ | refine zau rfl ?_)
 all_goals (repeat (first | refine zag ?_ | refine zar ?_ | refine zas ?_))
 rotate_left 1
 ·
  have hme : m = w.length := by omega
  subst hme
  rw [List.drop_length] at HI
  replace HI : R = 0 := HI
  (refine zb9 ?_; repeat (first | refine zcr ?_ | refine zbt ?_ | refine zbk rfl ?_ | refine zbl ?_ | refine zai ?_ | refine zag ?_ | refine zar ?_ | refine zas ?_))
  refine zab (zac rfl (zad (zai ?_)))
  (refine za7 ?_; repeat (first | refine zbc ?_ | refine zbe ?_))
  exact zb6 (.inr rfl) rfl (congrArg eI HI.symm)
 have hmt : m < w.length := by omega
 rw [zea hmt] at HI
 have hiw : (w.map eS)[m]? = some (eS (gti w m)) := zbb hmt
 generalize gti w m = act at HI hiw
 have hdk : n.places.toNat + m < p.duals.length := by omega
 have hid : (p.duals.map eF)[n.places.toNat + m]? = some (eF (gti p.duals (n.places.toNat + m))) := zbb hdk
 have hdo : (gti p.duals (n.places.toNat + m)).okB = true := List.all_eq_true.1 hv.dok _ (gti_mem hdk)
 have hun : fst2 n c p c6 m (act :: w.drop (m + 1)) = if grB (gti p.duals (n.places.toNat + m)) (Fr.of c.log) then 28 else if fst3 n p c6 (gti p.duals (n.places.toNat + m)) act (n.trans.drop 0) ≠ 0 then fst3 n p c6 (gti p.duals (n.places.toNat + m)) act (n.trans.drop 0) else fst2 n c p c6 (m + 1) (w.drop (m + 1)) := rfl
 rw [hun] at HI
 clear hun
 generalize gti p.duals (n.places.toNat + m) = d at HI hid hdo
 rw [zjq hdo (zfu (k := c.log) (by omega))] at HI
 have hof := zhm (P := P) c.log
 have hcm := zk9 (P := P) d (Fr.of c.log) ((Fr.okB_iff _).1 hdo) ((Fr.okB_iff _).1 (zfu (by omega)))
 refine zab (zbz zdu rfl (zbu ta30 rfl (zbz zem rfl (zbu ta3 rfl (zac rfl (zaf rfl rfl (zaa rfl) (zax rfl rfl rfl (IntWalk.i64_in _ (by omega))) (zaf rfl rfl (zaa rfl) (zal rfl ts30 ti56 rfl rfl (k := n.places.toNat + m) (by omega) hid rfl) (zcx ta56 ti56 rfl (zaf rfl rfl (zaa rfl) (za1 rfl ti56 rfl rfl) (zba rfl (zaa rfl) (zaj rfl ti56 rfl rfl rfl rfl rfl rfl (by decide) (by decide)) (zad (zag (zag ?_)))))))))))))
 refine zbg (zbm (id := 0) rfl) ?_
 refine zbg (zcb (d := 15) rfl rfl rfl) ?_
 refine zb2 hmix ?_
 refine zbx (by kernel_rfl) ?_
 refine qx_w ta56 ti56 rfl (qx_f zz1 rfl (qx_l ta3 rfl (zby rfl rfl (zaa rfl) (zam rfl rfl (hof) (zae rfl zap)) (zby rfl rfl (zaa rfl) (zam rfl rfl (hcm) (zae rfl (zae rfl zap))) ?_))))
 refine zo6 rfl rfl (zaa rfl) (zb0 rfl rfl rfl) (fun h75 => ?_) (fun h75 => ?_)
 all_goals refine zdg ?_
 all_goals refine zai ?_
 all_goals (first | refine za5 rfl ?_ | refine zau rfl ?_)
 all_goals (repeat (first | refine zag ?_ | refine zar ?_))
 ·
  rw [decide_eq_true h75, if_pos rfl] at HI
  refine zab (zac rfl (zad (zai ?_)))
  (refine za7 ?_; repeat (first | refine zbc ?_ | refine zbe ?_))
  exact zb6 (.inr rfl) rfl (congrArg eI HI.symm)
 rw [decide_eq_false h75, if_neg (by decide)] at HI
 clear hcm hof
 have hld : Lo 0 (.ref (eF d).cells) := .ref _ (zfe d).cells
 refine zab (zac rfl (zad (zai (zas ?_))))
 refine zb1 (S := Nat) (fun i => [(1, eL eS w), (4, .ref (eN n).cells), (6, .ref (eC c).cells), (7, .ref (ePf p).cells), (9, eL eF (gns n p k)), (14, eI m), (15, .ref (eF d).cells), (16, eI i)]) (fun _ => []) (fun i => i ≤ n.trans.length ∧ R = if fst3 n p c6 d act (n.trans.drop i) ≠ 0 then fst3 n p c6 d act (n.trans.drop i) else fst2 n c p c6 (m + 1) (w.drop (m + 1))) (fun i => n.trans.length - i) 0
  (zb8 [] (by decide) trivial ⟨.lo _ (lo_W w), .lo _ hln, .lo _ hlc, .lo _ hlp, .lo _ hlg, .lo _ (.s _), .lo _ hld, .lo _ (.s _), trivial⟩) ⟨Nat.zero_le _, HI⟩ (fun i hi => ?_)
 clear HI
 obtain ⟨hi, HI⟩ := hi
 refine zag (zag (zab (zac rfl (zbz zex rfl (zbu ta22 rfl (zaf rfl rfl (zaa rfl) (zao rfl ts22 rfl) ?_))))))
 refine za3 rfl rfl (zaa rfl) (za2 rfl rfl rfl) (fun h80 => ?_) (fun h80 => ?_)
 all_goals refine zad (zai ?_)
 all_goals (first | refine za5 rfl ?_ | refine zau rfl ?_)
 all_goals (repeat (first | refine zag ?_ | refine zar ?_ | refine zas ?_))
 rotate_left 1
 ·
  have hie : i = n.trans.length := by omega
  subst hie
  rw [List.drop_length] at HI
  replace HI : R = fst2 n c p c6 (m + 1) (w.drop (m + 1)) := HI
  (refine zb9 ?_; repeat (first | refine zcr ?_ | refine zbt ?_ | refine zbk rfl ?_ | refine zbl ?_ | refine zai ?_ | refine zag ?_ | refine zar ?_ | refine zas ?_))
  refine zab (zac rfl (zaf rfl rfl (zaa rfl) (zax rfl rfl rfl (IntWalk.i64_in _ (by omega))) (zac rfl (zad (zai ?_)))))
  exact ⟨m + 1, ⟨by omega, HI⟩, by omega, zb8 [] (by decide) trivial ⟨.lo _ (lo_W w), .lo _ hln, .lo _ hlc, .lo _ hlp, .lo _ hlg, .lo _ (.s _), trivial⟩⟩
 have hkt : i < n.trans.length := by omega
 rw [zea hkt] at HI
 have hit : (n.trans.map eT)[i]? = some (eT (gti n.trans i)) := zbb hkt
 have hgi : ((gns n p k).map eF)[i]? = some (eF (frE (gE n p (gti n.trans i)))) := by
  have h1 : (gns n p k)[i]? = some (frE (gE n p (gti n.trans i))) := by
   unfold gns
   rw [List.getElem?_map, List.getElem?_take, if_pos (by omega), zdh hkt]
   rfl
  rw [List.getElem?_map, h1]; rfl
 have hg0 := hge0 i (by omega)
 have hgk := (hv.gE (gti n.trans i)).2 hg0
 have hun : fst3 n p c6 d act (gti n.trans i :: n.trans.drop (i + 1)) = if (gti n.trans i).label ≠ act then fst3 n p c6 d act (n.trans.drop (i + 1)) else if (gE n p (gti n.trans i)).e ≠ 0 then 6 else if (addE (frE (gE n p (gti n.trans i))) d).e ≠ 0 then 6 else if grB (frE (addE (frE (gE n p (gti n.trans i))) d)) (Fr.of 0) then 28 else fst3 n p c6 d act (n.trans.drop (i + 1)) := rfl
 rw [hun] at HI
 clear hun
 generalize gE n p (gti n.trans i) = ge at HI hgi hg0 hgk
 generalize gti n.trans i = t at HI hit
 rw [if_neg (show ¬ ge.e ≠ 0 from fun h => h hg0)] at HI
 have had := zqq (P := P) (frE ge) d
 have hae := zxt hgk hdo
 have hao := zog hgk hdo
 generalize addE (frE ge) d = A at had HI hae hao
 refine zb2 hmix ?_
 refine zbx (by kernel_rfl) ?_
 refine qx_f zex rfl (qx_l ta22 rfl (qx_s rfl (zby rfl rfl (zaa rfl) (zal rfl ts22 ti86 rfl rfl rfl hit rfl) (qx_f zmk rfl (qx_l ta9 rfl (qx_s rfl (qx_s rfl (zby rfl rfl (zaa rfl) (zal rfl ts25 ti9 rfl rfl rfl hiw rfl) (qx_l ta9 rfl ?_)))))))))
 refine zo6 rfl rfl (zaa rfl) (zsw rfl rfl rfl) (fun h93 => ?_) (fun h93 => ?_)
 all_goals refine zdg ?_
 all_goals refine zai ?_
 all_goals (first | refine za5 rfl ?_ | refine zau rfl ?_)
 all_goals (repeat (first | refine zag ?_ | refine zar ?_))
 ·
  rw [if_pos h93] at HI
  (refine zb9 ?_; repeat (first | refine zcr ?_ | refine zbt ?_ | refine zbk rfl ?_ | refine zbl ?_ | refine zai ?_ | refine zag ?_ | refine zar ?_ | refine zas ?_))
  refine zab (zac rfl (zaf rfl rfl (zaa rfl) (zax rfl rfl rfl (IntWalk.i64_in _ (by omega))) (zac rfl (zad (zai ?_)))))
  exact ⟨i + 1, ⟨by omega, HI⟩, by omega, zb8 [] (by decide) trivial ⟨.lo _ (lo_W w), .lo _ hln, .lo _ hlc, .lo _ hlp, .lo _ hlg, .lo _ (.s _), .lo _ hld, .lo _ (.s _), trivial⟩⟩
 rw [if_neg h93] at HI
 refine zb2 hmix ?_
 refine zc1 ?_
 refine ex_s rfl (ex_s rfl (zay rfl rfl (zaa rfl) (fun _ => (zal rfl ts30 ti56 rfl rfl rfl hgi rfl)) (ex_w ta56 ti56 rfl (ex_w ta56 ti56 rfl (zay rfl rfl (zaa rfl) (fun _ => (zam rfl rfl (had) (zae rfl (zae rfl zap)))) (ex_s rfl (ex_s rfl (ex_s rfl ?_))))))))
 refine zc9 rfl rfl (zaa rfl) (za1 rfl ti56 rfl rfl) (fun _ h => zdo h) ?_
 refine zci rfl (zaa rfl) (zaj rfl ti56 rfl rfl rfl rfl rfl rfl (by decide) (by decide)) (fun _ h => zbw h) ?_
 refine ex_s rfl ?_
 refine zcf (by kernel_rfl) ?_
 refine zag (zag ?_)
 refine zbg (zbm (id := 0) rfl) ?_
 refine zbg (zcb (d := 17) rfl rfl rfl) ?_
 refine zab (zac rfl ?_)
 refine za3 rfl rfl (zaa rfl) (zbp rfl rfl rfl) (fun h104 => ?_) (fun h104 => ?_)
 all_goals refine zad (zai ?_)
 all_goals (first | refine za5 rfl ?_ | refine zau rfl ?_)
 all_goals (repeat (first | refine zag ?_ | refine zar ?_))
 ·
  replace h104 : A.e ≠ 0 := h104
  rw [if_pos h104, if_pos (by decide)] at HI
  refine zab (zac rfl (zac rfl (zad (zai ?_))))
  (refine za7 ?_; repeat (first | refine zbc ?_ | refine zbe ?_))
  exact zb6 (.inr rfl) rfl (congrArg eI ((e06 hae h104).trans HI.symm))
 replace h104 : ¬ A.e ≠ 0 := h104
 rw [if_neg h104, zy4 (hao (Classical.byContradiction h104))] at HI
 refine zab (zbz zkw rfl (zbu ta3 rfl ?_))
 refine za3 rfl rfl (zaa rfl) (zb0 rfl rfl rfl) (fun h108 => ?_) (fun h108 => ?_)
 all_goals refine zad (zai ?_)
 all_goals (first | refine za5 rfl ?_ | refine zau rfl ?_)
 all_goals (repeat (first | refine zag ?_ | refine zai ?_ | refine zar ?_ | refine zbl ?_))
 ·
  replace h108 : (frE A).n > 0 := h108
  rw [decide_eq_true h108] at HI
  refine zab (zac rfl (zad (zai ?_)))
  (refine za7 ?_; repeat (first | refine zbc ?_ | refine zbe ?_))
  exact zb6 (.inr rfl) rfl (congrArg eI (HI.trans (if_pos (show (28 : Int) ≠ 0 by decide))).symm)
 ·
  replace h108 : ¬ (frE A).n > 0 := h108
  rw [decide_eq_false h108] at HI
  replace HI : R = if fst3 n p c6 d act (n.trans.drop (i + 1)) ≠ 0 then fst3 n p c6 d act (n.trans.drop (i + 1)) else fst2 n c p c6 (m + 1) (w.drop (m + 1)) := HI
  refine zab (zac rfl (zaf rfl rfl (zaa rfl) (zax rfl rfl rfl (IntWalk.i64_in _ (by omega))) (zac rfl (zad (zai ?_)))))
  exact ⟨i + 1, ⟨by omega, HI⟩, by omega, zb8 [] (by decide) trivial ⟨.lo _ (lo_W w), .lo _ hln, .lo _ hlc, .lo _ hlp, .lo _ hlg, .lo _ (.s _), .lo _ hld, .lo _ (.s _), trivial⟩⟩
end Aw
end Go.Proofs.YtjhdcgaiccnmeaaGreatDoor
