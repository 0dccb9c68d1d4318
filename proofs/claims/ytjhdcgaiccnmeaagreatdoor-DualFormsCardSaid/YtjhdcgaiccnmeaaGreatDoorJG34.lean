import Derived.Test.YtjhdcgaiccnmeaaGreatDoorJG33
import Derived.Test.YtjhdcgaiccnmeaaGreatDoorJG30
import Derived.Test.YtjhdcgaiccnmeaaGreatDoorJG24
import Derived.Test.YtjhdcgaiccnmeaaGreatDoorJG20
import Derived.Test.YtjhdcgaiccnmeaaGreatDoorJG18
set_option linter.unusedSimpArgs false
set_option linter.unusedVariables false
set_option linter.unusedSectionVars false
section
namespace Go.Proofs.YtjhdcgaiccnmeaaGreatDoor.Aw
open Go Go.RowKit Go.Proofs Go.Maps Go.WideMaps Dl
theorem noMp1 (X : List Ob) (h : X.all (fun ob => match ob with | .mp _ => false | _ => true) = true) : ∀ ob ∈ X, NoMp ob := fun ob hob => by
 have := List.all_eq_true.1 h ob hob
 cases ob <;> first | trivial | cases this
def zStA : AV := .agg [eI 0, eI 0, eS ByteArray.empty]
theorem zStA_lo : ∀ e ∈ [zStA], ∀ c ∈ e.cells, Lo 0 c := by
 intro e he c hc
 simp only [List.mem_singleton] at he; subst he
 simp only [zStA, AV.cells, List.mem_cons, List.not_mem_nil, or_false] at hc
 rcases hc with rfl | rfl | rfl <;> exact .s _
def eWr (r : List Int × Stp × Int) : AV := .tup [eL eI r.1, eSt r.2.1, eI r.2.2]
theorem lo_Wr {k : Nat} (r : List Int × Stp × Int) : Lo k (eWr r) := .tup _ (zah lo_I (zah (.agg _ (zah (.s _) (zah (.s _) (zah (.s _) zap)))) (zah (.s _) zap)))
namespace K2
variable {P : Program} [IsP P]
theorem wr_res {A X : List Ob} {F : Frm} {tl ad u : Nat} {id : Nat} {ob : Ob} {cs : List AV} {a : AV} {r : List Int × Stp × Int} (hl : F.get tl = a) (hw : Wn a (eL eI r.1)) (hp : F.get ad = .ptr id 3 0 0) (hs : (A ++ X)[id]? = some ob) (ho : rowOf ob = some (3, cs)) (hk : cs[0]? = some (eSt r.2.1)) (hu : F.get u = eI r.2.2) :
  ∃ Y xs, A ++ X = A ++ Y ∧ ResL P F (A ++ X) [.tmp tl, .cell ad 37, .tmp u] xs ∧ Wn (oneOf xs) (eWr r) :=
 ⟨X, _, rfl, .cons _ _ _ _ (.tmp tl _ hl) (.cons _ _ _ _ (.cells ad _ id 3 0 _ _ _ ob cs (eSt r.2.1) ta37 ti37 hp hs ho hk rfl) (.cons _ _ _ _ (.tmp u _ hu) .nil)), (WnL.cons hw (WnL.cons (.refl _) (WnL.cons (.refl _) WnL.nil))).tup⟩
theorem kw_join {P : Program} {N : Nat} {F : Frm} {σ : List Ob} {Q : Exit → Frm → List Ob → Prop} {c c2 c3 : Code} (F1 : Frm) (σ1 : List Ob)
  (h : KWp P N c F σ (zc8 (fun F σ => KWp P N c2 F σ (zc8 (fun F' σ' => WeakK N F' σ' F1 σ1) Q)) (zc8 (fun F' σ' => WeakK N F' σ' F1 σ1) Q)))
  (k : KWp P N c3 F1 σ1 Q) : KWp P N c F σ (zc8 (fun F σ => KWp P N c2 F σ (zc8 (fun F σ => KWp P N c3 F σ Q) Q)) (zc8 (fun F σ => KWp P N c3 F σ Q) Q)) := by
 have w : ∀ e F σ, zc8 (fun F' σ' => WeakK N F' σ' F1 σ1) Q e F σ → zc8 (fun F σ => KWp P N c3 F σ Q) Q e F σ := fun e F σ q => by
  cases e with
  | normal => exact kw_weak q k
  | _ => exact q
 refine kw_mono h (fun e F σ q => ?_)
 cases e with
 | normal => exact kw_mono q w
 | _ => first | exact w .ret F σ q | exact w (.exit _) F σ q | exact w (.goto _) F σ q | exact w (.panic _) F σ q | exact w .outgrown F σ q
set_option maxHeartbeats 4000000 in
theorem third_ce (n : Net) (w : List ByteArray) (c : Cst) (p : Prf) (hv : VD n w p) (hc : vcB c = true) :
  CallE P 50 [.ptr 0 10 0 0, eC c] (stC P n w p (endE n w).1 (p.st.zip p.pots)) (eWr (thS n w c p c6 (p.st.zip p.pots))) (stC P n w p (endE n w).1 (p.st.zip p.pots)) := by
 have hpl := hv.pl
 have hfw := hv.few
 have hlc : Lo 0 (.ref (eC c).cells) := .ref _ (zah (.s _) (zah (.s _) (zah (.s _) zap)))
 have hpot : ∀ s, okS n w s → ∀ X : List Ob, X.all (fun ob => match ob with | .mp _ => false | _ => true) = true → CallE P 52 [.ptr 0 10 0 0, eL eI s] (.row 10 [.agg (ckC n w p (endE n w).1 ++ [.mp 1])] :: .mp (poX P (p.st.zip p.pots)) :: X) (eFE (potX n w p s)) (.row 10 [.agg (ckC n w p (endE n w).1 ++ [.mp 1])] :: .mp (poX P (p.st.zip p.pots)) :: X) := fun s hs X hX =>
  (potential_ce n w p s hv hs).frameM rfl (noMp1 X hX) (fun id Y h => ⟨Y, h⟩) (by
   intro x hx
   simp only [List.mem_cons, List.not_mem_nil, or_false] at hx
   rcases hx with rfl | rfl
   ·
    exact .ptr 0 10 0 0 (Nat.succ_pos _)
   ·
    exact lo_I) st_lo
 have hlin : ∀ s, okS n w s → Pure P 101 [ckR n w p (endE n w).1 (.mp 1), eL eI s] (eFE (linX n w p s)) := fun s hs =>
  pure_mv (fun v => linear_pf n w p _ s v ⟨hs.len.1, hs.len.2.1⟩ (by have h1 := hv.end_ok.len; have h2 := hs.len; omega) hv.wl hs.small hv.end_ok.small)
 have hth : ∀ s k l, thS n w c p c6 ((s, k) :: l) = if (linX n w p s).e ≠ 0 then ([], zStp, 6) else if grB (frE (linX n w p s)) (Fr.of k) ∨ (s = (endE n w).1 ∧ k ≠ 0) then (s, zStp, 0) else thR s (thM n w c p c6 s k (movesL n w s)) (thS n w c p c6 l) := fun s k l => rfl
 have htm : ∀ s k m ms, thM n w c p c6 s k (m :: ms) = if (potX n w p (zb4 n w s m).1).e ≠ 0 then some (zStp, 6)
  else if (addE (Fr.of (zbm c m.kind)) (frE (potX n w p (zb4 n w s m).1))).e ≠ 0 then some (zStp, 6)
  else if grB (Fr.of k) (frE (addE (Fr.of (zbm c m.kind)) (frE (potX n w p (zb4 n w s m).1)))) then some (m, 0)
  else thM n w c p c6 s k ms := fun s k m ms => rfl
 generalize hR : thS n w c p c6 (p.st.zip p.pots) = R
 have hend := hv.end_ok
 generalize endE n w = e0 at hpot hlin hth hend ⊢
 have hzl : (p.st.zip p.pots).length = p.st.length := by simp; omega
 have hzg : ∀ k, k < p.st.length → (p.st.zip p.pots).drop k = (gti p.st k, gti p.pots k) :: (p.st.zip p.pots).drop (k + 1) := fun k hk => by
  rw [List.drop_eq_getElem_cons (by omega)]
  congr 1
  have hz : (p.st.zip p.pots)[k]? = some (gti p.st k, gti p.pots k) := by
   rw [List.getElem?_zip_eq_some]
   exact ⟨zbu hk, zbu (by omega)⟩
  rw [List.getElem?_eq_getElem (by omega)] at hz
  exact Option.some.inj hz
 generalize p.st.zip p.pots = Z at hpot hR hzl hzg ⊢
 refine callE_fnW rfl rfl st_lo (lo_Wr R) (by rw [IsP.eq (P := P)]; exact Tryz.func50) rfl rfl (Nat.le_of_ble_eq_true rfl) ?_
 simp only [argF, stC]
 refine kw_seq (kw_region (kops_op rfl rfl (zaa rfl) (zb1 rfl rfl rfl rfl) (kops_s rfl (kops_op rfl rfl (zaa rfl) (zbi rfl ti37 rfl rfl) (kops_s rfl (kops_nil (kw_seq (kw_seq ?_))))))))
 refine kw_weak (kwk_froz (id := 2) rfl) ?_
 refine kw_weak (kwk_ref (d := 3) rfl rfl rfl) ?_
 refine kw_region (kops_s rfl (kops_s rfl (kops_f tf142_2 rfl (kops_f za9 rfl (kops_op rfl rfl (zaa rfl) (za3 rfl ta28 rfl rfl rfl rfl rfl) (kops_op rfl rfl (zaa rfl) (za2 rfl ts28 rfl) (kops_s rfl (kops_nil (zak (kw_block ?_))))))))))
 refine kw_loops (S := Nat) (fun k => [(0, .ptr 0 10 0 0), (3, .ref (eC c).cells), (4, .s (.slice none 0 0)), (5, .ptr 2 3 0 0), (6, eI 0), (27, eL (eL eI) p.st), (28, eI p.st.length), (29, eI k)]) (fun _ => [.row 10 [.agg (ckC n w p e0.1 ++ [.mp 1])], .mp (poX P Z), .row 3 [zStA]]) (fun k => k ≤ p.st.length ∧ R = thS n w c p c6 (Z.drop k)) (fun k => p.st.length - k) 0
  (kwk_st [0, 1, 3] rfl rfl (by decide) ⟨⟨_, rfl, obRn_ck rfl⟩, ⟨_, rfl, ob_mp rfl⟩, ⟨_, rfl, .rowE zStA_lo rfl⟩, trivial⟩ ⟨.ptr 0 0 10 0 0 rfl, .lo _ hlc, .lo _ (.s _), .ptr 3 2 3 0 0 rfl, .lo _ (.s _), .lo _ (lo_II _), .lo _ (.s _), .lo _ (.s _), trivial⟩) ⟨Nat.zero_le _, hR.symm⟩ (fun k hk => ?_)
 obtain ⟨hk, HI⟩ := hk
 refine kw_seq (kw_region ?_)
 refine kops_opP rfl rfl (zaa rfl) (zb3 rfl rfl rfl) (fun h30 => ?_) (fun h30 => ?_)
 all_goals refine kops_nil (kw_seq ?_)
 all_goals (first | refine kw_true rfl ?_ | refine kw_false rfl ?_)
 all_goals (repeat (first | refine kw_seq ?_ | refine kw_skip ?_ | refine kw_block ?_))
 rotate_left 1
 ·
  have hke : k = p.st.length := by omega
  subst hke
  rw [List.drop_of_length_le (by omega)] at HI
  subst HI
  (refine kw_exit ?_; repeat (first | refine ath_x ?_ | refine zco ?_ | refine zce rfl ?_ | refine zal ?_ | refine zak ?_ | refine kw_seq ?_ | refine kw_skip ?_ | refine kw_block ?_))
  refine kw_region (kops_op rfl rfl (zaa rfl) (zbp rfl ti37 tp37 rfl rfl) (kops_s rfl (kops_eff rfl (zaa rfl) (za7 rfl ti37 rfl rfl rfl rfl rfl rfl (by decide) (by decide)) (kops_s rfl (kops_nil (zak ?_))))))
  (refine kw_ret ?_; repeat (first | refine zbn ?_ | refine zbo ?_))
  exact ⟨.inr rfl, wr_res (A := stC P n w p e0.1 Z) (r := ([], zStp, 10)) rfl .nil rfl rfl rfl rfl rfl⟩
 have hkt : k < p.st.length := by omega
 have his : (p.st.map (eL eI))[k]? = some (eL eI (gti p.st k)) := zcw hkt
 have hip : (p.pots.map eI)[k]? = some (eI (gti p.pots k)) := zcw (by omega)
 have hok := hv.ok _ (gti_mem hkt)
 have hpb := hv.pb _ (gti_mem (l := p.pots) (k := k) (by omega))
 rw [hzg k hkt, hth] at HI
 generalize gti p.st k = s at his hok HI
 generalize gti p.pots k = q at hip hpb HI
 have hw1 := zc3 (P := P) q
 have hl1 := hlin s hok
 have hsl := hok.len
 have hcl := cloneI_pf (P := P) s (by omega) hsl.1
 generalize linX n w p s = L at hl1 HI
 have hat := atMost_pf (P := P) (frE L) (Fr.of q)
 refine kw_region (kops_s rfl (kops_op rfl rfl (zaa rfl) (za1 rfl ts28 ti29 rfl rfl rfl his rfl) (kops_l ta29 rfl (kops_s rfl (kops_s rfl (kops_nil (kw_seq (kw_region (kops_s rfl (kops_s rfl (kops_f tf142_2 rfl (kops_f zdl rfl (kops_op rfl rfl (zaa rfl) (za3 rfl ta29 rfl rfl rfl rfl rfl) (kops_s rfl (kops_op rfl rfl (zaa rfl) (za1 rfl ts29 ti3 rfl rfl rfl hip rfl) (kops_l ta3 rfl (kops_op rfl rfl (zaa rfl) (zav rfl rfl (hw1) (zar rfl za0)) (kops_op rfl rfl (zaa rfl) (zbi rfl ti56 rfl rfl) (kops_eff rfl (zaa rfl) (za7 rfl ti56 rfl rfl rfl rfl rfl rfl (by decide) (by decide)) ?_)))))))))))))))))))
 refine kops_nil (kw_seq ?_)
 refine kw_weak (kwk_froz (id := 3) rfl) ?_
 refine kw_weak (kwk_ref (d := 9) rfl rfl rfl) ?_
 refine kw_region (kops_s rfl (kops_s rfl ?_))
 refine kops_op rfl rfl (zaa rfl) (does_callb rfl rfl hl1 (zb9.cons (.ptr 0 10 0 _ _ (.agg (ckC n w p e0.1 ++ [.mp 1])) rfl rfl rfl) (zb9.cons (.refl _) zb9.nil)) (by repeat' (first | exact Flat.s _ | exact flat_nil | refine flat_cons ?_ ?_ | refine Flat.agg ?_ | refine Flat.tup ?_))) ?_
 refine kops_s rfl (kops_s rfl (kops_s rfl (kops_op rfl rfl (zaa rfl) (zbi rfl ti56 rfl rfl) (kops_eff rfl (zaa rfl) (za7 rfl ti56 rfl rfl rfl rfl rfl rfl (by decide) (by decide)) (kops_s rfl (kops_nil (kw_seq (kw_seq ?_))))))))
 refine kw_weak (kwk_froz (id := 4) rfl) ?_
 refine kw_weak (kwk_ref (d := 10) rfl rfl rfl) ?_
 refine kw_region (kops_s rfl ?_)
 refine kops_opP rfl rfl (zaa rfl) (zb0 rfl rfl rfl) (fun h50 => ?_) (fun h50 => ?_)
 all_goals refine kops_nil (zak ?_)
 all_goals (first | refine kw_true rfl ?_ | refine kw_false rfl ?_)
 all_goals (repeat (first | refine kw_seq ?_ | refine kw_skip ?_))
 ·
  rw [if_pos h50] at HI
  subst HI
  refine kw_region (kops_op rfl rfl (zaa rfl) (zbp rfl ti37 tp37 rfl rfl) (kops_s rfl (kops_eff rfl (zaa rfl) (za7 rfl ti37 rfl rfl rfl rfl rfl rfl (by decide) (by decide)) (kops_s rfl (kops_nil (zak ?_))))))
  (refine kw_ret ?_; repeat (first | refine zbn ?_ | refine zbo ?_))
  exact ⟨.inr rfl, wr_res (A := stC P n w p e0.1 Z) (r := ([], zStp, 6)) rfl .nil rfl rfl rfl rfl rfl⟩
 rw [if_neg h50] at HI
 have hgr : grB (frE L) (Fr.of q) = !decide ((cmpE (frE L) (Fr.of q)).1 ≤ 0) := by unfold grB; rw [decide_not]
 rw [hgr] at HI
 generalize decide ((cmpE (frE L) (Fr.of q)).1 ≤ 0) = b at hat HI
 have heq := eqI_pf (P := P) s e0.1
 have hlf : Lo 0 (.ref (eF (Fr.of q)).cells) := .ref _ (lo_Fr _).cells
 have lo_Ms : ∀ {ms : List Stp}, Lo 0 (eL eSt ms) := fun {ms} => zaq fun m => .agg _ (zah (.s _) (zah (.s _) (zah (.s _) zap)))
 cases b with
 | false =>
  rw [if_pos (.inl rfl)] at HI
  subst HI
  refine kw_region (kops_w ta56 ti56 rfl (kops_w ta56 ti56 rfl (kops_op rfl rfl (zaa rfl) (zav rfl rfl (hat) (zar rfl (zar rfl za0))) (kops_op rfl rfl (zaa rfl) (zbh rfl rfl) (kops_s rfl (kops_z rfl (kops_z rfl (kops_z rfl (kops_z rfl (kops_z rfl (kops_z rfl (kops_z rfl (kops_skip rfl rfl (runs_nu rfl rfl rfl) (kops_skip rfl rfl (runs_nu rfl rfl rfl) (kops_skip rfl rfl (runs_nu rfl rfl rfl) (kops_z rfl (kops_s rfl (kops_nil (zak (kw_true rfl (kw_seq (kw_region (kops_s rfl (kops_op rfl rfl (zaa rfl) (zav rfl rfl (hcl) (zar rfl za0)) ?_))))))))))))))))))))))))
  refine kops_op rfl rfl (zaa rfl) (zbp rfl ti37 tp37 rfl rfl) (kops_s rfl (kops_eff rfl (zaa rfl) (za7 rfl ti37 rfl rfl rfl rfl rfl rfl (by decide) (by decide)) (kops_s rfl (kops_nil (zak ?_)))))
  (refine kw_ret ?_; repeat (first | refine zbn ?_ | refine zbo ?_))
  exact ⟨.inr rfl, wr_res (A := stC P n w p e0.1 Z) (r := (s, zStp, 0)) rfl (.refl _) rfl rfl rfl rfl rfl⟩
 | true =>
 by_cases hw0 : s = e0.1 ∧ q ≠ 0
 ·
  rw [if_pos (.inr hw0)] at HI
  subst HI
  rw [decide_eq_true hw0.1] at heq
  refine kw_region (kops_w ta56 ti56 rfl (kops_w ta56 ti56 rfl (kops_op rfl rfl (zaa rfl) (zav rfl rfl (hat) (zar rfl (zar rfl za0))) (kops_op rfl rfl (zaa rfl) (zbh rfl rfl) (kops_s rfl (kops_s rfl (kops_s rfl (kops_s rfl (kops_f tf142_3 rfl (kops_op rfl rfl (zau rfl rfl rfl) (za3 rfl ta29 rfl rfl rfl rfl rfl) (kops_op rfl rfl (zau rfl rfl rfl) (zav rfl rfl (heq) (zar rfl (zar rfl za0))) (kops_s rfl (kops_f tf56_0 rfl (kops_l ta3 rfl (kops_op rfl rfl (zau rfl rfl rfl) (zck hw0.2 (zb0 rfl rfl rfl)) (kops_s rfl ?_))))))))))))))))
  refine kops_s rfl (kops_nil (zak (kw_true rfl (kw_seq (kw_region (kops_s rfl (kops_op rfl rfl (zaa rfl) (zav rfl rfl (hcl) (zar rfl za0)) (kops_op rfl rfl (zaa rfl) (zbp rfl ti37 tp37 rfl rfl) (kops_s rfl (kops_eff rfl (zaa rfl) (za7 rfl ti37 rfl rfl rfl rfl rfl rfl (by decide) (by decide)) (kops_s rfl (kops_nil (zak ?_)))))))))))))
  (refine kw_ret ?_; repeat (first | refine zbn ?_ | refine zbo ?_))
  exact ⟨.inr rfl, wr_res (A := stC P n w p e0.1 Z) (r := (s, zStp, 0)) rfl (.refl _) rfl rfl rfl rfl rfl⟩
 rw [if_neg (by rintro (h | h); cases h; exact hw0 h)] at HI
 refine kw_join [(0, .ptr 0 10 0 0), (3, .ref (eC c).cells), (4, .s (.slice none 0 0)), (5, .ptr 2 3 0 0), (6, eI 0), (8, eL eI s), (9, .ref (eF (Fr.of q)).cells), (27, eL (eL eI) p.st), (28, eI p.st.length), (29, eI k)] [.row 10 [.agg (ckC n w p e0.1 ++ [.mp 1])], .mp (poX P Z), .row 3 [zStA]] ?_ ?_
 ·
  by_cases he : s = e0.1
  ·
   have hq : q = 0 := Classical.byContradiction fun h => hw0 ⟨he, h⟩
   rw [decide_eq_true he] at heq
   refine kw_region (kops_w ta56 ti56 rfl (kops_w ta56 ti56 rfl (kops_op rfl rfl (zaa rfl) (zav rfl rfl (hat) (zar rfl (zar rfl za0))) (kops_op rfl rfl (zaa rfl) (zbh rfl rfl) (kops_s rfl (kops_s rfl (kops_s rfl (kops_s rfl (kops_f tf142_3 rfl (kops_op rfl rfl (zau rfl rfl rfl) (za3 rfl ta29 rfl rfl rfl rfl rfl) (kops_op rfl rfl (zau rfl rfl rfl) (zav rfl rfl (heq) (zar rfl (zar rfl za0))) (kops_s rfl (kops_f tf56_0 rfl (kops_l ta3 rfl ?_))))))))))))))
   refine kops_op rfl rfl (zau rfl rfl rfl) (zc7 (fun h => h hq) (zb0 rfl rfl rfl)) ?_
   refine kops_s rfl (kops_s rfl (kops_nil (zak ?_)))
   ·
    refine kw_false rfl (kw_skip (zak ?_))
    exact kwk_st [0, 1, 2] rfl rfl (by decide) ⟨⟨_, rfl, obRn_ck rfl⟩, ⟨_, rfl, ob_mp rfl⟩, ⟨_, rfl, .rowE zStA_lo rfl⟩, trivial⟩ ⟨.ptr 0 0 10 0 0 rfl, .lo _ hlc, .lo _ (.s _), .ptr 2 2 3 0 0 rfl, .lo _ (.s _), .lo _ lo_I, .lo _ hlf, .lo _ (lo_II _), .lo _ (.s _), .lo _ (.s _), trivial⟩
  ·
   rw [decide_eq_false he] at heq
   refine kw_region (kops_w ta56 ti56 rfl (kops_w ta56 ti56 rfl (kops_op rfl rfl (zaa rfl) (zav rfl rfl (hat) (zar rfl (zar rfl za0))) (kops_op rfl rfl (zaa rfl) (zbh rfl rfl) (kops_s rfl (kops_s rfl (kops_s rfl (kops_s rfl (kops_f tf142_3 rfl (kops_op rfl rfl (zau rfl rfl rfl) (za3 rfl ta29 rfl rfl rfl rfl rfl) (kops_op rfl rfl (zau rfl rfl rfl) (zav rfl rfl (heq) (zar rfl (zar rfl za0))) (kops_s rfl (kops_z rfl (kops_z rfl (kops_z rfl (kops_s rfl (kops_s rfl (kops_nil (zak (kw_false rfl (kw_skip (zak ?_))))))))))))))))))))))
   exact kwk_st [0, 1, 2] rfl rfl (by decide) ⟨⟨_, rfl, obRn_ck rfl⟩, ⟨_, rfl, ob_mp rfl⟩, ⟨_, rfl, .rowE zStA_lo rfl⟩, trivial⟩ ⟨.ptr 0 0 10 0 0 rfl, .lo _ hlc, .lo _ (.s _), .ptr 2 2 3 0 0 rfl, .lo _ (.s _), .lo _ lo_I, .lo _ hlf, .lo _ (lo_II _), .lo _ (.s _), .lo _ (.s _), trivial⟩
 have hM := moves_pf (P := P) n w s
 have hMe : MovesE n w s = (movesL n w s, 0) := by unfold MovesE; exact if_pos hok
 rw [hMe] at hM
 have hml := moves_len hok
 have hmm := fun m => moves_mem (m := m) hok
 generalize hms : movesL n w s = ms at hM HI hml hmm
 clear hMe hw1 hl1 hat hgr
 refine kw_seq ?_
 refine kw_draw hmix ?_
 refine kdraw_ex ?_
 refine ex_s rfl (ex_s rfl (ex_f tf142_0 rfl (zcj rfl rfl (zaa rfl) (look_ptrs rfl ta24 ti24 rfl rfl rfl rfl (Nat.le_of_ble_eq_true rfl)) (ex_s rfl (ex_s rfl (ex_f tf142_1 rfl (zcj rfl rfl (zaa rfl) (zcg rfl ta25 rfl rfl rfl rfl rfl) (ex_s rfl (zaz rfl rfl (zaa rfl) (fun _ => (zav rfl rfl (hM) (zar rfl (zar rfl (zar rfl za0))))) (ex_s rfl (ex_s rfl (ex_s rfl (ex_s rfl (ex_s rfl ?_))))))))))))))
 refine ex_nil (by kernel_rfl) ?_
 refine kw_seq (kw_region (kops_s rfl (kops_op rfl rfl (zaa rfl) (za2 rfl ts68 rfl) (kops_s rfl (kops_nil (zak (kw_block ?_)))))))
 refine kw_loops (S := Nat) (fun j => [(0, .ptr 0 10 0 0), (3, .ref (eC c).cells), (4, .s (.slice none 0 0)), (5, .ptr 2 3 0 0), (6, eI 0), (8, eL eI s), (9, .ref (eF (Fr.of q)).cells), (27, eL (eL eI) p.st), (28, eI p.st.length), (29, eI k), (85, eL eSt ms), (86, eI ms.length), (87, eI j)]) (fun _ => [.row 10 [.agg (ckC n w p e0.1 ++ [.mp 1])], .mp (poX P Z), .row 3 [zStA]]) (fun j => j ≤ ms.length ∧ R = thR s (thM n w c p c6 s q (ms.drop j)) (thS n w c p c6 (Z.drop (k + 1)))) (fun j => ms.length - j) 0
  (kwk_st [0, 1, 2] rfl rfl (by decide) ⟨⟨_, rfl, obRn_ck rfl⟩, ⟨_, rfl, ob_mp rfl⟩, ⟨_, rfl, .rowE zStA_lo rfl⟩, trivial⟩ ⟨.ptr 0 0 10 0 0 rfl, .lo _ hlc, .lo _ (.s _), .ptr 2 2 3 0 0 rfl, .lo _ (.s _), .lo _ lo_I, .lo _ hlf, .lo _ (lo_II _), .lo _ (.s _), .lo _ (.s _), .lo _ lo_Ms, .lo _ (.s _), .lo _ (.s _), trivial⟩) ⟨Nat.zero_le _, HI⟩ (fun j hj => ?_)
 clear HI
 obtain ⟨hj, HI⟩ := hj
 refine kw_seq (kw_region ?_)
 refine kops_opP rfl rfl (zaa rfl) (zb3 rfl rfl rfl) (fun h88 => ?_) (fun h88 => ?_)
 all_goals refine kops_nil (kw_seq ?_)
 all_goals (first | refine kw_true rfl ?_ | refine kw_false rfl ?_)
 all_goals (repeat (first | refine kw_seq ?_ | refine kw_skip ?_ | refine kw_block ?_))
 rotate_left 1
 ·
  have hje : j = ms.length := by omega
  subst hje
  rw [List.drop_of_length_le (by omega)] at HI
  (refine kw_exit ?_; repeat (first | refine ath_x ?_ | refine zco ?_ | refine zce rfl ?_ | refine zal ?_ | refine zak ?_ | refine kw_seq ?_ | refine kw_skip ?_ | refine kw_block ?_))
  refine kw_region (kops_op rfl rfl (zaa rfl) (zbj rfl rfl rfl (IntWalk.i64_in _ (by omega))) (kops_s rfl (kops_nil (zak ?_))))
  exact ⟨k + 1, ⟨by omega, HI⟩, by omega, kwk_st [0, 1, 2] rfl rfl (by decide) ⟨⟨_, rfl, obRn_ck rfl⟩, ⟨_, rfl, ob_mp rfl⟩, ⟨_, rfl, .rowE zStA_lo rfl⟩, trivial⟩ ⟨.ptr 0 0 10 0 0 rfl, .lo _ hlc, .lo _ (.s _), .ptr 2 2 3 0 0 rfl, .lo _ (.s _), .lo _ (lo_II _), .lo _ (.s _), .lo _ (.s _), trivial⟩⟩
 have hjt : j < ms.length := by omega
 have hjm : ms[j]? = some (ms[j]'hjt) := List.getElem?_eq_getElem hjt
 have him : (ms.map eSt)[j]? = some (eSt (ms[j]'hjt)) := by rw [List.getElem?_map, hjm]; rfl
 have hmj := hmm _ (List.getElem_mem hjt)
 rw [List.drop_eq_getElem_cons hjt, htm] at HI
 generalize ms[j]'hjt = m at him hmj HI
 obtain ⟨ha1, ha2, ha3⟩ := hmj
 have hco := cost_pf (P := P) c [m]
 rw [cost_one hc ha2] at hco
 have hap := apply_pf (P := P) n w s m
 rw [show zb4 n w s m = ((zb4 n w s m).1, 0) from Prod.ext rfl ha1] at hap
 have hpt := hpot _ ha3
 generalize (zb4 n w s m).1 = s2 at hap hpt HI
 generalize potX n w p s2 = Y at hpt HI
 generalize zbm c m.kind = pc at hco HI
 have hw2 := zc3 (P := P) pc
 have had := fAdd_pf (P := P) (Fr.of pc) (frE Y)
 generalize addE (Fr.of pc) (frE Y) = A at had HI
 have hat := atMost_pf (P := P) (Fr.of q) (frE A)
 have hgr : grB (Fr.of q) (frE A) = !decide ((cmpE (Fr.of q) (frE A)).1 ≤ 0) := by unfold grB; rw [decide_not]
 rw [hgr] at HI
 generalize decide ((cmpE (Fr.of q) (frE A)).1 ≤ 0) = b at hat HI
 refine kw_region (kops_op rfl rfl (zaa rfl) (za1 rfl ts68 ti37 rfl rfl rfl him rfl) (kops_w ta37 ti37 rfl (kops_op rfl rfl (zaa rfl) (zbi rfl ti37 rfl rfl) (kops_eff rfl (zaa rfl) (za7 rfl ti37 rfl rfl rfl rfl rfl rfl (by decide) (by decide)) (kops_nil (kw_seq ?_))))))
 refine kw_weak (kwk_froz (id := 3) rfl) ?_
 refine kw_weak (kwk_ref (d := 15) rfl rfl rfl) ?_
 refine kw_region (kops_w ta27 ti27 rfl (kops_w ta37 ti37 rfl ?_))
 refine kops_op rfl rfl (zaa rfl) (zcp rfl ts68 ti37 rfl rfl (by decide) (by decide) rfl rfl rfl (by repeat' (first | exact Lo.s _ | exact zap | refine zah ?_ ?_ | refine zaq ?_ | refine Lo.agg _ ?_ | refine Lo.sl _ ?_ | intro _))) ?_
 refine kops_op rfl rfl (zaa rfl) (zav rfl rfl (hco) (zar rfl (zar rfl za0))) (kops_s rfl (kops_s rfl (kops_s rfl (kops_s rfl (kops_s rfl (kops_nil (kw_seq ?_)))))))
 refine kw_draw hmix ?_
 refine kdraw_ex ?_
 refine ex_s rfl (ex_s rfl (ex_f tf142_0 rfl (zcj rfl rfl (zaa rfl) (look_ptrs rfl ta24 ti24 rfl rfl rfl rfl (Nat.le_of_ble_eq_true rfl)) (ex_s rfl (ex_s rfl (ex_f tf142_1 rfl (zcj rfl rfl (zaa rfl) (zcg rfl ta25 rfl rfl rfl rfl rfl) (ex_s rfl (ex_w ta37 ti37 rfl (zaz rfl rfl (zaa rfl) (fun _ => (zav rfl rfl (hap) (zar rfl (zar rfl (zar rfl (zar rfl za0)))))) (ex_s rfl (ex_s rfl (ex_s rfl (ex_s rfl (ex_s rfl ?_)))))))))))))))
 refine ex_nil (by kernel_rfl) ?_
 refine kw_seq (kw_region (kops_s rfl (kops_s rfl (kops_op rfl rfl (zaa rfl) (does_callE rfl rfl (hpt _ rfl) rfl) (kops_s rfl (kops_s rfl (kops_s rfl (kops_op rfl rfl (zaa rfl) (zbi rfl ti56 rfl rfl) (kops_eff rfl (zaa rfl) (za7 rfl ti56 rfl rfl rfl rfl rfl rfl (by decide) (by decide)) (kops_s rfl (kops_nil (kw_seq (kw_seq ?_)))))))))))))
 refine kw_weak (kwk_froz (id := 4) rfl) ?_
 refine kw_weak (kwk_ref (d := 20) rfl rfl rfl) ?_
 refine kw_region (kops_s rfl ?_)
 refine kops_opP rfl rfl (zaa rfl) (zb0 rfl rfl rfl) (fun h119 => ?_) (fun h119 => ?_)
 all_goals refine kops_nil (zak ?_)
 all_goals (first | refine kw_true rfl ?_ | refine kw_false rfl ?_)
 all_goals (repeat (first | refine kw_seq ?_ | refine kw_skip ?_))
 ·
  rw [if_pos h119] at HI
  subst HI
  refine kw_region (kops_op rfl rfl (zaa rfl) (zbp rfl ti37 tp37 rfl rfl) (kops_s rfl (kops_eff rfl (zaa rfl) (za7 rfl ti37 rfl rfl rfl rfl rfl rfl (by decide) (by decide)) (kops_s rfl (kops_nil (zak ?_))))))
  (refine kw_ret ?_; repeat (first | refine zbn ?_ | refine zbo ?_))
  exact ⟨.inr rfl, wr_res (A := stC P n w p e0.1 Z) (r := ([], zStp, 6)) rfl .nil rfl rfl rfl rfl rfl⟩
 rw [if_neg h119] at HI
 refine kw_draw hmix ?_
 refine kdraw_ex ?_
 refine ex_s rfl (zaz rfl rfl (zaa rfl) (fun _ => (zav rfl rfl (hw2) (zar rfl za0))) (ex_w ta56 ti56 rfl (zaz rfl rfl (zaa rfl) (fun _ => (zav rfl rfl (had) (zar rfl (zar rfl za0)))) (ex_s rfl (ex_s rfl (ex_s rfl ?_))))))
 refine ex_eff rfl rfl (zaa rfl) (zbi rfl ti56 rfl rfl) (fun _ h => app_other h) ?_
 refine ex_eff0 rfl (zaa rfl) (za7 rfl ti56 rfl rfl rfl rfl rfl rfl (by decide) (by decide)) (fun _ h => zdn h) ?_
 refine ex_s rfl ?_
 refine ex_nil (by kernel_rfl) ?_
 refine kw_seq (kw_seq ?_)
 refine kw_weak (kwk_froz (id := 5) rfl) ?_
 refine kw_weak (kwk_ref (d := 22) rfl rfl rfl) ?_
 refine kw_region (kops_s rfl ?_)
 refine kops_opP rfl rfl (zaa rfl) (zb0 rfl rfl rfl) (fun h129 => ?_) (fun h129 => ?_)
 all_goals refine kops_nil (zak ?_)
 all_goals (first | refine kw_true rfl ?_ | refine kw_false rfl ?_)
 all_goals (repeat (first | refine kw_seq ?_ | refine kw_skip ?_))
 ·
  rw [if_pos h129] at HI
  subst HI
  refine kw_region (kops_op rfl rfl (zaa rfl) (zbp rfl ti37 tp37 rfl rfl) (kops_s rfl (kops_eff rfl (zaa rfl) (za7 rfl ti37 rfl rfl rfl rfl rfl rfl (by decide) (by decide)) (kops_s rfl (kops_nil (zak ?_))))))
  (refine kw_ret ?_; repeat (first | refine zbn ?_ | refine zbo ?_))
  exact ⟨.inr rfl, wr_res (A := stC P n w p e0.1 Z) (r := ([], zStp, 6)) rfl .nil rfl rfl rfl rfl rfl⟩
 rw [if_neg h129] at HI
 refine kw_region (kops_w ta56 ti56 rfl (kops_w ta56 ti56 rfl (kops_op rfl rfl (zaa rfl) (zav rfl rfl (hat) (zar rfl (zar rfl za0))) (kops_op rfl rfl (zaa rfl) (zbh rfl rfl) (kops_nil (zak ?_))))))
 cases b with
 | false =>
  rw [if_pos (by decide)] at HI
  refine kw_true rfl (kw_seq ?_)
  subst HI
  refine kw_draw hmix ?_
  refine kdraw_ex ?_
  refine ex_s rfl (zaz rfl rfl (zaa rfl) (fun _ => (zav rfl rfl (hcl) (zar rfl za0))) (ex_w ta37 ti37 rfl (ex_s rfl ?_)))
  refine ex_eff0 rfl (zaa rfl) (za7 rfl ti37 rfl rfl rfl rfl rfl rfl (by decide) (by decide)) (fun _ h => zdn h) ?_
  refine ex_s rfl ?_
  refine ex_nil (by kernel_rfl) ?_
  refine zak ?_
  (refine kw_ret ?_; repeat (first | refine zbn ?_ | refine zbo ?_))
  exact ⟨.inr rfl, wr_res (A := stC P n w p e0.1 Z) (r := (s, m, 0)) rfl (.refl _) rfl rfl rfl rfl rfl⟩
 | true =>
  rw [if_neg (by decide)] at HI
  refine kw_false rfl (kw_skip (zal (zak (kw_region (kops_op rfl rfl (zaa rfl) (zbj rfl rfl rfl (IntWalk.i64_in _ (by omega))) (kops_s rfl (kops_nil (zak ?_))))))))
  exact ⟨j + 1, ⟨by omega, HI⟩, by omega, kwk_st [0, 1, 2] rfl rfl (by decide) ⟨⟨_, rfl, obRn_ck rfl⟩, ⟨_, rfl, ob_mp rfl⟩, ⟨_, rfl, .rowE zStA_lo rfl⟩, trivial⟩ ⟨.ptr 0 0 10 0 0 rfl, .lo _ hlc, .lo _ (.s _), .ptr 2 2 3 0 0 rfl, .lo _ (.s _), .lo _ lo_I, .lo _ hlf, .lo _ (lo_II _), .lo _ (.s _), .lo _ (.s _), .lo _ lo_Ms, .lo _ (.s _), .lo _ (.s _), trivial⟩⟩
end K2
end Go.Proofs.YtjhdcgaiccnmeaaGreatDoor.Aw
end
section
namespace Go.Proofs.YtjhdcgaiccnmeaaGreatDoor.Aw
open Go Go.RowKit Go.Proofs Go.Maps Go.WideMaps Dl
def stC1 (P : Program) (n : Net) (w : List ByteArray) (p : Prf) (e : List Int) (L : List (List Int × Int)) : List Ob := [.row 10 [.agg (ckC n w p e ++ [.mp 2])], .mp (poX P L)]
namespace K1
variable {P : Program} [IsP P]
set_option maxHeartbeats 2000000 in
theorem check_ce1 (sz : Nat) (cs : List AV) (hX : ∀ e ∈ cs, ∀ c ∈ e.cells, Lo 0 c) (n : Net) (w : List ByteArray) (p : Prf) (hv : VD n w p) : CallE P 48 [eN n, eL eS w, ePf p] [.row sz cs] (.ptr 1 10 0 0) (.row sz cs :: stC1 P n w p (endE n w).1 (p.st.zip p.pots)) := by
 have hen := end_pf (P := P) n w
 have hln : Lo 0 (.ref (eN n).cells) := .ref _ (lo_N n).cells
 have hlp : Lo 0 (.ref (ePf p).cells) := lo_zero p
 have hpl := hv.pl
 have hfw := hv.few
 generalize endE n w = e0 at hen ⊢
 refine callE_fn1 (by simp) (by rw [IsP.eq (P := P)]; exact Tryz.func48) rfl rfl (Nat.le_of_ble_eq_true rfl) rfl ?_
 simp only [argF]
 refine kw_seq (kw_region (kops_op rfl rfl (zaa rfl) (zb1 rfl rfl rfl rfl) (kops_op rfl rfl (zaa rfl) (zb1 rfl rfl rfl rfl) (kops_s rfl (kops_nil (kw_seq ?_))))))
 refine kw_weak (kwk_froz (id := 1) rfl) ?_
 refine kw_weak (kwk_ref (d := 3) rfl rfl rfl) ?_
 refine kw_weak (kwk_froz (id := 2) rfl) ?_
 refine kw_weak (kwk_ref (d := 5) rfl rfl rfl) ?_
 refine kw_region (kops_w ta24 ti24 rfl (kops_s rfl (kops_w ta32 ti32 rfl (kops_op rfl rfl (zaa rfl) (does_mkmap rfl tm113) (kops_op rfl rfl (zaa rfl) (zbp rfl ti142 tp142 rfl rfl) (kops_op rfl rfl (zaa rfl) (zb1 rfl rfl rfl rfl) (kops_s rfl (kops_nil (kw_seq ?_)))))))))
 refine kw_weak (F' := [(1, eL eS w), (3, .ref (eN n).cells), (5, .ref (ePf p).cells), (7, .ptr 1 10 0 0)]) (σ' := [.row sz cs, .row 10 [.agg [eI n.places, eL eT n.trans, eI n.source, eI n.sink, eL eS w, eL (eL eI) p.st, eL eI p.pots, eL eF p.duals, .s (.slice none 0 0), .mp 2]], .mp (poX P [])])
  (kwk_st [0, 4, 3] rfl (by decide) ⟨⟨_, rfl, .rowE hX rfl⟩, ⟨_, rfl, obRn_agg (.cons (.lo _ (.s _)) (.cons (.lo _ (lo_net n)) (.cons (.lo _ (.s _)) (.cons (.lo _ (.s _)) (.cons (.lo _ (lo_W w)) (.cons (.lo _ (lo_II _)) (.cons (.lo _ lo_I) (.cons (.lo _ (zaq fun a => lo_Fr a)) (.cons (.lo _ (.s _)) (.cons (.mp _ _ rfl) .nil))))))))))⟩, ⟨_, rfl, ob_mp rfl⟩, trivial⟩ ⟨.lo _ (lo_W w), .lo _ hln, .lo _ hlp, .ptr 4 1 10 0 0 rfl, trivial⟩) ?_
 refine kw_region (kops_s rfl (kops_w ta24 ti24 rfl (kops_s rfl (kops_op rfl rfl (zaa rfl) (zav rfl rfl (hen) (zar rfl (zar rfl za0))) (kops_s rfl (kops_s rfl (kops_s rfl (kops_s rfl (kops_f tf142_3 rfl (kops_eff rfl (zaa rfl) (za7 rfl ti29 rfl rfl rfl rfl rfl rfl (by decide) (by decide)) (kops_nil (kw_seq (kw_seq (kw_region (kops_f za9 rfl (kops_l ta28 rfl (kops_op rfl rfl (zaa rfl) (za2 rfl ts28 rfl) (kops_s rfl (kops_nil (zak (kw_block ?_)))))))))))))))))))))
 refine kw_loops (S := Nat) (fun k => [(1, eL eS w), (3, .ref (eN n).cells), (5, .ref (ePf p).cells), (7, .ptr 1 10 0 0), (26, eL (eL eI) p.st), (27, eI p.st.length), (28, eI k)]) (fun k => .row sz cs :: stC1 P n w p e0.1 ((p.st.zip p.pots).take k)) (fun k => k ≤ p.st.length) (fun k => p.st.length - k) 0
  (kwk_sub ⟨rfl, rfl, rfl, rfl, rfl, rfl, rfl, trivial⟩) (Nat.zero_le _) (fun k hk => ?_)
 replace hk : k ≤ p.st.length := hk
 have hzl : (p.st.zip p.pots).length = p.st.length := by simp; omega
 refine kw_seq (kw_region ?_)
 refine kops_opP rfl rfl (zaa rfl) (zb3 rfl rfl rfl) (fun h29 => ?_) (fun h29 => ?_)
 all_goals refine kops_nil (kw_seq ?_)
 all_goals (first | refine kw_true rfl ?_ | refine kw_false rfl ?_)
 all_goals (repeat (first | refine kw_seq ?_ | refine kw_skip ?_ | refine kw_block ?_))
 rotate_left 1
 ·
  have hke : k = p.st.length := by omega
  subst hke
  rw [List.take_of_length_le (by omega)]
  (refine kw_exit ?_; repeat (first | refine ath_x ?_ | refine zco ?_ | refine zce rfl ?_ | refine zal ?_ | refine zak ?_ | refine kw_seq ?_ | refine kw_skip ?_ | refine kw_block ?_))
  refine kw_region (kops_s rfl (kops_s rfl (kops_nil (zak ?_))))
  (refine kw_ret ?_; repeat (first | refine zbn ?_ | refine zbo ?_))
  exact ⟨.inr rfl, rfl, rfl⟩
 have hkt : k < p.st.length := by omega
 have hz : (p.st.zip p.pots)[k]? = some (gti p.st k, gti p.pots k) := by
  rw [List.getElem?_zip_eq_some]
  exact ⟨zbu hkt, zbu (by omega)⟩
 have htk : (p.st.zip p.pots).take (k + 1) = (p.st.zip p.pots).take k ++ [(gti p.st k, gti p.pots k)] := by rw [List.take_add_one, hz]; rfl
 have his : (p.st.map (eL eI))[k]? = some (eL eI (gti p.st k)) := zcw hkt
 have hip : (p.pots.map eI)[k]? = some (eI (gti p.pots k)) := zcw (by omega)
 have hok := hv.ok _ (gti_mem hkt)
 have hpb := hv.pb _ (gti_mem (l := p.pots) (k := k) (by omega))
 generalize gti p.st k = s at his hok htk
 generalize gti p.pots k = q at hip hpb htk
 have hkp := dKey_ok (P := P) hok
 have hks := keyZ_ok hok
 have hwf := wf_pot hpb
 refine kw_region (kops_s rfl (kops_op rfl rfl (zaa rfl) (za1 rfl ts28 ti29 rfl rfl rfl his rfl) (kops_l ta29 rfl (kops_s rfl (kops_s rfl (kops_nil (zak ?_)))))))
 refine kw_draw hmix ?_
 refine kdraw_ex ?_
 refine ex_s rfl (ex_s rfl (ex_f tf142_4 rfl (zcj rfl rfl (zaa rfl) (zcg rfl ta113 rfl rfl rfl rfl rfl) (ex_s rfl (zaz rfl rfl (zaa rfl) (fun _ => (zav rfl rfl (hkp) (zar rfl za0))) (ex_f zdl rfl (ex_l ta29 rfl (ex_s rfl (zaz rfl rfl (zaa rfl) (fun _ => (za1 rfl ts29 ti3 rfl rfl rfl hip rfl)) (ex_l ta3 rfl ?_))))))))))
 refine ex_eff0 rfl (zaa rfl) (does_mapput (.inl rfl) tm113 tK9 rfl rfl ⟨rfl, rfl, rfl⟩ (by show ((p.st.zip p.pots).take k).length < maxLen; rw [List.length_take]; unfold maxLen; omega) rfl rfl (keyOf_string_mk tn9 (by first | assumption | (unfold maxLen; omega))) (plainElem_int tn3 (by first | rfl | assumption))) (fun _ h => zdn h) ?_
 refine ex_nil (by kernel_rfl) ?_
 refine zal (zak (kw_region (kops_op rfl rfl (zaa rfl) (zbj rfl rfl rfl (IntWalk.i64_in _ (by omega))) (kops_s rfl (kops_nil (zak ?_))))))
 exact ⟨k + 1, by omega, by omega, kwk_st [0, 1, 2] rfl (by decide) ⟨⟨_, rfl, .rowE hX rfl⟩, ⟨_, rfl, obRn_agg (.cons (.lo _ (.s _)) (.cons (.lo _ (lo_net n)) (.cons (.lo _ (.s _)) (.cons (.lo _ (.s _)) (.cons (.lo _ (lo_W w)) (.cons (.lo _ (lo_II _)) (.cons (.lo _ lo_I) (.cons (.lo _ (zaq fun a => lo_Fr a)) (.cons (.lo _ lo_I) (.cons (.mp _ _ rfl) .nil))))))))))⟩, ⟨_, rfl, ob_mp (by rw [htk]; exact (poX_snoc P _ (s, q)).symm)⟩, trivial⟩ ⟨.lo _ (lo_W w), .lo _ hln, .lo _ hlp, .ptr 1 1 10 0 0 rfl, .lo _ (lo_II _), .lo _ (.s _), .lo _ (.s _), trivial⟩⟩
end K1
end Go.Proofs.YtjhdcgaiccnmeaaGreatDoor.Aw
end
section
namespace Go.Proofs.YtjhdcgaiccnmeaaGreatDoor.Aw
open Go Go.RowKit Go.Proofs Go.Maps Go.WideMaps Dl
variable {P : Program} [IsP P]
def floorN (a : Fr) : Int := if a.n.tmod a.d < 0 then a.n.tdiv a.d - 1 else a.n.tdiv a.d
theorem tdiv_bd {n d : Int} (hn : -1073741824 ≤ n ∧ n ≤ 1073741824) (hd : 1 ≤ d) : -1073741824 ≤ n.tdiv d ∧ n.tdiv d ≤ 1073741824 := by
 rcases Int.lt_or_le n 0 with h | h
 ·
  have e : n.tdiv d = -((-n).tdiv d) := by rw [Int.neg_tdiv]; omega
  have h1 : (-n).tdiv d = (-n) / d := Int.tdiv_eq_ediv_of_nonneg (by omega)
  have h2 : (-n) / d ≤ -n := Int.ediv_le_self _ (by omega)
  have h3 : 0 ≤ (-n) / d := Int.ediv_nonneg (by omega) (by omega)
  omega
 ·
  have h1 : n.tdiv d = n / d := Int.tdiv_eq_ediv_of_nonneg h
  have h2 : n / d ≤ n := Int.ediv_le_self _ h
  have h3 : 0 ≤ n / d := Int.ediv_nonneg h (by omega)
  omega
theorem floorN_eq {a : Fr} (hd : 1 ≤ a.d) : floorN a = a.n / a.d := by
 have h1 := Int.mul_tdiv_add_tmod a.n a.d
 have h2 : a.n.tmod a.d < a.d := Int.tmod_lt_of_pos _ (by omega)
 have h3 : -a.d < a.n.tmod a.d := by
  rcases Int.lt_or_le a.n 0 with h | h
  ·
   have e : (-a.n).tmod a.d = -(a.n.tmod a.d) := Int.neg_tmod ..
   have := Int.tmod_lt_of_pos (-a.n) (b := a.d) (by omega)
   omega
  ·
   have := Int.tmod_nonneg (a := a.n) a.d h
   omega
 unfold floorN
 generalize a.n.tdiv a.d = q at h1
 generalize a.n.tmod a.d = r at h1 h2 h3
 split
 ·
  refine ((Int.ediv_emod_unique (r := r + a.d) (by omega)).2 ⟨?_, by omega, by omega⟩).1.symm
  rw [Int.mul_sub]
  omega
 ·
  exact ((Int.ediv_emod_unique (r := r) (by omega)).2 ⟨by omega, by omega, by omega⟩).1.symm
theorem floorN_le {a : Fr} (hd : 1 ≤ a.d) (k : Int) : k ≤ floorN a ↔ k * a.d ≤ a.n := by rw [floorN_eq hd]; exact Int.le_ediv_iff_mul_le (by omega)
theorem okB_d {a : Fr} (h : a.okB = true) : (-1073741824 ≤ a.n ∧ a.n ≤ 1073741824) ∧ 1 ≤ a.d ∧ a.d ≤ 1073741824 := by
 have := (Fr.okB_iff a).1 h
 exact ⟨⟨this.1, this.2.1⟩, this.2.2.1, this.2.2.2.1⟩
theorem ffloor_pf (a : Fr) (h : a.okB = true) : Pure P 53 [eF a] (.tup [eI (floorN a), eI 0]) := by
 have hv := fValid_pf (P := P) a
 obtain ⟨hn, hd⟩ := okB_d h
 rw [h] at hv
 have hd0 : a.d ≠ 0 := by omega
 have hb := tdiv_bd hn hd.1
 refine zbb (by rw [IsP.eq (P := P)]; exact Tryz.func53) rfl rfl rfl rfl rfl (zah (lo_Fr a) zap) (.tup _ (zah (.s _) (zah (.s _) zap))) (by simp only [argF]; rfl) ?_
 refine zaf (zae (zab rfl rfl (zaa rfl) (zb1 rfl rfl rfl rfl) ?_))
 refine za5 (zbv (id := 0) rfl) (za5 (zcf (d := 1) rfl rfl rfl) ?_)
 refine zbe rfl (zbe rfl (zaj (zaf (zaf (zae (zb2 ta56 ti56 rfl (zab rfl rfl (zaa rfl) (zav rfl rfl (hv) (zar rfl za0)) (zab rfl rfl (zaa rfl) (zbh rfl rfl) (zaj (zak (za6 rfl (zad (zaf (zae (zbq tf56_0 rfl (zbk ta3 rfl (zbq tf56_1 rfl (zbk ta3 rfl (zab rfl rfl (zaa rfl) (does_quo rfl rfl rfl (by omega) (IntWalk.i64_in _ (by omega))) (zbe rfl (zaj (zaf (zaf (zae (zbq tf56_0 rfl (zbk ta3 rfl (zbq tf56_1 rfl (zbk ta3 rfl (zab rfl rfl (zaa rfl) (does_rem rfl rfl rfl (by omega) rfl) ?_)))))))))))))))))))))))))))))
 refine zbw rfl rfl (zaa rfl) (zb3 rfl rfl rfl) (fun h18 => ?_) (fun h18 => ?_)
 all_goals refine zaj (zak ?_)
 all_goals (first | refine zbl rfl ?_ | refine za6 rfl ?_)
 all_goals (repeat (first | refine zaf ?_ | refine zad ?_))
 ·
  refine zae (zbe rfl (zab rfl rfl (zaa rfl) (does_sub rfl rfl rfl (IntWalk.i64_in _ (by omega))) (zbe rfl (zaj (zaf (zae (zbe rfl (zbe rfl (zbe rfl (zaj (zak ?_)))))))))))
  (refine zbd ?_; repeat (first | refine zbn ?_ | refine zbo ?_))
  rw [show floorN a = a.n.tdiv a.d - 1 from if_pos h18]
  exact post2 (.inr rfl) rfl rfl (.refl _) (.refl _)
 ·
  refine zae (zbe rfl (zbe rfl (zbe rfl (zaj (zak ?_)))))
  (refine zbd ?_; repeat (first | refine zbn ?_ | refine zbo ?_))
  rw [show floorN a = a.n.tdiv a.d from if_neg h18]
  exact post2 (.inr rfl) rfl rfl (.refl _) (.refl _)
def wrongE (n : Net) (w : List ByteArray) (c : Cst) (p : Prf) : List Int × Stp × Int := if vcB c = true ∧ vdB n w p = true then wrongX n w c p c6 else ([], zStp, 1)
theorem wr_post {F : Frm} {σ : List Ob} {tl ad u id : Nat} {ob : Ob} {cs : List AV} {a : AV} {r : List Int × Stp × Int} {e : Exit} (he : e = .normal ∨ e = .ret) (hl : F.get tl = a) (hw : Fini σ a (eL eI r.1)) (hp : F.get ad = .ptr id 3 0 0) (hs : σ[id]? = some ob) (ho : rowOf ob = some (3, cs)) (hk : cs[0]? = some (eSt r.2.1)) (hu : F.get u = eI r.2.2) :
  APost P [.tmp tl, .cell ad 37, .tmp u] (eWr r) e F σ :=
 ⟨he, _, .cons _ _ _ _ (.tmp tl _ hl) (.cons _ _ _ _ (.cells ad _ id 3 0 _ _ _ ob cs (eSt r.2.1) ta37 ti37 hp hs ho hk rfl) (.cons _ _ _ _ (.tmp u _ hu) .nil)), .tup _ _ rfl (zb9.cons hw (zb9.cons (.refl _) (zb9.cons (.refl _) zb9.nil))).2⟩
set_option maxHeartbeats 1000000 in
theorem wrong_pf (n : Net) (w : List ByteArray) (c : Cst) (p : Prf) : Pure P 12 [eN n, eL eS w, eC c, ePf p] (eWr (wrongE n w c p)) := by
 have hvc := validCosts_pf (P := P) c
 have hvd := dValid_pf (P := P) n w p
 have hln : Lo 0 (.ref (eN n).cells) := .ref _ (lo_N n).cells
 have hlp : Lo 0 (.ref (ePf p).cells) := lo_zero p
 have hlc : Lo 0 (.ref (eC c).cells) := .ref _ (lo_C c).cells
 refine zbb (by rw [IsP.eq (P := P)]; exact Tryz.func12) rfl rfl rfl rfl rfl (zah (lo_N n) (zah (lo_W w) (zah (lo_C c) (zah (lo_Pf p) zap)))) (lo_Wr _) (by simp only [argF]; rfl) ?_
 refine zaf (zae (zab rfl rfl (zaa rfl) (zb1 rfl rfl rfl rfl) ?_))
 refine za5 (zbv (id := 0) rfl) (za5 (zcf (d := 4) rfl rfl rfl) ?_)
 refine zab rfl rfl (zaa rfl) (zb1 rfl rfl rfl rfl) ?_
 refine za5 (zbv (id := 1) rfl) (za5 (zcf (d := 6) rfl rfl rfl) ?_)
 refine zab rfl rfl (zaa rfl) (zb1 rfl rfl rfl rfl) ?_
 refine za5 (zbv (id := 2) rfl) (za5 (zcf (d := 7) rfl rfl rfl) ?_)
 refine zbe rfl (zab rfl rfl (zaa rfl) (zbi rfl ti37 rfl rfl) (zbe rfl (zaj (zaf (zaf ?_)))))
 refine zbz (F' := [(1, eL eS w), (4, .ref (eN n).cells), (6, .ref (eC c).cells), (7, .ref (ePf p).cells), (8, .s (.slice none 0 0)), (9, .ptr 0 3 0 0), (10, eI 0)]) (σ' := [.row 3 [zStA]])
  (zc9 [3] (by decide) ⟨⟨_, rfl, .rowE zStA_lo rfl⟩, trivial⟩ ⟨.lo _ (lo_W w), .lo _ hln, .lo _ hlc, .lo _ hlp, .lo _ (.s _), .ptr 3 0 3 0 0 rfl, .lo _ (.s _), trivial⟩) ?_
 by_cases hb : vcB c = true ∧ vdB n w p = true
 rotate_left 1
 ·
  have hR : wrongE n w c p = ([], zStp, 1) := if_neg hb
  rw [hR]
  generalize vcB c = b1 at hvc hb
  generalize vdB n w p = b2 at hvd hb
  have hc : (b1 = false) ∨ (b1 = true ∧ b2 = false) := by cases b1 <;> cases b2 <;> simp_all
  rcases hc with rfl | ⟨rfl, rfl⟩
  all_goals
   refine zae (zb2 ta27 ti27 rfl (zab rfl rfl (zaa rfl) (zav rfl rfl (hvc) (zar rfl za0)) (zab rfl rfl (zaa rfl) (zbh rfl rfl) (zbe rfl ?_))))
   first | refine zb2 ta24 ti24 rfl ?_ | refine zbf rfl ?_
   first | refine zbe rfl ?_ | refine zbf rfl ?_
   first | refine zb2 ta32 ti32 rfl ?_ | refine zbf rfl ?_
   first | refine zab rfl rfl (zau rfl rfl rfl) (zav rfl rfl (hvd) (zar rfl (zar rfl (zar rfl za0)))) ?_ | refine zbf rfl ?_
   first | refine zab rfl rfl (zau rfl rfl rfl) (zbh rfl rfl) ?_ | refine zbf rfl ?_
   refine zbe rfl (zaj (zak (zbl rfl (zaf (zae (zab rfl rfl (zaa rfl) (zbp rfl ti37 tp37 rfl rfl) (zbe rfl (zbx rfl (zaa rfl) (za7 rfl ti37 rfl rfl rfl rfl rfl rfl (by decide) (by decide)) (zbe rfl (zaj (zak ?_)))))))))))
   (refine zbd ?_; repeat (first | refine zbn ?_ | refine zbo ?_))
   exact wr_post (r := ([], zStp, 1)) (.inr rfl) rfl .nil rfl rfl rfl rfl rfl
 have hR : wrongE n w c p = wrongX n w c p c6 := if_pos hb
 obtain ⟨hb1, hb2⟩ := hb
 have hv := vdB_iff.1 hb2
 rw [hR]
 rw [hb1] at hvc
 rw [hb2] at hvd
 have hck := K1.check_ce1 (P := P) 3 [zStA] zStA_lo n w p hv
 have hth : CallE P _ _ _ _ _ := (K2.third_ce (P := P) n w c p hv hb1).frameM (X := [.row 3 [zStA]]) rfl (noMp1 _ rfl) (fun id Y h => ⟨Y, h⟩) (by
   intro x hx
   simp only [List.mem_cons, List.not_mem_nil, or_false] at hx
   rcases hx with rfl | rfl
   ·
    exact .ptr 0 10 0 0 (Nat.succ_pos _)
   ·
    exact lo_C c) st_lo
 have hfi : Pure P 49 [ckR n w p (endE n w).1 (.mp 1), eC c] (eI (fstE n w c p c6)) := pure_mv fun v => first_pf n w c p _ v hv
 have hW : wrongX n w c p c6 = if fstE n w c p c6 ≠ 0 then ([], zStp, fstE n w c p c6) else thS n w c p c6 (p.st.zip p.pots) := rfl
 rw [hW]
 generalize endE n w = e0 at hck hth hfi
 generalize thS n w c p c6 (p.st.zip p.pots) = T at hth ⊢
 generalize p.st.zip p.pots = Z at hck hth
 generalize fstE n w c p c6 = fe at hfi ⊢
 refine zae (zb2 ta27 ti27 rfl (zab rfl rfl (zaa rfl) (zav rfl rfl (hvc) (zar rfl za0)) (zab rfl rfl (zaa rfl) (zbh rfl rfl) (zbe rfl (zb2 ta24 ti24 rfl (zbe rfl (zb2 ta32 ti32 rfl (zab rfl rfl (zau rfl rfl rfl) (zav rfl rfl (hvd) (zar rfl (zar rfl (zar rfl za0)))) (zab rfl rfl (zau rfl rfl rfl) (zbh rfl rfl) (zbe rfl (zaj (zak (za6 rfl (zad (zaf (zae (zb2 ta24 ti24 rfl (zbe rfl (zb2 ta32 ti32 rfl (zab rfl rfl (zaa rfl) (does_callE rfl rfl hck rfl) ?_))))))))))))))))))))
 refine zbe rfl (zaj (zaf (zaf ?_)))
 refine zbz (F' := [(6, .ref (eC c).cells), (8, .s (.slice none 0 0)), (9, .ptr 2 3 0 0), (10, eI 0), (11, .ptr 0 10 0 0)]) (σ' := [.row 10 [.agg (ckC n w p e0.1 ++ [.mp 1])], .mp (poX P Z), .row 3 [zStA]])
  (zc9 [1, 2, 0] (by decide) ⟨⟨_, rfl, obRn_agg (.cons (.lo _ (.s _)) (.cons (.lo _ (lo_net n)) (.cons (.lo _ (.s _)) (.cons (.lo _ (.s _)) (.cons (.lo _ (lo_W w)) (.cons (.lo _ (lo_II _)) (.cons (.lo _ lo_I) (.cons (.lo _ (zaq fun a => lo_Fr a)) (.cons (.lo _ lo_I) (.cons (.mp 2 1 rfl) .nil))))))))))⟩, ⟨_, rfl, ob_mp rfl⟩, ⟨_, rfl, .rowE zStA_lo rfl⟩, trivial⟩ ⟨.lo _ hlc, .lo _ (.s _), .ptr 0 2 3 0 0 rfl, .lo _ (.s _), .ptr 1 0 10 0 0 rfl, trivial⟩) ?_
 refine zae (zbe rfl (zb2 ta27 ti27 rfl ?_))
 refine zab rfl rfl (zaa rfl) (does_callb rfl rfl hfi (zb9.cons (.ptr 0 10 0 _ _ (.agg (ckC n w p e0.1 ++ [.mp 1])) rfl rfl rfl) (zb9.cons (.refl _) zb9.nil)) (by repeat' (first | exact Flat.s _ | exact flat_nil | refine flat_cons ?_ ?_ | refine Flat.agg ?_ | refine Flat.tup ?_))) ?_
 refine zbe rfl (zaj (zaf (zae (zbe rfl ?_))))
 refine zbw rfl rfl (zaa rfl) (zb0 rfl rfl rfl) (fun h32 => ?_) (fun h32 => ?_)
 all_goals refine zaj (zak ?_)
 all_goals (first | refine zbl rfl ?_ | refine za6 rfl ?_)
 all_goals (repeat (first | refine zaf ?_ | refine zad ?_))
 ·
  rw [if_pos h32]
  refine zae (zab rfl rfl (zaa rfl) (zbp rfl ti37 tp37 rfl rfl) (zbe rfl (zbe rfl (zbx rfl (zaa rfl) (za7 rfl ti37 rfl rfl rfl rfl rfl rfl (by decide) (by decide)) (zbe rfl (zaj (zak ?_)))))))
  (refine zbd ?_; repeat (first | refine zbn ?_ | refine zbo ?_))
  exact wr_post (r := ([], zStp, fe)) (.inr rfl) rfl .nil rfl rfl rfl rfl rfl
 ·
  rw [if_neg h32]
  refine zae (zbe rfl (zb2 ta27 ti27 rfl (zab rfl rfl (zaa rfl) (does_callE rfl rfl hth rfl) (zbe rfl (zbe rfl (zbe rfl (zbe rfl (zbx rfl (zaa rfl) (za7 rfl ti37 rfl rfl rfl rfl rfl rfl (by decide) (by decide)) (zbe rfl (zaj (zak ?_)))))))))))
  (refine zbd ?_; repeat (first | refine zbn ?_ | refine zbo ?_))
  exact wr_post (r := T) (.inr rfl) rfl (.refl _) rfl rfl rfl rfl rfl
def potE (n : Net) (w : List ByteArray) (p : Prf) (s : List Int) : FE := if vdB n w p = true ∧ zct n w s = true then potX n w p s else ⟨0, 0, 1⟩
set_option maxHeartbeats 1000000 in
theorem potential_pf (n : Net) (w : List ByteArray) (p : Prf) (s : List Int) : Pure P 29 [eN n, eL eS w, ePf p, eL eI s] (eFE (potE n w p s)) := by
 have hvd := dValid_pf (P := P) n w p
 have hln : Lo 0 (.ref (eN n).cells) := .ref _ (lo_N n).cells
 have hlp : Lo 0 (.ref (ePf p).cells) := lo_zero p
 refine zbb (by rw [IsP.eq (P := P)]; exact Tryz.func29) rfl rfl rfl rfl rfl (zah (lo_N n) (zah (lo_W w) (zah (lo_Pf p) (zah lo_I zap)))) (.tup _ (zah (.agg _ (zah (.s _) (zah (.s _) zap))) (zah (.s _) zap))) (by simp only [argF]; rfl) ?_
 refine zaf (zae (zab rfl rfl (zaa rfl) (zb1 rfl rfl rfl rfl) ?_))
 refine za5 (zbv (id := 0) rfl) (za5 (zcf (d := 4) rfl rfl rfl) ?_)
 refine zab rfl rfl (zaa rfl) (zb1 rfl rfl rfl rfl) ?_
 refine za5 (zbv (id := 1) rfl) (za5 (zcf (d := 6) rfl rfl rfl) ?_)
 refine zab rfl rfl (zaa rfl) (zbi rfl ti56 rfl rfl) (zbe rfl (zaj (zaf (zaf ?_))))
 refine zbz (F' := [(1, eL eS w), (3, eL eI s), (4, .ref (eN n).cells), (6, .ref (ePf p).cells), (8, .ptr 0 2 0 0), (9, eI 0)]) (σ' := [.row 2 [zFA]])
  (zc9 [2] (by decide) ⟨⟨_, rfl, .rowE zFA_lo rfl⟩, trivial⟩ ⟨.lo _ (lo_W w), .lo _ lo_I, .lo _ hln, .lo _ hlp, .ptr 2 0 2 0 0 rfl, .lo _ (.s _), trivial⟩) ?_
 by_cases hb : vdB n w p = true
 rotate_left 1
 ·
  have hR : potE n w p s = ⟨0, 0, 1⟩ := if_neg (fun h => hb h.1)
  rw [hR]
  rw [show vdB n w p = false by simpa using hb] at hvd
  refine zae (zb2 ta24 ti24 rfl (zbe rfl (zb2 ta32 ti32 rfl (zab rfl rfl (zaa rfl) (zav rfl rfl (hvd) (zar rfl (zar rfl (zar rfl za0)))) (zab rfl rfl (zaa rfl) (zbh rfl rfl) (zaj (zak (zbl rfl (zaf (zae (zab rfl rfl (zaa rfl) (zbp rfl ti56 tp56 rfl rfl) (zbx rfl (zaa rfl) (za7 rfl ti56 rfl rfl rfl rfl rfl rfl (by decide) (by decide)) (zbe rfl (zaj (zak ?_)))))))))))))))
  (refine zbd ?_; repeat (first | refine zbn ?_ | refine zbo ?_))
  exact post_fe (x := ⟨0, 0, 1⟩) (.inr rfl) ta56 ti56 rfl rfl rfl rfl rfl rfl
 have hv := vdB_iff.1 hb
 rw [hb] at hvd
 have hM := moves_pf (P := P) n w s
 have hMe : (MovesE n w s).2 = if zct n w s = true then 0 else 1 := by unfold MovesE; split <;> rfl
 generalize MovesE n w s = me at hM hMe
 obtain ⟨ml, mc⟩ := me
 refine zae (zb2 ta24 ti24 rfl (zbe rfl (zb2 ta32 ti32 rfl (zab rfl rfl (zaa rfl) (zav rfl rfl (hvd) (zar rfl (zar rfl (zar rfl za0)))) (zab rfl rfl (zaa rfl) (zbh rfl rfl) (zaj (zak (za6 rfl (zad (zaf (zaf (zae (zb2 ta24 ti24 rfl (zbe rfl (zbe rfl (zab rfl rfl (zaa rfl) (zav rfl rfl (hM) (zar rfl (zar rfl (zar rfl za0)))) (zbe rfl (zbe rfl (zbe rfl (zbe rfl (zbe rfl (zaj (zaf ?_)))))))))))))))))))))))
 by_cases hst : zct n w s = true
 rotate_left 1
 ·
  have hR : potE n w p s = ⟨0, 0, 1⟩ := if_neg (fun h => hst h.2)
  rw [hR]
  rw [if_neg hst] at hMe
  replace hMe : mc = 1 := hMe
  subst hMe
  refine zae (zbe rfl (zab rfl rfl (zaa rfl) (zb0 rfl rfl rfl) (zaj (zak (zbl rfl (zaf (zae (zab rfl rfl (zaa rfl) (zbp rfl ti56 tp56 rfl rfl) (zbx rfl (zaa rfl) (za7 rfl ti56 rfl rfl rfl rfl rfl rfl (by decide) (by decide)) (zbe rfl (zaj (zak ?_))))))))))))
  (refine zbd ?_; repeat (first | refine zbn ?_ | refine zbo ?_))
  exact post_fe (x := ⟨0, 0, 1⟩) (.inr rfl) ta56 ti56 rfl rfl rfl rfl rfl rfl
 have hR : potE n w p s = potX n w p s := if_pos ⟨hb, hst⟩
 rw [hR]
 rw [if_pos hst] at hMe
 replace hMe : mc = 0 := hMe
 subst hMe
 have hck := K1.check_ce1 (P := P) 2 [zFA] zFA_lo n w p hv
 have hpt : CallE P _ _ _ _ _ := (K2.potential_ce (P := P) n w p s hv hst).frameM (X := [.row 2 [zFA]]) rfl (noMp1 _ rfl) (fun id Y h => ⟨Y, h⟩) (by
   intro x hx
   simp only [List.mem_cons, List.not_mem_nil, or_false] at hx
   rcases hx with rfl | rfl
   ·
    exact .ptr 0 10 0 0 (Nat.succ_pos _)
   ·
    exact lo_I) st_lo
 generalize endE n w = e0 at hck hpt
 generalize p.st.zip p.pots = Z at hck hpt
 generalize potX n w p s = Y at hpt
 refine zae (zbe rfl (zab rfl rfl (zaa rfl) (zb0 rfl rfl rfl) (zaj (zak (za6 rfl (zad (zaf (zae (zb2 ta24 ti24 rfl (zbe rfl (zb2 ta32 ti32 rfl (zab rfl rfl (zaa rfl) (does_callE rfl rfl hck rfl) ?_))))))))))))
 refine za5 (F' := [(3, eL eI s), (8, .ptr 2 2 0 0), (9, eI 0), (31, .ptr 0 10 0 0)]) (σ' := [.row 10 [.agg (ckC n w p e0.1 ++ [.mp 1])], .mp (poX P Z), .row 2 [zFA]]) (zc9 [1, 2, 0] (by decide) ⟨⟨_, rfl, obRn_agg (.cons (.lo _ (.s _)) (.cons (.lo _ (lo_net n)) (.cons (.lo _ (.s _)) (.cons (.lo _ (.s _)) (.cons (.lo _ (lo_W w)) (.cons (.lo _ (lo_II _)) (.cons (.lo _ lo_I) (.cons (.lo _ (zaq fun a => lo_Fr a)) (.cons (.lo _ lo_I) (.cons (.mp 2 1 rfl) .nil))))))))))⟩, ⟨_, rfl, ob_mp rfl⟩, ⟨_, rfl, .rowE zFA_lo rfl⟩, trivial⟩ ⟨.lo _ lo_I, .ptr 0 2 2 0 0 rfl, .lo _ (.s _), .ptr 1 0 10 0 0 rfl, trivial⟩) ?_
 refine zbe rfl (zab rfl rfl (zaa rfl) (does_callE rfl rfl hpt rfl) (zbe rfl (zbe rfl (zbx rfl (zaa rfl) (za7 rfl ti56 rfl rfl rfl rfl rfl rfl (by decide) (by decide)) (zbe rfl (zaj (zak ?_)))))))
 (refine zbd ?_; repeat (first | refine zbn ?_ | refine zbo ?_))
 exact post_fe (x := Y) (.inr rfl) ta56 ti56 rfl rfl rfl rfl rfl rfl
def checkE (n : Net) (w : List ByteArray) (c : Cst) (cost : Int) (p : Prf) : Bool :=
 vcB c && (vdB n w p && (decide ((wrongX n w c p c6).2.2 = 10) && (decide ((potX n w p (zb7 n w).1).e = 0) && decide (cost ≤ floorN (frE (potX n w p (zb7 n w).1))))))
set_option maxHeartbeats 1000000 in
theorem dCheck_pf (n : Net) (w : List ByteArray) (c : Cst) (cost : Int) (p : Prf) : Pure P 13 [eN n, eL eS w, eC c, eI cost, ePf p] (eB (checkE n w c cost p)) := by
 have hwr := wrong_pf (P := P) n w c p
 have hS := start_pf (P := P) n w
 have hln : Lo 0 (.ref (eN n).cells) := .ref _ (lo_N n).cells
 have hlp : Lo 0 (.ref (ePf p).cells) := lo_zero p
 have hlc : Lo 0 (.ref (eC c).cells) := .ref _ (lo_C c).cells
 have h10 : (wrongE n w c p).2.2 = 10 ↔ vcB c = true ∧ vdB n w p = true ∧ (wrongX n w c p c6).2.2 = 10 := by
  unfold wrongE
  split
  ·
   rename_i h; exact ⟨fun g => ⟨h.1, h.2, g⟩, fun g => g.2.2⟩
  ·
   rename_i h; exact ⟨fun g => absurd g (by decide), fun g => absurd ⟨g.1, g.2.1⟩ h⟩
 generalize wrongE n w c p = we at hwr h10
 refine zbb (by rw [IsP.eq (P := P)]; exact Tryz.func13) rfl rfl rfl rfl rfl (zah (lo_N n) (zah (lo_W w) (zah (lo_C c) (zah (.s _) (zah (lo_Pf p) zap))))) (.s _) (by simp only [argF]; rfl) ?_
 refine zaf (zae (zab rfl rfl (zaa rfl) (zb1 rfl rfl rfl rfl) ?_))
 refine za5 (zbv (id := 0) rfl) (za5 (zcf (d := 5) rfl rfl rfl) ?_)
 refine zab rfl rfl (zaa rfl) (zb1 rfl rfl rfl rfl) ?_
 refine za5 (zbv (id := 1) rfl) (za5 (zcf (d := 7) rfl rfl rfl) ?_)
 refine zab rfl rfl (zaa rfl) (zb1 rfl rfl rfl rfl) ?_
 refine za5 (zbv (id := 2) rfl) (za5 (zcf (d := 9) rfl rfl rfl) ?_)
 refine zbe rfl (zaj (zaf (zaf (zae (zb2 ta24 ti24 rfl (zbe rfl (zb2 ta27 ti27 rfl (zb2 ta32 ti32 rfl (zab rfl rfl (zaa rfl) (zav rfl rfl (hwr) (zar rfl (zar rfl (zar rfl (zar rfl za0))))) (zbe rfl (zbe rfl (zbe rfl (zbe rfl (zab rfl rfl (zaa rfl) (zbi rfl ti37 rfl rfl) (zbe rfl (zbx rfl (zaa rfl) (za7 rfl ti37 rfl rfl rfl rfl rfl rfl (by decide) (by decide)) (zbe rfl (zaj (zaf (zae (zbe rfl ?_)))))))))))))))))))))
 refine zbw rfl rfl (zaa rfl) (zb0 rfl rfl rfl) (fun h30 => ?_) (fun h30 => ?_)
 all_goals refine zaj (zak ?_)
 all_goals (first | refine zbl rfl ?_ | refine za6 rfl ?_)
 all_goals (repeat (first | refine zaf ?_ | refine zad ?_))
 ·
  have hR : checkE n w c cost p = false := by
   unfold checkE
   rw [Bool.eq_false_iff]
   intro h
   simp only [Bool.and_eq_true, decide_eq_true_eq] at h
   exact h30 (h10.2 ⟨h.1, h.2.1, h.2.2.1⟩)
  rw [hR]
  refine zae (zbe rfl (zaj (zak ?_)))
  (refine zbd ?_; repeat (first | refine zbn ?_ | refine zbo ?_))
  exact zcb (.inr rfl) rfl rfl
 obtain ⟨hvc, hvd, hwx⟩ := h10.1 (Classical.byContradiction h30)
 have hv := vdB_iff.1 hvd
 have hR : checkE n w c cost p = (decide ((potX n w p (zb7 n w).1).e = 0) && decide (cost ≤ floorN (frE (potX n w p (zb7 n w).1)))) := by
  unfold checkE
  rw [hvc, hvd, hwx]; rfl
 rw [hR]
 have hso := hv.start_ok'
 have hck := K0.check_ce (P := P) n w p hv
 have hpt := K2.potential_ce (P := P) n w p _ hv hso
 have hpo := (hv.pot hso).2
 generalize zb7 n w = s0 at hS hpt hpo hso ⊢
 generalize endE n w = e0 at hck hpt
 generalize p.st.zip p.pots = Z at hck hpt
 generalize potX n w p s0.1 = Y at hpt hpo ⊢
 refine zae (zb2 ta24 ti24 rfl (zbe rfl (zab rfl rfl (zaa rfl) (zav rfl rfl (hS) (zar rfl (zar rfl za0))) (zbe rfl (zbe rfl (zbe rfl (zbe rfl (zbe rfl (zaj (zaf ?_))))))))))
 refine zbz (F' := [(1, eL eS w), (3, eI cost), (5, .ref (eN n).cells), (9, .ref (ePf p).cells), (14, eL eI s0.1)]) (σ' := []) (zc9 [] (by decide) trivial ⟨.lo _ (lo_W w), .lo _ (.s _), .lo _ hln, .lo _ hlp, .lo _ lo_I, trivial⟩) ?_
 refine zae (zb2 ta24 ti24 rfl (zbe rfl (zb2 ta32 ti32 rfl (zab rfl rfl (zaa rfl) (does_callE rfl rfl hck rfl) (zbe rfl (zab rfl rfl (zaa rfl) (does_callE rfl rfl hpt rfl) (zbe rfl (zbe rfl (zbe rfl (zab rfl rfl (zaa rfl) (zbi rfl ti56 rfl rfl) (zbx rfl (zaa rfl) (za7 rfl ti56 rfl rfl rfl rfl rfl rfl (by decide) (by decide)) (zbe rfl (zaj (zaf (zaf ?_)))))))))))))))
 refine zbz (zbv (id := 2) rfl) ?_
 refine zbz (zcf (d := 16) rfl rfl rfl) ?_
 refine zae (zbe rfl ?_)
 refine zbw rfl rfl (zaa rfl) (zb0 rfl rfl rfl) (fun h47 => ?_) (fun h47 => ?_)
 all_goals refine zaj (zak ?_)
 all_goals (first | refine zbl rfl ?_ | refine za6 rfl ?_)
 all_goals (repeat (first | refine zaf ?_ | refine zad ?_))
 ·
  refine zae (zbe rfl (zaj (zak ?_)))
  (refine zbd ?_; repeat (first | refine zbn ?_ | refine zbo ?_))
  exact zcb (.inr rfl) rfl (by rw [decide_eq_false h47]; rfl)
 have he0 : Y.e = 0 := Classical.byContradiction h47
 have hfl := ffloor_pf (P := P) (frE Y) (hpo he0)
 rw [decide_eq_true he0, Bool.true_and]
 refine zae (zb2 ta56 ti56 rfl (zab rfl rfl (zaa rfl) (zav rfl rfl (hfl) (zar rfl za0)) (zbe rfl (zbe rfl (zbe rfl (zbe rfl (zbe rfl (zaj (zaf (zae (zbe rfl (zbe rfl (zab rfl rfl (zaa rfl) (does_geq rfl rfl rfl) (zbe rfl (zaj (zak ?_))))))))))))))))
 (refine zbd ?_; repeat (first | refine zbn ?_ | refine zbo ?_))
 exact zcb (.inr rfl) rfl rfl
end Go.Proofs.YtjhdcgaiccnmeaaGreatDoor.Aw
end
section
namespace Go.Proofs.YtjhdcgaiccnmeaaGreatDoor.Aw
open Go Go.RowKit Go.Proofs Go.Maps Go.WideMaps Dl
variable {P : Program} [IsP P]
theorem eq_of_gti {a b : List Int} (hl : a.length = b.length) (h : ∀ j, j < a.length → gti a j = gti b j) : a = b := by
 refine List.ext_getElem? fun j => ?_
 by_cases hj : j < a.length
 ·
  rw [zbu hj, zbu (by omega), h j hj]
 ·
  rw [List.getElem?_eq_none (by omega), List.getElem?_eq_none (by omega)]
theorem findI_le {S : List (List Int)} {m : List Int} {i : Nat} (h : S[i]? = some m) : zc2 S m ≤ i := by
 unfold zc2 zc1
 cases e : S.findIdx? (fun x => decide (x = m)) with
 | none => show (-1 : Int) ≤ i; omega
 | some k =>
  show (k : Int) ≤ i
  obtain ⟨h1, h2, h3⟩ := List.findIdx?_eq_some_iff_getElem.1 e
  by_cases hik : i < k
  ·
   have := h3 i hik
   rw [List.getElem?_eq_getElem (by omega)] at h
   cases h
   simp at this
  ·
   omega
theorem sameL_pf (a b : List Int) : Pure P 63 [eL eI a, eL eI b] (eB (decide (a = b))) := by
 refine zbb (by rw [IsP.eq (P := P)]; exact Tryz.func63) rfl rfl rfl rfl rfl (by repeat' (first | exact Lo.s _ | exact zap | refine zah ?_ ?_ | refine zaq ?_ | refine Lo.agg _ ?_ | refine Lo.sl _ ?_ | intro _)) (.s _) (by simp only [argF]; rfl) ?_
 refine zaf ?_
 refine aw_bdm (d := 0) rfl (fun hmx => ?_)
 unfold maxLen at hmx
 refine zae (zbe rfl (zaj (zaf (zaf (zae (zbe rfl (zab rfl rfl (zaa rfl) (za2 rfl ts29 rfl) (zbe rfl (zab rfl rfl (zaa rfl) (za2 rfl ts29 rfl) ?_)))))))))
 refine zbw rfl rfl (zaa rfl) (zb0 rfl rfl rfl) (fun h10 => ?_) (fun h10 => ?_)
 all_goals refine zaj (zak ?_)
 all_goals (first | refine zbl rfl ?_ | refine za6 rfl ?_)
 all_goals (repeat (first | refine zaf ?_ | refine zad ?_))
 ·
  refine zae (zbe rfl (zaj (zak ?_)))
  (refine zbd ?_; repeat (first | refine zbn ?_ | refine zbo ?_))
  exact zcb (.inr rfl) rfl (congrArg eB (decide_eq_false (fun e => by subst e; exact h10 rfl)).symm)
 have hl : a.length = b.length := by omega
 refine zae (zbe rfl (zaj (zak (zac ?_))))
 refine zdc (S := Nat) (fun k => [(0, eL eI a), (1, eL eI b), (5, eI k)]) (fun _ => []) (fun k => k ≤ a.length ∧ ∀ j, j < k → gti a j = gti b j) (fun k => a.length - k) 0 (zdk _ ⟨rfl, rfl, rfl, trivial⟩) ⟨Nat.zero_le _, fun j hj => by omega⟩ (fun k hk => ?_)
 obtain ⟨hk, hall⟩ := hk
 refine zaf (zaf (zae (zbe rfl (zbe rfl (zab rfl rfl (zaa rfl) (za2 rfl ts29 rfl) ?_)))))
 refine zbw rfl rfl (zaa rfl) (zb3 rfl rfl rfl) (fun h14 => ?_) (fun h14 => ?_)
 all_goals refine zaj (zak ?_)
 all_goals (first | refine zbl rfl ?_ | refine za6 rfl ?_)
 all_goals (repeat (first | refine zaf ?_ | refine zad ?_ | refine zac ?_))
 ·
  have hlt : k < a.length := by omega
  refine zdj hmix ?_
  refine zde (by kernel_rfl) ?_
  refine qx_s rfl (qx_s rfl (zba rfl rfl (zaa rfl) (za1 rfl ts29 ti3 rfl rfl rfl (zcw hlt) rfl) (qx_l ta3 rfl (qx_s rfl (qx_s rfl (zba rfl rfl (zaa rfl) (za1 rfl ts29 ti3 rfl rfl rfl (zcw (hl ▸ hlt)) rfl) (qx_l ta3 rfl ?_)))))))
  refine qx_opP rfl rfl (zaa rfl) (zb0 rfl rfl rfl) (fun h25 => ?_) (fun h25 => ?_)
  all_goals refine qx_nil ?_
  all_goals refine zak ?_
  all_goals (first | refine zbl rfl ?_ | refine za6 rfl ?_)
  all_goals (repeat (first | refine zaf ?_ | refine zak ?_ | refine zad ?_ | refine zal ?_))
  ·
   refine zae (zbe rfl (zaj (zak ?_)))
   (refine zbd ?_; repeat (first | refine zbn ?_ | refine zbo ?_))
   exact zcb (.inr rfl) rfl (congrArg eB (decide_eq_false (fun e => by subst e; exact h25 rfl)).symm)
  ·
   refine zae (zbe rfl (zab rfl rfl (zaa rfl) (zbj rfl rfl rfl (IntWalk.i64_in _ (by omega))) (zbe rfl (zaj (zak ?_)))))
   refine ⟨k + 1, ⟨by omega, fun j hj => ?_⟩, by omega, zdk _ ⟨rfl, rfl, rfl, trivial⟩⟩
   by_cases e : j = k
   ·
    subst e; exact Classical.byContradiction fun h => h25 h
   ·
    exact hall j (by omega)
 ·
  have e : k = a.length := by omega
  subst e
  (refine zdd ?_; repeat (first | refine ath_x ?_ | refine zco ?_ | refine zce rfl ?_ | refine zal ?_ | refine zak ?_ | refine zaf ?_ | refine zad ?_ | refine zac ?_))
  refine zae (zbe rfl (zaj (zak ?_)))
  (refine zbd ?_; repeat (first | refine zbn ?_ | refine zbo ?_))
  exact zcb (.inr rfl) rfl (congrArg eB (decide_eq_true (eq_of_gti hl hall)).symm)
theorem rFind_pf (l : List (List Int)) (m : List Int) : Pure P 57 [eL (eL eI) l, eL eI m] (eI (zc2 l m)) := by
 refine zbb (by rw [IsP.eq (P := P)]; exact Tryz.func57) rfl rfl rfl rfl rfl (zah (lo_II l) (zah lo_I zap)) (.s _) (by simp only [argF]; rfl) ?_
 refine zaf ?_
 refine aw_bdm (d := 0) rfl (fun hmx => ?_)
 unfold maxLen at hmx
 refine zae (zbe rfl (zaj (zaf (zaf (zae (zbe rfl (zaj (zak (zac ?_)))))))))
 refine zdc (S := Nat) (fun k => [(0, eL (eL eI) l), (1, eL eI m), (5, eI k)]) (fun _ => []) (fun k => k ≤ l.length ∧ ∀ j, j < k → l[j]? ≠ some m) (fun k => l.length - k) 0 (zdk _ ⟨rfl, rfl, rfl, trivial⟩) ⟨Nat.zero_le _, fun j hj => by omega⟩ (fun k hk => ?_)
 obtain ⟨hk, hall⟩ := hk
 refine zaf (zaf (zae (zbe rfl (zbe rfl (zab rfl rfl (zaa rfl) (za2 rfl ts28 rfl) ?_)))))
 refine zbw rfl rfl (zaa rfl) (zb3 rfl rfl rfl) (fun h9 => ?_) (fun h9 => ?_)
 all_goals refine zaj (zak ?_)
 all_goals (first | refine zbl rfl ?_ | refine za6 rfl ?_)
 all_goals (repeat (first | refine zaf ?_ | refine zad ?_ | refine zac ?_))
 ·
  have hlt : k < l.length := by omega
  have hix : (l.map (eL eI))[k]? = some (eL eI (gti l k)) := zcw hlt
  have hxi : l[k]? = some (gti l k) := zbu hlt
  generalize gti l k = x at hix hxi
  have hs := sameL_pf (P := P) x m
  refine zae (zbe rfl (zbe rfl (zab rfl rfl (zaa rfl) (za1 rfl ts28 ti29 rfl rfl rfl hix rfl) (zbk ta29 rfl (zbe rfl ?_)))))
  refine zbw rfl rfl (zaa rfl) (zav rfl rfl (hs) (zar rfl (zar rfl za0))) (fun h17 => ?_) (fun h17 => ?_)
  all_goals refine zaj (zak ?_)
  all_goals (first | refine zbl rfl ?_ | refine za6 rfl ?_)
  all_goals (repeat (first | refine zaf ?_ | refine zak ?_ | refine zad ?_ | refine zal ?_))
  ·
   have hxm : x = m := h17
   refine zae (zbe rfl (zbe rfl (zaj (zak ?_))))
   (refine zbd ?_; repeat (first | refine zbn ?_ | refine zbo ?_))
   exact zcb (.inr rfl) rfl (congrArg eI (findI_at (hxm ▸ hxi) hall).symm)
  ·
   have hxm : x ≠ m := h17
   refine zae (zbe rfl (zab rfl rfl (zaa rfl) (zbj rfl rfl rfl (IntWalk.i64_in _ (by omega))) (zbe rfl (zaj (zak ?_)))))
   refine ⟨k + 1, ⟨by omega, fun j hj => ?_⟩, by omega, zdk _ ⟨rfl, rfl, rfl, trivial⟩⟩
   by_cases e : j = k
   ·
    subst e; rw [hxi]; exact fun e => hxm (by injection e)
   ·
    exact hall j (by omega)
 ·
  have e : k = l.length := by omega
  subst e
  (refine zdd ?_; repeat (first | refine ath_x ?_ | refine zco ?_ | refine zce rfl ?_ | refine zal ?_ | refine zak ?_ | refine zaf ?_ | refine zad ?_ | refine zac ?_))
  refine zae (zbe rfl (zaj (zak ?_)))
  (refine zbd ?_; repeat (first | refine zbn ?_ | refine zbo ?_))
  refine zcb (.inr rfl) rfl (congrArg eI ?_)
  have : zc2 l m < 0 := findI_neg.2 fun h => by
   obtain ⟨j, hj, e⟩ := List.getElem_of_mem h
   exact hall j hj (by rw [List.getElem?_eq_getElem hj, e])
  have := findI_ge l m
  omega
def b01 (b : Bool) : Int := if b then 1 else 0
theorem rLinear_pf (n : Net) (w : List ByteArray) (p : Prf) (s : List Int) (hs : okS n w s) : Pure P 60 [eN n, eL eS w, ePf p, eL eI s] (eFE (linX n w p s)) := by
 have hE := rEnd_pf (P := P) n w
 have hso := start_ok (n := n) (w := w) (by have := hs.valid; unfold zb7; rw [this.1, this.2]; rfl)
 have heo : okS n w (endE n w).1 := hso.2.2.2.2.2
 have hd := rDot_pf (P := P) p.duals (linL w s (endE n w).1)
 have hw1 := rOf_pf (P := P) 1
 have hw0 := rOf_pf (P := P) 0
 have hln : Lo 0 (.ref (eN n).cells) := .ref _ (lo_N n).cells
 have hlp : Lo 0 (.ref (ePf p).cells) := lo_zero p
 have hsl := hs.len
 have hel := heo.len
 have hww := hs.valid.2
 have hwl : w.length ≤ 200 := by unfold zdh at hww; simp only [Bool.and_eq_true, decide_eq_true_eq] at hww; exact hww.1
 have hsm := hs.small
 have hem := heo.small
 unfold linX
 generalize endE n w = er at hE hd heo hel hem ⊢
 obtain ⟨e, ee⟩ := er
 dsimp only at hE hd heo hel hem ⊢
 obtain ⟨np, hnp⟩ : ∃ np : Nat, n.places = np := ⟨n.places.toNat, by omega⟩
 have hsn : s.length = np + 1 := by omega
 have hln1 : linL w s e = lin1 s e np ++ lin2 s w.length := by unfold linL; rw [hsn]; rfl
 rw [hln1] at hd ⊢
 refine zbb (by rw [IsP.eq (P := P)]; exact Tryz.func60) rfl rfl rfl rfl rfl (zah (lo_N n) (zah (lo_W w) (zah (lo_Pf p) (zah lo_I zap)))) (.tup _ (zah (.agg _ (zah (.s _) (zah (.s _) zap))) (zah (.s _) zap))) (by simp only [argF]; rfl) ?_
 refine zaf (zae (zab rfl rfl (zaa rfl) (zb1 rfl rfl rfl rfl) ?_))
 refine za5 (zbv (id := 0) rfl) (za5 (zcf (d := 4) rfl rfl rfl) ?_)
 refine zab rfl rfl (zaa rfl) (zb1 rfl rfl rfl rfl) ?_
 refine za5 (zbv (id := 1) rfl) (za5 (zcf (d := 6) rfl rfl rfl) ?_)
 refine zab rfl rfl (zaa rfl) (zbi rfl ti56 rfl rfl) (zbe rfl (zaj (zaf (zae (zb2 ta24 ti24 rfl (zbe rfl (zab rfl rfl (zaa rfl) (zav rfl rfl (hE) (zar rfl (zar rfl za0))) (zbe rfl (zbe rfl (zbe rfl (zbe rfl (zbe rfl (zaj (zaf (zae (zbe rfl (zaj (zaf (zaf (zae (zbe rfl (zaj (zak (zac ?_))))))))))))))))))))))))
 refine zbz (wk_own (d := 12) (x := .s (.slice none 0 0)) 2 rfl (.inr rfl)) ?_
 refine zdc (S := Nat) (fun k => [(1, eL eS w), (3, eL eI s), (4, .ref (eN n).cells), (6, .ref (ePf p).cells), (8, .ptr 0 2 0 0), (9, eI 0), (10, eL eI e), (12, .own 1 2 k), (13, eI k)]) (fun k => [.row 2 [zFA], .row 2 ((lin1 s e k).map eF)]) (fun k => k ≤ np) (fun k => np - k) 0
  (zc9 [2, 3] (by decide) ⟨⟨_, rfl, .rowE zFA_lo rfl⟩, ⟨_, rfl, .rowE (frs_lo _) rfl⟩, trivial⟩ ⟨.lo _ (lo_W w), .lo _ lo_I, .lo _ hln, .lo _ hlp, .ptr 2 0 2 0 0 rfl, .lo _ (.s _), .lo _ lo_I, .own 3 1 2 _ _ rfl rfl, .lo _ (.s _), trivial⟩) (Nat.zero_le _) (fun k hk => ?_)
 replace hk : k ≤ np := hk
 have hll : ((lin1 s e k).map eF).length = k := by rw [List.length_map, lin1_len]
 have hl2 := lin1_len s e k
 refine zaf (zaf (zae (zbe rfl (zbq zdo rfl (zbk ta3 rfl ?_)))))
 refine zbw rfl rfl (zaa rfl) (zb3 rfl rfl rfl) (fun h24 => ?_) (fun h24 => ?_)
 all_goals refine zaj (zak ?_)
 all_goals (first | refine zbl rfl ?_ | refine za6 rfl ?_)
 all_goals (repeat (first | refine zaf ?_ | refine zad ?_ | refine zac ?_))
 ·
  have hkt : k < np := by omega
  have hi1 : (s.map eI)[k + 1]? = some (eI (gti s (k + 1))) := zcw (by omega)
  have hi2 : (e.map eI)[k + 1]? = some (eI (gti e (k + 1))) := zcw (by omega)
  have b1 := hsm _ (gti_mem (l := s) (k := k + 1) (by omega))
  have b2 := hem _ (gti_mem (l := e) (k := k + 1) (by omega))
  have hwk := rOf_pf (P := P) (gti s (k + 1) - gti e (k + 1))
  refine zdj hmix ?_
  refine adraw_ex ?_
  refine ex_s rfl (ex_s rfl (ex_s rfl (zaz rfl rfl (zaa rfl) (fun _ => (zbj rfl rfl rfl (IntWalk.i64_in _ (by omega)))) (zaz rfl rfl (zaa rfl) (fun _ => (za1 rfl ts29 ti3 rfl rfl (k := k + 1) (by omega) hi1 rfl)) (ex_l ta3 rfl (ex_s rfl (ex_s rfl (zaz rfl rfl (zaa rfl) (fun _ => (zbj rfl rfl rfl (IntWalk.i64_in _ (by omega)))) (zaz rfl rfl (zaa rfl) (fun _ => (za1 rfl ts29 ti3 rfl rfl (k := k + 1) (by omega) hi2 rfl)) (ex_l ta3 rfl (zaz rfl rfl (zaa rfl) (fun _ => (does_sub rfl rfl rfl (IntWalk.i64_in _ (by omega)))) ?_)))))))))))
  refine zaz rfl rfl (zaa rfl) (fun _ => (zav rfl rfl (hwk) (zar rfl za0))) (zaz rfl rfl (zaa rfl) (fun _ => (zcp rfl ts30 ti56 rfl rfl (by decide) (by decide) rfl rfl rfl (.agg _ (zah (.s _) (zah (.s _) zap))))) ?_)
  refine ex_eff rfl rfl (zaa rfl) (zcr rfl ts30 ti56 rfl (by decide) rfl rfl hll.symm rfl (by first | exact .own _ _ _ rfl rfl _ (by first | rfl | simp) | exact .emp | exact .nil | exact .sl _ (by first | simp; done | intro e he; simp at he; obtain ⟨_, _, rfl⟩ := he; rfl)) (by first | omega | (simp; omega) | (unfold maxLen; simp; omega)) (by first | omega | (simp; omega) | (unfold maxLen; simp; omega))) (fun _ h => app2_other h) ?_
  refine ex_s rfl ?_
  refine ex_nil (by kernel_rfl) ?_
  refine zal (zak (zae (zbe rfl (zab rfl rfl (zaa rfl) (zbj rfl rfl rfl (IntWalk.i64_in _ (by omega))) (zbe rfl (zaj (zak ?_)))))))
  have hrow : (lin1 s e (k + 1)).map eF = (lin1 s e k).map eF ++ [eF (Fr.of (gti s (k + 1) - gti e (k + 1)))] := by rw [lin1_succ, List.map_append]; rfl
  exact ⟨k + 1, by omega, by omega, zc9 [0, 2] (by decide) ⟨⟨_, rfl, .rowE zFA_lo rfl⟩, ⟨_, rfl, .rowE (frs_lo _) hrow.symm⟩, trivial⟩ ⟨.lo _ (lo_W w), .lo _ lo_I, .lo _ hln, .lo _ hlp, .ptr 0 0 2 0 0 rfl, .lo _ (.s _), .lo _ lo_I, .own 2 1 2 _ _ rfl (by rw [hll]; rfl), .lo _ (.s _), trivial⟩⟩
 have hke : k = np := by omega
 subst hke
 clear hll
 (refine zdd ?_; repeat (first | refine ath_x ?_ | refine zco ?_ | refine zce rfl ?_ | refine zal ?_ | refine zak ?_ | refine zaf ?_ | refine zad ?_ | refine zac ?_))
 refine zae (zbe rfl (zaj (zak (zac ?_))))
 refine zdc (S := Nat) (fun m => [(1, eL eS w), (3, eL eI s), (6, .ref (ePf p).cells), (8, .ptr 0 2 0 0), (9, eI 0), (12, .own 1 2 (k + m)), (14, eI m)]) (fun m => [.row 2 [zFA], .row 2 ((lin1 s e k ++ lin2 s m).map eF)]) (fun m => m ≤ w.length) (fun m => w.length - m) 0
  (zc9 [0, 1] (by decide) ⟨⟨_, rfl, .rowE zFA_lo rfl⟩, ⟨_, rfl, .rowE (frs_lo _) (by simp [lin2])⟩, trivial⟩ ⟨.lo _ (lo_W w), .lo _ lo_I, .lo _ hlp, .ptr 0 0 2 0 0 rfl, .lo _ (.s _), .own 1 1 2 _ _ rfl rfl, .lo _ (.s _), trivial⟩) (Nat.zero_le _) (fun m hm => ?_)
 replace hm : m ≤ w.length := hm
 have hll : ((lin1 s e k ++ lin2 s m).map eF).length = k + m := by rw [List.length_map, List.length_append, lin1_len, lin2_len]
 have hl3 := lin2_len s m
 have hs0 : (s.map eI)[0]? = some (eI (gti s 0)) := zcw (by omega)
 refine zaf (zaf (zae (zbe rfl (zbe rfl (zab rfl rfl (zaa rfl) (za2 rfl ts25 rfl) ?_)))))
 refine zbw rfl rfl (zaa rfl) (zb3 rfl rfl rfl) (fun h45 => ?_) (fun h45 => ?_)
 all_goals refine zaj (zak ?_)
 all_goals (first | refine zbl rfl ?_ | refine za6 rfl ?_)
 all_goals (repeat (first | refine zaf ?_ | refine zad ?_ | refine zac ?_))
 ·
  have hmt : m < w.length := by omega
  have hrow : ∀ z, (if gti s 0 ≤ (m : Int) then (1 : Int) else 0) = z → (lin1 s e k ++ lin2 s (m + 1)).map eF = (lin1 s e k ++ lin2 s m).map eF ++ [eF (Fr.of z)] := fun z hz => by rw [lin2_succ, hz]; simp
  refine zae (zbe rfl (zbe rfl (zab rfl rfl (zaa rfl) (za1 rfl ts29 ti3 rfl rfl (k := 0) rfl hs0 rfl) (zbk ta3 rfl ?_))))
  refine zbw rfl rfl (zaa rfl) (does_geq rfl rfl rfl) (fun h52 => ?_) (fun h52 => ?_)
  all_goals refine zaj (zak ?_)
  all_goals (first | refine zbl rfl ?_ | refine za6 rfl ?_)
  ·
   refine zae (zbe rfl (zab rfl rfl (zaa rfl) (zav rfl rfl (hw1) (zar rfl za0)) (zab rfl rfl (zaa rfl) (zcp rfl ts30 ti56 rfl rfl (by decide) (by decide) rfl rfl rfl (.agg _ (zah (.s _) (zah (.s _) zap)))) ?_)))
   refine zab rfl rfl (zaa rfl) (zcr rfl ts30 ti56 rfl (by decide) rfl rfl hll.symm rfl (by first | exact .own _ _ _ rfl rfl _ (by first | rfl | simp) | exact .emp | exact .nil | exact .sl _ (by first | simp; done | intro e he; simp at he; obtain ⟨_, _, rfl⟩ := he; rfl)) (by first | omega | (simp; omega) | (unfold maxLen; simp; omega)) (by first | omega | (simp; omega) | (unfold maxLen; simp; omega))) ?_
   refine zbe rfl (zaj (zal (zak (zae (zbe rfl (zab rfl rfl (zaa rfl) (zbj rfl rfl rfl (IntWalk.i64_in _ (by omega))) (zbe rfl (zaj (zak ?_)))))))))
   exact ⟨m + 1, by omega, by omega, zc9 [0, 2] (by decide) ⟨⟨_, rfl, .rowE zFA_lo rfl⟩, ⟨_, rfl, .rowE (frs_lo _) (hrow 1 (if_pos h52)).symm⟩, trivial⟩ ⟨.lo _ (lo_W w), .lo _ lo_I, .lo _ hlp, .ptr 0 0 2 0 0 rfl, .lo _ (.s _), .own 2 1 2 _ _ rfl (by rw [hll]; rfl), .lo _ (.s _), trivial⟩⟩
  ·
   refine zae (zbe rfl (zab rfl rfl (zaa rfl) (zav rfl rfl (hw0) (zar rfl za0)) (zab rfl rfl (zaa rfl) (zcp rfl ts30 ti56 rfl rfl (by decide) (by decide) rfl rfl rfl (.agg _ (zah (.s _) (zah (.s _) zap)))) ?_)))
   refine zab rfl rfl (zaa rfl) (zcr rfl ts30 ti56 rfl (by decide) rfl rfl hll.symm rfl (by first | exact .own _ _ _ rfl rfl _ (by first | rfl | simp) | exact .emp | exact .nil | exact .sl _ (by first | simp; done | intro e he; simp at he; obtain ⟨_, _, rfl⟩ := he; rfl)) (by first | omega | (simp; omega) | (unfold maxLen; simp; omega)) (by first | omega | (simp; omega) | (unfold maxLen; simp; omega))) ?_
   refine zbe rfl (zaj (zal (zak (zae (zbe rfl (zab rfl rfl (zaa rfl) (zbj rfl rfl rfl (IntWalk.i64_in _ (by omega))) (zbe rfl (zaj (zak ?_)))))))))
   exact ⟨m + 1, by omega, by omega, zc9 [0, 2] (by decide) ⟨⟨_, rfl, .rowE zFA_lo rfl⟩, ⟨_, rfl, .rowE (frs_lo _) (hrow 0 (if_neg h52)).symm⟩, trivial⟩ ⟨.lo _ (lo_W w), .lo _ lo_I, .lo _ hlp, .ptr 0 0 2 0 0 rfl, .lo _ (.s _), .own 2 1 2 _ _ rfl (by rw [hll]; rfl), .lo _ (.s _), trivial⟩⟩
 have hme : m = w.length := by omega
 subst hme
 (refine zdd ?_; repeat (first | refine ath_x ?_ | refine zco ?_ | refine zce rfl ?_ | refine zal ?_ | refine zak ?_ | refine zaf ?_ | refine zad ?_ | refine zac ?_))
 refine zbz (zbv (id := 1) rfl) ?_
 refine zbz (wk_sl (d := 12) rfl rfl (by rw [hll])) ?_
 refine zae (zbq tf32_2 rfl (zbk ta30 rfl (zbe rfl (zab rfl rfl (zaa rfl) (zav rfl rfl (hd) (zar rfl (zar rfl za0))) (zbe rfl (zbe rfl (zbx rfl (zaa rfl) (za7 rfl ti56 rfl rfl rfl rfl rfl rfl (by decide) (by decide)) (zbe rfl (zaj (zak ?_))))))))))
 (refine zbd ?_; repeat (first | refine zbn ?_ | refine zbo ?_))
 exact post_fe (.inr rfl) ta56 ti56 rfl rfl rfl rfl rfl rfl
end Go.Proofs.YtjhdcgaiccnmeaaGreatDoor.Aw
end
section
namespace Go.Proofs.YtjhdcgaiccnmeaaGreatDoor.Aw
open Go Go.RowKit Go.Proofs Go.Maps Go.WideMaps Dl
variable {P : Program} [IsP P]
theorem grB_cmp {a b : Fr} (ha : a.okB = true) (hb : b.okB = true) : grB a b = decide (cmpN a b > 0) := by
 unfold grB cmpE
 rw [ha, hb]
 exact decide_eq_decide.2 (by show ¬ cmpN a b ≤ 0 ↔ _; omega)
theorem mostE_bd {c : Cst} (hc : vcB c = true) (t : Tr) : 0 ≤ mostE c t ∧ mostE c t ≤ 1000 := by
 unfold mostE
 unfold vcB inB at hc
 simp only [Bool.and_eq_true, decide_eq_true_eq] at hc
 split <;> omega
theorem vcB_bd {c : Cst} (hc : vcB c = true) : (0 ≤ c.log ∧ c.log ≤ 1000) ∧ (0 ≤ c.model ∧ c.model ≤ 1000) ∧ 0 ≤ c.silent ∧ c.silent ≤ 1000 := by
 unfold vcB inB at hc
 simp only [Bool.and_eq_true, decide_eq_true_eq] at hc
 omega
theorem rPotential_pf (n : Net) (w : List ByteArray) (p : Prf) (s : List Int) (hv : VD n w p) (hs : okS n w s) : Pure P 32 [eN n, eL eS w, ePf p, eL eI s] (eFE (potX n w p s)) := by
 have hln : Lo 0 (.ref (eN n).cells) := .ref _ (lo_N n).cells
 have hlp : Lo 0 (.ref (ePf p).cells) := lo_zero p
 have hfi := rFind_pf (P := P) p.st s
 have hli := rLinear_pf (P := P) n w p s hs
 have hpx : potX n w p s = if zc2 p.st s < 0 then linX n w p s else ⟨gti p.pots (idx p.st s), 1, 0⟩ := rfl
 refine zbb (by rw [IsP.eq (P := P)]; exact Tryz.func32) rfl rfl rfl rfl rfl (zah (lo_N n) (zah (lo_W w) (zah (lo_Pf p) (zah lo_I zap)))) (.tup _ (zah (.agg _ (zah (.s _) (zah (.s _) zap))) (zah (.s _) zap))) (by simp only [argF]; rfl) ?_
 refine zaf (zae (zab rfl rfl (zaa rfl) (zb1 rfl rfl rfl rfl) ?_))
 refine za5 (zbv (id := 0) rfl) (za5 (zcf (d := 4) rfl rfl rfl) ?_)
 refine zab rfl rfl (zaa rfl) (zb1 rfl rfl rfl rfl) ?_
 refine za5 (zbv (id := 1) rfl) (za5 (zcf (d := 6) rfl rfl rfl) ?_)
 refine zab rfl rfl (zaa rfl) (zbi rfl ti56 rfl rfl) (zbe rfl (zaj (zaf (zaf (zae (zbq za9 rfl (zbk ta28 rfl (zbe rfl (zab rfl rfl (zaa rfl) (zav rfl rfl (hfi) (zar rfl (zar rfl za0))) (zbe rfl (zaj (zaf (zae (zbe rfl ?_))))))))))))))
 refine zbw rfl rfl (zaa rfl) (does_geq rfl rfl rfl) (fun h16 => ?_) (fun h16 => ?_)
 all_goals refine zaj (zak ?_)
 all_goals (first | refine zbl rfl ?_ | refine za6 rfl ?_)
 all_goals (repeat (first | refine zaf ?_ | refine zad ?_))
 ·
  obtain ⟨p1, p2, p3⟩ := idx_old (S := p.st) (x := s) (by omega)
  rw [hpx, if_neg (by omega)]
  have hip : (p.pots.map eI)[idx p.st s]? = some (eI (gti p.pots (idx p.st s))) := zcw (by have := hv.pl; omega)
  have hof := rOf_pf (P := P) (gti p.pots (idx p.st s))
  generalize gti p.pots (idx p.st s) = q at hip hof ⊢
  refine zae (zbq zdl rfl (zbk ta29 rfl (zbe rfl (zab rfl rfl (zaa rfl) (za1 rfl ts29 ti3 rfl rfl (k := idx p.st s) p3.symm hip rfl) (zbk ta3 rfl (zab rfl rfl (zaa rfl) (zav rfl rfl (hof) (zar rfl za0)) (zbx rfl (zaa rfl) (za7 rfl ti56 rfl rfl rfl rfl rfl rfl (by decide) (by decide)) (zbe rfl (zaj (zak ?_))))))))))
  (refine zbd ?_; repeat (first | refine zbn ?_ | refine zbo ?_))
  exact post_fe (x := ⟨q, 1, 0⟩) (.inr rfl) ta56 ti56 rfl rfl rfl rfl rfl rfl
 ·
  rw [hpx, if_pos (by omega)]
  generalize linX n w p s = Y at hli ⊢
  refine zae (zb2 ta24 ti24 rfl (zbe rfl (zb2 ta32 ti32 rfl (zbe rfl (zab rfl rfl (zaa rfl) (zav rfl rfl (hli) (zar rfl (zar rfl (zar rfl (zar rfl za0))))) (zbe rfl (zbe rfl (zbx rfl (zaa rfl) (za7 rfl ti56 rfl rfl rfl rfl rfl rfl (by decide) (by decide)) (zbe rfl (zaj (zak ?_)))))))))))
  (refine zbd ?_; repeat (first | refine zbn ?_ | refine zbo ?_))
  exact post_fe (x := Y) (.inr rfl) ta56 ti56 rfl rfl rfl rfl rfl rfl
theorem nodup_find {S : List (List Int)} (h : ∀ j, j < S.length → ¬ zc2 S (gti S j) < j) : S.Nodup := by
 refine List.pairwise_iff_getElem.2 fun i j hi hj hij e => h j hj ?_
 have h1 : S[i]? = some (gti S j) := by rw [← zbu hj, List.getElem?_eq_getElem hi, List.getElem?_eq_getElem hj, e]
 have := findI_le h1
 omega
theorem find_nodup {S : List (List Int)} (h : S.Nodup) {j : Nat} (hj : j < S.length) : zc2 S (gti S j) = j := findI_at (zbu hj) (fun i hi e => by
 refine List.pairwise_iff_getElem.1 h i j (by omega) hj hi ?_
 rw [← zbu hj, List.getElem?_eq_getElem (by omega), List.getElem?_eq_getElem hj] at e
 exact Option.some.inj e)
set_option maxHeartbeats 2000000 in
theorem rValid44_pf (n : Net) (w : List ByteArray) (p : Prf) : Pure P 15 [eN n, eL eS w, ePf p] (eB (vdB n w p)) := by
 have hln : Lo 0 (.ref (eN n).cells) := .ref _ (lo_N n).cells
 have hlp : Lo 0 (.ref (ePf p).cells) := lo_zero p
 have hvf := vdB_iff (n := n) (w := w) (p := p)
 generalize vdB n w p = R at hvf ⊢
 have hRf : ¬ VD n w p → R = false := fun h => by cases R with
  | false => rfl
  | true => exact absurd (hvf.1 rfl) h
 have h21 := rvalid_pf (P := P) n
 have h42 := rIsWord_pf (P := P) w
 have h01 := rValidAll_pf (P := P) p.duals
 have hbp : zbc n = true → 0 ≤ n.places ∧ n.places ≤ 40 := fun h => by have := za8 h; omega
 have hbw : zdh w = true → w.length ≤ 200 := fun hww => by unfold zdh at hww; simp only [Bool.and_eq_true, decide_eq_true_eq] at hww; exact hww.1
 have hvn : VD n w p → zbc n = true := fun h => h.net
 have hvw : VD n w p → zdh w = true := fun h => h.word
 have hvd : VD n w p → p.duals.all Fr.okB = true := fun h => h.dok
 have hmk : zbc n = true → zdh w = true → p.duals.all Fr.okB = true → p.st.length ≤ 2000 → p.pots.length = p.st.length → (p.duals.length : Int) = n.places + w.length → (∀ j, j < p.st.length → okS n w (gti p.st j) ∧ ¬ zc2 p.st (gti p.st j) < j ∧ 0 ≤ gti p.pots j ∧ gti p.pots j ≤ 1073741824) → VD n w p := fun h1 h2 h3 h4 h5 h6 h7 => by
  refine ⟨h1, h2, h4, h5, h6, fun s hs => ?_, nodup_find (fun j hj => (h7 j hj).2.1), fun k hk => ?_, h3⟩
  ·
   obtain ⟨j, hj, rfl⟩ := mem_gti' hs
   exact (h7 j hj).1
  ·
   obtain ⟨j, hj, rfl⟩ := mem_gti' hk
   exact (h7 j (by omega)).2.2
 generalize hb1 : zbc n = b1 at h21 hbp hvn hmk
 generalize hb2 : zdh w = b2 at h42 hbw hvw hmk
 generalize p.duals.all Fr.okB = b3 at h01 hvd hmk
 refine zbb (by rw [IsP.eq (P := P)]; exact Tryz.func15) rfl rfl rfl rfl rfl (zah (lo_N n) (zah (lo_W w) (zah (lo_Pf p) zap))) (.s _) (by simp only [argF]; rfl) ?_
 refine zaf (zae (zab rfl rfl (zaa rfl) (zb1 rfl rfl rfl rfl) ?_))
 refine za5 (zbv (id := 0) rfl) (za5 (zcf (d := 3) rfl rfl rfl) ?_)
 refine zab rfl rfl (zaa rfl) (zb1 rfl rfl rfl rfl) ?_
 refine za5 (zbv (id := 1) rfl) (za5 (zcf (d := 5) rfl rfl rfl) ?_)
 refine zbe rfl (zaj (zaf (zaf ?_)))
 cases b1 with
 | false =>
  refine zae (zb2 ta24 ti24 rfl (zab rfl rfl (zaa rfl) (zav rfl rfl (h21) (zar rfl za0)) (zab rfl rfl (zaa rfl) (zbh rfl rfl) (zbe rfl (zbf rfl (zbf rfl (zbf rfl (zbe rfl (zbe rfl (zbf rfl (zbf rfl (zbf rfl (zbf rfl (zbe rfl (zbe rfl (zbf rfl (zbf rfl (zbf rfl (zbf rfl (zbf rfl (zbf rfl (zbf rfl (zbe rfl (zbe rfl (zbf rfl (zbf rfl (zbf rfl (zbf rfl (zbf rfl (zbf rfl (zbf rfl (zbf rfl (zbf rfl (zbe rfl (zbe rfl (zbf rfl (zbf rfl (zbf rfl (zbf rfl ?_)))))))))))))))))))))))))))))))))))))))
  refine zbe rfl (zaj (zak (zbl rfl (zaf (zae (zbe rfl (zaj (zak ?_))))))))
  (refine zbd ?_; repeat (first | refine zbn ?_ | refine zbo ?_))
  exact zcb (.inr rfl) rfl (congrArg eB (hRf (fun h => by have := hvn h; cases this)).symm)
 | true =>
 cases b2 with
 | false =>
  refine zae (zb2 ta24 ti24 rfl (zab rfl rfl (zaa rfl) (zav rfl rfl (h21) (zar rfl za0)) (zab rfl rfl (zaa rfl) (zbh rfl rfl) (zbe rfl (zbe rfl (zab rfl rfl (zau rfl rfl rfl) (zav rfl rfl (h42) (zar rfl za0)) (zab rfl rfl (zau rfl rfl rfl) (zbh rfl rfl) (zbe rfl (zbe rfl (zbf rfl (zbf rfl (zbf rfl (zbf rfl (zbe rfl (zbe rfl (zbf rfl (zbf rfl (zbf rfl (zbf rfl (zbf rfl (zbf rfl (zbf rfl (zbe rfl (zbe rfl (zbf rfl (zbf rfl (zbf rfl (zbf rfl (zbf rfl ?_)))))))))))))))))))))))))))))
  refine zbf rfl (zbf rfl (zbf rfl (zbf rfl (zbe rfl (zbe rfl (zbf rfl (zbf rfl (zbf rfl (zbf rfl (zbe rfl (zaj (zak (zbl rfl (zaf (zae (zbe rfl (zaj (zak ?_))))))))))))))))))
  (refine zbd ?_; repeat (first | refine zbn ?_ | refine zbo ?_))
  exact zcb (.inr rfl) rfl (congrArg eB (hRf (fun h => by have := hvw h; cases this)).symm)
 | true =>
 have hpl := hbp rfl
 have hwl := hbw rfl
 by_cases hc : p.st.length ≤ 2000 ∧ p.pots.length = p.st.length ∧ (p.duals.length : Int) = n.places + w.length
 rotate_left 1
 ·
  have hR : R = false := hRf (fun h => hc ⟨h.few, h.pl, h.dl⟩)
  have hcs : 2000 < p.st.length ∨ (p.st.length ≤ 2000 ∧ p.pots.length ≠ p.st.length) ∨ (p.st.length ≤ 2000 ∧ p.pots.length = p.st.length ∧ (p.duals.length : Int) ≠ n.places + w.length) := by omega
  rcases hcs with h1 | ⟨h1, h2⟩ | ⟨h1, h2, h3⟩
  ·
   refine zae (zb2 ta24 ti24 rfl (zab rfl rfl (zaa rfl) (zav rfl rfl (h21) (zar rfl za0)) (zab rfl rfl (zaa rfl) (zbh rfl rfl) (zbe rfl (zbe rfl (zab rfl rfl (zau rfl rfl rfl) (zav rfl rfl (h42) (zar rfl za0)) (zab rfl rfl (zau rfl rfl rfl) (zbh rfl rfl) (zbe rfl (zbe rfl (zbq za9 rfl (zbk ta28 rfl (zab rfl rfl (zau rfl rfl rfl) (za2 rfl ts28 rfl) (zab rfl rfl (zau rfl rfl rfl) (zck (by omega) (zb6 rfl rfl rfl)) (zbe rfl (zbe rfl (zbf rfl (zbf rfl (zbf rfl ?_))))))))))))))))))
   refine zbf rfl (zbf rfl (zbf rfl (zbf rfl (zbe rfl (zbe rfl (zbf rfl (zbf rfl (zbf rfl (zbf rfl (zbf rfl (zbf rfl (zbf rfl (zbf rfl (zbf rfl (zbe rfl (zbe rfl (zbf rfl (zbf rfl (zbf rfl (zbf rfl (zbe rfl (zaj (zak (zbl rfl (zaf (zae (zbe rfl (zaj (zak ?_)))))))))))))))))))))))))))))
   (refine zbd ?_; repeat (first | refine zbn ?_ | refine zbo ?_))
   exact zcb (.inr rfl) rfl (congrArg eB hR.symm)
  ·
   refine zae (zb2 ta24 ti24 rfl (zab rfl rfl (zaa rfl) (zav rfl rfl (h21) (zar rfl za0)) (zab rfl rfl (zaa rfl) (zbh rfl rfl) (zbe rfl (zbe rfl (zab rfl rfl (zau rfl rfl rfl) (zav rfl rfl (h42) (zar rfl za0)) (zab rfl rfl (zau rfl rfl rfl) (zbh rfl rfl) (zbe rfl (zbe rfl (zbq za9 rfl (zbk ta28 rfl (zab rfl rfl (zau rfl rfl rfl) (za2 rfl ts28 rfl) (zab rfl rfl (zau rfl rfl rfl) (zc7 (by omega) (zb6 rfl rfl rfl)) (zbe rfl (zbe rfl (zbq zdl rfl (zbk ta29 rfl ?_)))))))))))))))))
   refine zab rfl rfl (zau rfl rfl rfl) (za2 rfl ts29 rfl) (zbq za9 rfl (zbk ta28 rfl (zab rfl rfl (zau rfl rfl rfl) (za2 rfl ts28 rfl) (zab rfl rfl (zau rfl rfl rfl) (zck (by omega) (zb0 rfl rfl rfl)) (zbe rfl (zbe rfl (zbf rfl (zbf rfl (zbf rfl (zbf rfl (zbf rfl (zbf rfl (zbf rfl (zbf rfl (zbf rfl (zbe rfl (zbe rfl (zbf rfl (zbf rfl (zbf rfl (zbf rfl (zbe rfl (zaj (zak (zbl rfl (zaf (zae (zbe rfl (zaj (zak ?_))))))))))))))))))))))))))))))
   (refine zbd ?_; repeat (first | refine zbn ?_ | refine zbo ?_))
   exact zcb (.inr rfl) rfl (congrArg eB hR.symm)
  ·
   refine zae (zb2 ta24 ti24 rfl (zab rfl rfl (zaa rfl) (zav rfl rfl (h21) (zar rfl za0)) (zab rfl rfl (zaa rfl) (zbh rfl rfl) (zbe rfl (zbe rfl (zab rfl rfl (zau rfl rfl rfl) (zav rfl rfl (h42) (zar rfl za0)) (zab rfl rfl (zau rfl rfl rfl) (zbh rfl rfl) (zbe rfl (zbe rfl (zbq za9 rfl (zbk ta28 rfl (zab rfl rfl (zau rfl rfl rfl) (za2 rfl ts28 rfl) (zab rfl rfl (zau rfl rfl rfl) (zc7 (by omega) (zb6 rfl rfl rfl)) (zbe rfl (zbe rfl (zbq zdl rfl (zbk ta29 rfl ?_)))))))))))))))))
   refine zab rfl rfl (zau rfl rfl rfl) (za2 rfl ts29 rfl) (zbq za9 rfl (zbk ta28 rfl (zab rfl rfl (zau rfl rfl rfl) (za2 rfl ts28 rfl) (zab rfl rfl (zau rfl rfl rfl) (zc7 (by omega) (zb0 rfl rfl rfl)) (zbe rfl (zbe rfl (zbq tf32_2 rfl (zbk ta30 rfl (zab rfl rfl (zau rfl rfl rfl) (za2 rfl ts30 rfl) (zbq zdo rfl (zbk ta3 rfl (zbe rfl (zab rfl rfl (zau rfl rfl rfl) (za2 rfl ts25 rfl) (zab rfl rfl (zau rfl rfl rfl) (zbj rfl rfl rfl (IntWalk.i64_in _ (by omega))) (zab rfl rfl (zau rfl rfl rfl) (zck (by omega) (zb0 rfl rfl rfl)) ?_)))))))))))))))
   refine zbe rfl (zbe rfl (zbf rfl (zbf rfl (zbf rfl (zbf rfl (zbe rfl (zaj (zak (zbl rfl (zaf (zae (zbe rfl (zaj (zak ?_))))))))))))))
   (refine zbd ?_; repeat (first | refine zbn ?_ | refine zbo ?_))
   exact zcb (.inr rfl) rfl (congrArg eB hR.symm)
 obtain ⟨hc1, hc2, hc3⟩ := hc
 cases b3 with
 | false =>
  refine zae (zb2 ta24 ti24 rfl (zab rfl rfl (zaa rfl) (zav rfl rfl (h21) (zar rfl za0)) (zab rfl rfl (zaa rfl) (zbh rfl rfl) (zbe rfl (zbe rfl (zab rfl rfl (zau rfl rfl rfl) (zav rfl rfl (h42) (zar rfl za0)) (zab rfl rfl (zau rfl rfl rfl) (zbh rfl rfl) (zbe rfl (zbe rfl (zbq za9 rfl (zbk ta28 rfl (zab rfl rfl (zau rfl rfl rfl) (za2 rfl ts28 rfl) (zab rfl rfl (zau rfl rfl rfl) (zc7 (by omega) (zb6 rfl rfl rfl)) (zbe rfl (zbe rfl (zbq zdl rfl (zbk ta29 rfl ?_)))))))))))))))))
  refine zab rfl rfl (zau rfl rfl rfl) (za2 rfl ts29 rfl) (zbq za9 rfl (zbk ta28 rfl (zab rfl rfl (zau rfl rfl rfl) (za2 rfl ts28 rfl) (zab rfl rfl (zau rfl rfl rfl) (zc7 (by omega) (zb0 rfl rfl rfl)) (zbe rfl (zbe rfl (zbq tf32_2 rfl (zbk ta30 rfl (zab rfl rfl (zau rfl rfl rfl) (za2 rfl ts30 rfl) (zbq zdo rfl (zbk ta3 rfl (zbe rfl (zab rfl rfl (zau rfl rfl rfl) (za2 rfl ts25 rfl) (zab rfl rfl (zau rfl rfl rfl) (zbj rfl rfl rfl (IntWalk.i64_in _ (by omega))) (zab rfl rfl (zau rfl rfl rfl) (zc7 (by omega) (zb0 rfl rfl rfl)) ?_)))))))))))))))
  refine zbe rfl (zbe rfl (zbq tf32_2 rfl (zbk ta30 rfl (zab rfl rfl (zau rfl rfl rfl) (zav rfl rfl (h01) (zar rfl za0)) (zab rfl rfl (zau rfl rfl rfl) (zbh rfl rfl) (zbe rfl (zaj (zak (zbl rfl (zaf (zae (zbe rfl (zaj (zak ?_))))))))))))))
  (refine zbd ?_; repeat (first | refine zbn ?_ | refine zbo ?_))
  exact zcb (.inr rfl) rfl (congrArg eB (hRf (fun h => by have := hvd h; cases this)).symm)
 | true =>
 refine zae (zb2 ta24 ti24 rfl (zab rfl rfl (zaa rfl) (zav rfl rfl (h21) (zar rfl za0)) (zab rfl rfl (zaa rfl) (zbh rfl rfl) (zbe rfl (zbe rfl (zab rfl rfl (zau rfl rfl rfl) (zav rfl rfl (h42) (zar rfl za0)) (zab rfl rfl (zau rfl rfl rfl) (zbh rfl rfl) (zbe rfl (zbe rfl (zbq za9 rfl (zbk ta28 rfl (zab rfl rfl (zau rfl rfl rfl) (za2 rfl ts28 rfl) (zab rfl rfl (zau rfl rfl rfl) (zc7 (by omega) (zb6 rfl rfl rfl)) (zbe rfl (zbe rfl (zbq zdl rfl (zbk ta29 rfl ?_)))))))))))))))))
 refine zab rfl rfl (zau rfl rfl rfl) (za2 rfl ts29 rfl) (zbq za9 rfl (zbk ta28 rfl (zab rfl rfl (zau rfl rfl rfl) (za2 rfl ts28 rfl) (zab rfl rfl (zau rfl rfl rfl) (zc7 (by omega) (zb0 rfl rfl rfl)) (zbe rfl (zbe rfl (zbq tf32_2 rfl (zbk ta30 rfl (zab rfl rfl (zau rfl rfl rfl) (za2 rfl ts30 rfl) (zbq zdo rfl (zbk ta3 rfl (zbe rfl (zab rfl rfl (zau rfl rfl rfl) (za2 rfl ts25 rfl) (zab rfl rfl (zau rfl rfl rfl) (zbj rfl rfl rfl (IntWalk.i64_in _ (by omega))) (zab rfl rfl (zau rfl rfl rfl) (zc7 (by omega) (zb0 rfl rfl rfl)) ?_)))))))))))))))
 refine zbe rfl (zbe rfl (zbq tf32_2 rfl (zbk ta30 rfl (zab rfl rfl (zau rfl rfl rfl) (zav rfl rfl (h01) (zar rfl za0)) (zab rfl rfl (zau rfl rfl rfl) (zbh rfl rfl) (zbe rfl (zaj (zak (za6 rfl (zad (zaf (zaf ?_))))))))))))
 replace hmk := hmk rfl rfl rfl hc1 hc2 hc3
 refine zae (zbe rfl (zaj (zak (zac ?_))))
 refine zdc (S := Nat) (fun k => [(1, eL eS w), (3, .ref (eN n).cells), (5, .ref (ePf p).cells), (7, eI k)]) (fun k => []) (fun k => k ≤ p.st.length ∧ ∀ j, j < k → okS n w (gti p.st j) ∧ ¬ zc2 p.st (gti p.st j) < j ∧ 0 ≤ gti p.pots j ∧ gti p.pots j ≤ 1073741824) (fun k => p.st.length - k) 0
  (zc9 [] (by decide) trivial ⟨.lo _ (lo_W w), .lo _ hln, .lo _ hlp, .lo _ (.s _), trivial⟩) ⟨Nat.zero_le _, fun j hj => by omega⟩ (fun k hk => ?_)
 obtain ⟨hk, hall⟩ := hk
 refine zaf (zaf (zae (zbe rfl (zbq za9 rfl (zbk ta28 rfl (zab rfl rfl (zaa rfl) (za2 rfl ts28 rfl) ?_))))))
 refine zbw rfl rfl (zaa rfl) (zb3 rfl rfl rfl) (fun h52 => ?_) (fun h52 => ?_)
 all_goals refine zaj (zak ?_)
 all_goals (first | refine zbl rfl ?_ | refine za6 rfl ?_)
 all_goals (repeat (first | refine zaf ?_ | refine zad ?_ | refine zac ?_))
 rotate_left 1
 ·
  have hke : k = p.st.length := by omega
  subst hke
  (refine zdd ?_; repeat (first | refine ath_x ?_ | refine zco ?_ | refine zce rfl ?_ | refine zal ?_ | refine zak ?_ | refine zaf ?_ | refine zad ?_ | refine zac ?_))
  refine zae (zbe rfl (zaj (zak ?_)))
  (refine zbd ?_; repeat (first | refine zbn ?_ | refine zbo ?_))
  exact zcb (.inr rfl) rfl (congrArg eB (hvf.2 (hmk hall)).symm)
 have hkt : k < p.st.length := by omega
 have his : (p.st.map (eL eI))[k]? = some (eL eI (gti p.st k)) := zcw hkt
 have hip : (p.pots.map eI)[k]? = some (eI (gti p.pots k)) := zcw (by omega)
 have hS := rIsState_pf (P := P) n w (gti p.st k)
 have hF := rFind_pf (P := P) p.st (gti p.st k)
 have hnv : VD n w p → okS n w (gti p.st k) ∧ ¬ zc2 p.st (gti p.st k) < k ∧ 0 ≤ gti p.pots k ∧ gti p.pots k ≤ 1073741824 := fun h => ⟨h.ok _ (gti_mem hkt), by rw [find_nodup h.nd hkt]; omega, h.pb _ (gti_mem (by omega))⟩
 have hnx : okS n w (gti p.st k) ∧ ¬ zc2 p.st (gti p.st k) < k ∧ 0 ≤ gti p.pots k ∧ gti p.pots k ≤ 1073741824 → ∀ j, j < k + 1 → okS n w (gti p.st j) ∧ ¬ zc2 p.st (gti p.st j) < j ∧ 0 ≤ gti p.pots j ∧ gti p.pots j ≤ 1073741824 := fun h j hj => by
  by_cases e : j = k
  ·
   subst e; exact h
  ·
   exact hall j (by omega)
 generalize gti p.st k = s at his hS hF hnv hnx
 generalize gti p.pots k = q at hip hnv hnx
 by_cases hst : zct n w s = true
 rotate_left 1
 ·
  rw [show zct n w s = false by simpa using hst] at hS
  refine zdj hmix ?_
  refine zde (by kernel_rfl) ?_
  refine qx_w ta24 ti24 rfl (qx_s rfl (qx_f za9 rfl (qx_l ta28 rfl (qx_s rfl (zba rfl rfl (zaa rfl) (za1 rfl ts28 ti29 rfl rfl rfl his rfl) (qx_l ta29 rfl (zba rfl rfl (zaa rfl) (zav rfl rfl (hS) (zar rfl (zar rfl (zar rfl za0)))) (zba rfl rfl (zaa rfl) (zbh rfl rfl) (qx_s rfl (qx_z rfl (qx_z rfl (qx_z rfl (qx_z rfl (qx_z rfl (qx_z rfl (qx_z rfl (qx_z rfl (qx_z rfl (qx_z rfl (qx_s rfl (qx_s rfl (qx_z rfl (qx_z rfl (qx_z rfl (qx_z rfl (qx_z rfl (qx_z rfl (qx_s rfl (qx_s rfl (qx_z rfl (qx_z rfl (qx_z rfl ?_))))))))))))))))))))))))))))))))
  refine qx_z rfl (qx_z rfl (qx_z rfl (qx_s rfl ?_)))
  refine qx_nil ?_
  refine zak (zbl rfl (zaf (zae (zbe rfl (zaj (zak ?_))))))
  (refine zbd ?_; repeat (first | refine zbn ?_ | refine zbo ?_))
  exact zcb (.inr rfl) rfl (congrArg eB (hRf (fun h => hst (hnv h).1)).symm)
 rw [hst] at hS
 have hbad : (zc2 p.st s < k ∨ q < 0 ∨ 1073741824 < q) → R = false := fun h => hRf (fun hv => by have := (hnv hv).2; omega)
 have hok2 : okS n w s := hst
 replace hnx := fun h => hnx ⟨hok2, h⟩
 generalize zc2 p.st s = fi at hF hbad hnx
 by_cases g1 : fi < k
 ·
  refine zdj hmix ?_
  refine zde (by kernel_rfl) ?_
  refine qx_w ta24 ti24 rfl (qx_s rfl (qx_f za9 rfl (qx_l ta28 rfl (qx_s rfl (zba rfl rfl (zaa rfl) (za1 rfl ts28 ti29 rfl rfl rfl his rfl) (qx_l ta29 rfl (zba rfl rfl (zaa rfl) (zav rfl rfl (hS) (zar rfl (zar rfl (zar rfl za0)))) (zba rfl rfl (zaa rfl) (zbh rfl rfl) (qx_s rfl (qx_f za9 rfl (qx_l ta28 rfl (qx_f za9 rfl (qx_l ta28 rfl (qx_s rfl (zba rfl rfl (zau rfl rfl rfl) (za1 rfl ts28 ti29 rfl rfl rfl his rfl) (qx_l ta29 rfl (zba rfl rfl (zau rfl rfl rfl) (zav rfl rfl (hF) (zar rfl (zar rfl za0))) ?_)))))))))))))))))
  refine qx_s rfl (zba rfl rfl (zau rfl rfl rfl) (zck g1 (zb3 rfl rfl rfl)) (qx_s rfl (qx_s rfl (qx_z rfl (qx_z rfl (qx_z rfl (qx_z rfl (qx_z rfl (qx_z rfl (qx_s rfl (qx_s rfl (qx_z rfl (qx_z rfl (qx_z rfl (qx_z rfl (qx_z rfl (qx_z rfl (qx_s rfl ?_))))))))))))))))))
  refine qx_nil ?_
  refine zak (zbl rfl (zaf (zae (zbe rfl (zaj (zak ?_))))))
  (refine zbd ?_; repeat (first | refine zbn ?_ | refine zbo ?_))
  exact zcb (.inr rfl) rfl (congrArg eB (hbad (.inl g1)).symm)
 by_cases g2 : q < 0
 ·
  refine zdj hmix ?_
  refine zde (by kernel_rfl) ?_
  refine qx_w ta24 ti24 rfl (qx_s rfl (qx_f za9 rfl (qx_l ta28 rfl (qx_s rfl (zba rfl rfl (zaa rfl) (za1 rfl ts28 ti29 rfl rfl rfl his rfl) (qx_l ta29 rfl (zba rfl rfl (zaa rfl) (zav rfl rfl (hS) (zar rfl (zar rfl (zar rfl za0)))) (zba rfl rfl (zaa rfl) (zbh rfl rfl) (qx_s rfl (qx_f za9 rfl (qx_l ta28 rfl (qx_f za9 rfl (qx_l ta28 rfl (qx_s rfl (zba rfl rfl (zau rfl rfl rfl) (za1 rfl ts28 ti29 rfl rfl rfl his rfl) (qx_l ta29 rfl (zba rfl rfl (zau rfl rfl rfl) (zav rfl rfl (hF) (zar rfl (zar rfl za0))) ?_)))))))))))))))))
  refine qx_s rfl (zba rfl rfl (zau rfl rfl rfl) (zc7 g1 (zb3 rfl rfl rfl)) (qx_s rfl (qx_s rfl (qx_f zdl rfl (qx_l ta29 rfl (qx_s rfl (zba rfl rfl (zau rfl rfl rfl) (za1 rfl ts29 ti3 rfl rfl rfl hip rfl) (qx_l ta3 rfl (zba rfl rfl (zau rfl rfl rfl) (zck g2 (zb3 rfl rfl rfl)) (qx_s rfl (qx_s rfl (qx_z rfl (qx_z rfl (qx_z rfl (qx_z rfl (qx_z rfl (qx_z rfl (qx_s rfl ?_))))))))))))))))))
  refine qx_nil ?_
  refine zak (zbl rfl (zaf (zae (zbe rfl (zaj (zak ?_))))))
  (refine zbd ?_; repeat (first | refine zbn ?_ | refine zbo ?_))
  exact zcb (.inr rfl) rfl (congrArg eB (hbad (.inr (.inl g2))).symm)
 by_cases g3 : q > 1073741824
 ·
  refine zdj hmix ?_
  refine zde (by kernel_rfl) ?_
  refine qx_w ta24 ti24 rfl (qx_s rfl (qx_f za9 rfl (qx_l ta28 rfl (qx_s rfl (zba rfl rfl (zaa rfl) (za1 rfl ts28 ti29 rfl rfl rfl his rfl) (qx_l ta29 rfl (zba rfl rfl (zaa rfl) (zav rfl rfl (hS) (zar rfl (zar rfl (zar rfl za0)))) (zba rfl rfl (zaa rfl) (zbh rfl rfl) (qx_s rfl (qx_f za9 rfl (qx_l ta28 rfl (qx_f za9 rfl (qx_l ta28 rfl (qx_s rfl (zba rfl rfl (zau rfl rfl rfl) (za1 rfl ts28 ti29 rfl rfl rfl his rfl) (qx_l ta29 rfl (zba rfl rfl (zau rfl rfl rfl) (zav rfl rfl (hF) (zar rfl (zar rfl za0))) ?_)))))))))))))))))
  refine qx_s rfl (zba rfl rfl (zau rfl rfl rfl) (zc7 g1 (zb3 rfl rfl rfl)) (qx_s rfl (qx_s rfl (qx_f zdl rfl (qx_l ta29 rfl (qx_s rfl (zba rfl rfl (zau rfl rfl rfl) (za1 rfl ts29 ti3 rfl rfl rfl hip rfl) (qx_l ta3 rfl (zba rfl rfl (zau rfl rfl rfl) (zc7 g2 (zb3 rfl rfl rfl)) (qx_s rfl (qx_s rfl (qx_f zdl rfl (qx_l ta29 rfl (qx_s rfl (zba rfl rfl (zau rfl rfl rfl) (za1 rfl ts29 ti3 rfl rfl rfl hip rfl) (qx_l ta3 rfl (zba rfl rfl (zau rfl rfl rfl) (zck g3 (zb6 rfl rfl rfl)) (qx_s rfl ?_))))))))))))))))))
  refine qx_nil ?_
  refine zak (zbl rfl (zaf (zae (zbe rfl (zaj (zak ?_))))))
  (refine zbd ?_; repeat (first | refine zbn ?_ | refine zbo ?_))
  exact zcb (.inr rfl) rfl (congrArg eB (hbad (.inr (.inr g3))).symm)
 refine zdj hmix ?_
 refine zde (by kernel_rfl) ?_
 refine qx_w ta24 ti24 rfl (qx_s rfl (qx_f za9 rfl (qx_l ta28 rfl (qx_s rfl (zba rfl rfl (zaa rfl) (za1 rfl ts28 ti29 rfl rfl rfl his rfl) (qx_l ta29 rfl (zba rfl rfl (zaa rfl) (zav rfl rfl (hS) (zar rfl (zar rfl (zar rfl za0)))) (zba rfl rfl (zaa rfl) (zbh rfl rfl) (qx_s rfl (qx_f za9 rfl (qx_l ta28 rfl (qx_f za9 rfl (qx_l ta28 rfl (qx_s rfl (zba rfl rfl (zau rfl rfl rfl) (za1 rfl ts28 ti29 rfl rfl rfl his rfl) (qx_l ta29 rfl (zba rfl rfl (zau rfl rfl rfl) (zav rfl rfl (hF) (zar rfl (zar rfl za0))) ?_)))))))))))))))))
 refine qx_s rfl (zba rfl rfl (zau rfl rfl rfl) (zc7 g1 (zb3 rfl rfl rfl)) (qx_s rfl (qx_s rfl (qx_f zdl rfl (qx_l ta29 rfl (qx_s rfl (zba rfl rfl (zau rfl rfl rfl) (za1 rfl ts29 ti3 rfl rfl rfl hip rfl) (qx_l ta3 rfl (zba rfl rfl (zau rfl rfl rfl) (zc7 g2 (zb3 rfl rfl rfl)) (qx_s rfl (qx_s rfl (qx_f zdl rfl (qx_l ta29 rfl (qx_s rfl (zba rfl rfl (zau rfl rfl rfl) (za1 rfl ts29 ti3 rfl rfl rfl hip rfl) (qx_l ta3 rfl (zba rfl rfl (zau rfl rfl rfl) (zc7 g3 (zb6 rfl rfl rfl)) (qx_s rfl ?_))))))))))))))))))
 refine qx_nil ?_
 refine zak (za6 rfl (zad (zal (zak (zae (zbe rfl (zab rfl rfl (zaa rfl) (zbj rfl rfl rfl (IntWalk.i64_in _ (by omega))) (zbe rfl (zaj (zak ?_))))))))))
 exact ⟨k + 1, ⟨by omega, hnx ⟨g1, by omega, by omega⟩⟩, by omega, zdk _ ⟨rfl, rfl, rfl, rfl, trivial⟩⟩
end Go.Proofs.YtjhdcgaiccnmeaaGreatDoor.Aw
end
section
namespace Go.Proofs.YtjhdcgaiccnmeaaGreatDoor.Aw
open Go Go.RowKit Go.Proofs Go.Maps Go.WideMaps Dl
variable {P : Program} [IsP P]
end Go.Proofs.YtjhdcgaiccnmeaaGreatDoor.Aw
end
section
namespace Go.Proofs.YtjhdcgaiccnmeaaGreatDoor.Aw
open Go Go.RowKit Go.Proofs Go.Maps Go.WideMaps Dl
variable {P : Program} [IsP P]
end Go.Proofs.YtjhdcgaiccnmeaaGreatDoor.Aw
end
section
namespace Go.Proofs.YtjhdcgaiccnmeaaGreatDoor.Dl
open Go.RowKit
def revL (M : List Edg) : List Edg := (M.map flp).reverse
def farI (k : Nat) : List Int := (List.replicate k 4503599627370496).set 0 0
theorem mem_revL {M : List Edg} {e : Edg} : e ∈ revL M ↔ flp e ∈ M := by
 unfold revL
 rw [List.mem_reverse, List.mem_map]
 constructor
 ·
  rintro ⟨x, hx, rfl⟩; exact hx
 ·
  intro h; exact ⟨flp e, h, rfl⟩
end Go.Proofs.YtjhdcgaiccnmeaaGreatDoor.Dl
namespace Go.Proofs.YtjhdcgaiccnmeaaGreatDoor.Aw
open Go Go.RowKit Go.Proofs Go.Maps Go.WideMaps Dl
variable {P : Program} [IsP P]
end Go.Proofs.YtjhdcgaiccnmeaaGreatDoor.Aw
end
