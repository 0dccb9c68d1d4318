/-
  Texts joined: ShJ, EvG, OrcG, EvK. Conditions: none.
-/
import Derived.Test.YtmoipmnhgdmkpaaJQ10
import Derived.Test.YtmoipmnhgdmkpaaJQ9
import Derived.Test.YtmoipmnhgdmkpaaJQ5
import Derived.Test.YtmoipmnhgdmkpaaJQ7
section
namespace Go.Proofs.Ytmoipmnhgdmkpaa.Aw
set_option linter.unusedSimpArgs false
set_option linter.unusedVariables false
set_option linter.unusedSectionVars false
open Go.RowKit Go.Proofs
variable {P : Program} [IsP P]

abbrev Tr := List Fr × Int × Int
def tA (T : List Tr) : List (List Fr) := T.map Prod.fst
def tR (T : List Tr) : List Int := T.map fun t => t.2.1
def tB (T : List Tr) : List Fr := T.map fun t => Fr.of t.2.2
theorem tA_snoc (T : List Tr) (u : List Fr) (r v : Int) : tA (T ++ [(u, r, v)]) = tA T ++ [u] := by simp [tA]
theorem tR_snoc (T : List Tr) (u : List Fr) (r v : Int) : tR (T ++ [(u, r, v)]) = tR T ++ [r] := by simp [tR]
theorem tB_snoc (T : List Tr) (u : List Fr) (r v : Int) : tB (T ++ [(u, r, v)]) = tB T ++ [Fr.of v] := by simp [tB]
def uD (l : List Sft) (k : Nat) : List Fr := unitL l.length fun i => inB (gti l i).pd k
def uK (l : List Sft) (k : Nat) : List Fr := unitL l.length fun i => decide (i = k)
def t1 (d : List Int) (l : List Sft) : Nat → List Tr
  | 0 => []
  | n + 1 => t1 d l n ++ if 0 < gti d n then [(uD l n, 2, gti d n)] else []
def pe1 (d : List Int) : Nat → List Int
  | 0 => []
  | n + 1 => pe1 d n ++ if 0 < gti d n then [(n : Int)] else []
def t2 (d : List Int) (l : List Sft) (lo hi : List Int) : Nat → List Tr
  | 0 => t1 d l d.length
  | n + 1 => (t2 d l lo hi n ++ [(uK l n, 1, gti hi n)]) ++ if 0 < gti lo n then [(uK l n, 2, gti lo n)] else []
theorem t1_len (d : List Int) (l : List Sft) : ∀ n, (t1 d l n).length ≤ n
  | 0 => by simp [t1]
  | n + 1 => by
    have := t1_len d l n
    unfold t1
    split <;> simp <;> omega
theorem t2_len (d : List Int) (l : List Sft) (lo hi : List Int) : ∀ n, (t2 d l lo hi n).length ≤ d.length + 2 * n
  | 0 => by have := t1_len d l d.length; simpa [t2] using this
  | n + 1 => by
    have := t2_len d l lo hi n
    unfold t2
    split <;> simp <;> omega
theorem pe1_len (d : List Int) : ∀ n, (pe1 d n).length ≤ n
  | 0 => by simp [pe1]
  | n + 1 => by
    have := pe1_len d n
    unfold pe1
    split <;> simp <;> omega
def costL (l : List Sft) : List Fr := l.map fun s => Fr.of s.cost
theorem costL_len (l : List Sft) : (costL l).length = l.length := by simp [costL]
theorem costL_gti {l : List Sft} {k : Nat} (h : k < l.length) : gti (costL l) k = Fr.of (gti l k).cost := by
  have h1 : (costL l)[k]? = some (Fr.of (gti l k).cost) := by
    unfold costL
    rw [List.getElem?_map, gti_get h]; rfl
  unfold gti at *
  rw [h1]; rfl
def prgE (d : List Int) (l : List Sft) (lo hi : List Int) : LP := ⟨costL l, tA (t2 d l lo hi l.length), tR (t2 d l lo hi l.length), tB (t2 d l lo hi l.length)⟩
theorem post_cs {N : Nat} {F : Frm} {σ : List Ob} {ad u : Nat} {ty : TypeId} {id sz k n bt : Nat} {z : Option Value} {ob : Ob} {cs : List AV} {e1 r1 y r2 : AV} {e : Exit} (he : e = .normal ∨ e = .ret) (ha : tyAgg P ty = some true) (hi : zbs P ty = some (z, n, bt)) (hp : F.get ad = .ptr id sz k 0) (hs : σ[id]? = some ob) (ho : rowOf ob = some (sz, cs)) (hk : cs[k]? = some e1) (hn : e1.cells.length = n) (hu : F.get u = y) (hr1 : Fini σ (.agg e1.cells) r1) (hr2 : Fini σ y r2) : APost P [.cell ad ty, .tmp u] (.tup [r1, r2]) e F σ :=
  ⟨he, [.agg e1.cells, y], .cons _ _ _ _ (.cells ad ty id sz k n bt z ob cs e1 ha hi hp hs ho hk hn) (.cons _ _ _ _ (.tmp u y hu) .nil), .tup _ _ rfl (FiniL.cons hr1 (FiniL.cons hr2 FiniL.nil)).2⟩
def zP : AV := .agg [.s (.slice none 0 0), .s (.slice none 0 0), .s (.slice none 0 0), .s (.slice none 0 0)]
theorem zP_lo : ∀ e ∈ [zP], ∀ c ∈ e.cells, Lo 0 c := by
  intro e he c hc
  simp at he; subst he
  simp [zP, AV.cells] at hc; subst hc; exact .s _
/-- the store while a program is made -/
def stP (C : List Fr) (T : List Tr) (pe : List Int) : List Ob := [.row 4 [pgS 1 2 3 4 C (tA T) (tR T) (tB T)], .row 2 (C.map eF), .row 1 ((tA T).map (eL eF)), .row 1 ((tR T).map eI), .row 2 ((tB T).map eF), .row 4 [zP], .row 1 (pe.map eI)]
/-- the store after a row was added -/
def stQ (C : List Fr) (T : List Tr) (pe : List Int) : List Ob := [.row 4 [pgS 1 7 8 9 C (tA T) (tR T) (tB T)], .row 2 (C.map eF), .dead, .dead, .dead, .row 4 [zP], .row 1 (pe.map eI), .row 1 ((tA T).map (eL eF)), .row 1 ((tR T).map eI), .row 2 ((tB T).map eF)]
theorem prog1T (l : List Sft) (hl : l.length ≤ 12) (C : List Fr) (T : List Tr) (hT : T.length ≤ 60) (pe : List Int) (f : FuncId) (caps : List AV) (p : Nat → Bool) (hlc : Lo 0 (.fn f caps)) (hf : ∀ i, i < l.length → Pure P f ([eI i] ++ caps) (eB (p i))) (rel v : Int) :
    CallE P 43 [.fn f caps, eI rel, eI v, .ptr 0 4 0 0, .ref [eL eSh l]] (stP C T pe) (.tup []) (stQ C (T ++ [(unitL l.length p, rel, v)]) pe) := by
  have h := prog1_call (P := P) l.length hl l rfl C (tA T) (tR T) (tB T) (by simpa [tA] using hT) (by simpa [tR] using hT) (by simpa [tB] using hT) (.row 4 [zP]) (.row 1 (pe.map eI)) f caps p hlc hf rel v
  unfold stQ stP
  rw [tA_snoc, tR_snoc, tB_snoc]
  exact h
set_option maxHeartbeats 8000000 in
theorem program_pf (d : List Int) (l : List Sft) (lo hi : List Int) (hv : validS d l = true) (hlo : lo.length = l.length) (hhi : hi.length = l.length) : Pure P 31 [eL eI d, eL eSh l, eBx lo hi] (.tup [eP (prgE d l lo hi), eL eI (pe1 d d.length)]) := by
  obtain ⟨⟨q1, q2, q3⟩, qd, ql⟩ := validS_iff hv
  have hlL : Lo 0 (.ref [eL eSh l]) := (by repeat' (first | exact Lo.s _ | exact zai | refine zad ?_ ?_ | refine zak ?_ | refine Lo.cells ?_ | refine Lo.agg _ ?_ | refine Lo.ref _ ?_ | refine Lo.tup _ ?_ | refine Lo.fn _ _ ?_ | refine Lo.sl _ ?_ | intro _))
  refine aw_fn (by rw [IsP.eq (P := P)]; exact Try.func31) rfl rfl rfl rfl rfl (by repeat' (first | exact Lo.s _ | exact zai | refine zad ?_ ?_ | refine zak ?_ | refine Lo.cells ?_ | refine Lo.agg _ ?_ | refine Lo.ref _ ?_ | refine Lo.tup _ ?_ | refine Lo.fn _ _ ?_ | refine Lo.sl _ ?_ | intro _)) (by repeat' (first | exact Lo.s _ | exact zai | refine zad ?_ ?_ | refine zak ?_ | refine Lo.cells ?_ | refine Lo.agg _ ?_ | refine Lo.ref _ ?_ | refine Lo.tup _ ?_ | refine Lo.fn _ _ ?_ | refine Lo.sl _ ?_ | intro _)) (by simp only [argF]; rfl) ?_
  repeat (first | refine zag ?_ | refine zap ?_ | refine zae ?_ | refine zar ?_ | refine zac ?_)
  refine zaf ?_
  refine zab rfl rfl (zaa rfl) (does_box rfl rfl rfl rfl) ?_
  refine zbo (wk_froz (id := 0) rfl) (zbo (wk_ref (d := 4) rfl rfl rfl) ?_)
  refine zab rfl rfl (zaa rfl) (does_box rfl rfl rfl rfl) ?_
  refine zbo (wk_froz (id := 1) rfl) (zbo (wk_ref (d := 5) rfl rfl rfl) ?_)
  refine zab rfl rfl (zaa rfl) (zbt rfl ti49 rfl rfl) ?_
  first | refine zab rfl rfl (zaa rfl) (za9 (.inr rfl) rfl) ?_ | refine zab rfl rfl (zaa rfl) (zbp (.inr rfl) rfl) ?_ | refine zab rfl rfl (zaa rfl) (mv_s (.inr rfl) rfl) ?_ | refine zab rfl rfl (zaa rfl) (zba (.inr rfl) rfl) ?_
  refine zam ?_
  repeat (first | refine zag ?_ | refine zap ?_ | refine zae ?_ | refine zar ?_ | refine zac ?_)
  refine zaf ?_
  refine zab rfl rfl (zaa rfl) (zbt rfl ti49 rfl rfl) ?_
  refine zam ?_
  repeat (first | refine zag ?_ | refine zap ?_ | refine zae ?_ | refine zar ?_ | refine zac ?_)
  refine zaf ?_
  first | refine zab rfl rfl (zaa rfl) (za9 (.inr rfl) rfl) ?_ | refine zab rfl rfl (zaa rfl) (zbp (.inr rfl) rfl) ?_ | refine zab rfl rfl (zaa rfl) (mv_s (.inr rfl) rfl) ?_ | refine zab rfl rfl (zaa rfl) (zba (.inr rfl) rfl) ?_
  refine zam ?_
  repeat (first | refine zag ?_ | refine zap ?_ | refine zae ?_ | refine zar ?_ | refine zac ?_)
  refine zaf ?_
  first | refine zab rfl rfl (zaa rfl) (zan rfl ta23 rfl) ?_ | refine zab rfl rfl (zaa rfl) (zas rfl ta23 rfl rfl rfl rfl rfl) ?_
  first | refine zab rfl rfl (zaa rfl) (za3 rfl ts23 rfl) ?_ | refine zab rfl rfl (zaa rfl) (za8 rfl ts23 rfl) ?_ | refine zab rfl rfl (zaa rfl) (za0 rfl ts23 rfl) ?_ | refine zab rfl rfl (zaa rfl) (zbe rfl ts23 rfl) ?_ | refine zab rfl rfl (zaa rfl) (za1 rfl ts23 rfl) ?_
  refine zab rfl rfl (zaa rfl) (mv_s (.inl rfl) rfl) ?_
  refine zam ?_
  repeat (first | refine zag ?_ | refine zap ?_ | refine zae ?_ | refine zar ?_ | refine zac ?_)
  refine aw_weak (wk_ownC (id := 3) (sz2 := 2) (e' := .agg [.own 4 2 0, .s (.slice none 0 0), .s (.slice none 0 0), .s (.slice none 0 0)]) (pre := []) (post := [.s (.slice none 0 0), .s (.slice none 0 0), .s (.slice none 0 0)]) rfl rfl rfl) ?_
  refine aw_weak (wk_ownC (id := 3) (sz2 := 1) (e' := .agg [.own 4 2 0, .own 5 1 0, .s (.slice none 0 0), .s (.slice none 0 0)]) (pre := [.own 4 2 0]) (post := [.s (.slice none 0 0), .s (.slice none 0 0)]) rfl rfl rfl) ?_
  refine aw_weak (wk_ownC (id := 3) (sz2 := 1) (e' := .agg [.own 4 2 0, .own 5 1 0, .own 6 1 0, .s (.slice none 0 0)]) (pre := [.own 4 2 0, .own 5 1 0]) (post := [.s (.slice none 0 0)]) rfl rfl rfl) ?_
  refine aw_weak (wk_ownC (id := 3) (sz2 := 2) (e' := .agg [.own 4 2 0, .own 5 1 0, .own 6 1 0, .own 7 2 0]) (pre := [.own 4 2 0, .own 5 1 0, .own 6 1 0]) (post := []) rfl rfl rfl) ?_
  refine aw_weak (wk_own (d := 9) 1 rfl (.inr rfl)) ?_
  refine aw_loops (S := Nat) (fun k => [(0, eL eI d), (4, .ref [eL eSh l]), (5, .ref (eBx lo hi).cells), (6, .ptr 5 4 0 0), (8, .ptr 0 4 0 0), (9, .own 6 1 0), (16, eL eSh l), (17, eI l.length), (18, eI k)]) (fun k => stP ((costL l).take k) [] []) (fun k => k ≤ l.length) (fun k => l.length - k) 0
    (wk_st [3, 4, 5, 6, 7, 2, 8] (by decide) ⟨⟨_, rfl, obRn_agg (.cons (.own _ _ _ _ _ rfl rfl) (.cons (.own _ _ _ _ _ rfl rfl) (.cons (.own _ _ _ _ _ rfl rfl) (.cons (.own _ _ _ _ _ rfl rfl) .nil))))⟩, ⟨_, rfl, .rowE (by repeat' (first | exact Lo.s _ | exact zai | exact zbf | refine zad ?_ ?_ | refine za5 ?_ ?_ | refine zak ?_ | refine zbg ?_ | refine Lo.cells ?_ | refine Lo.agg _ ?_ | refine Lo.sl _ ?_ | intro _)) rfl⟩, ⟨_, rfl, .rowE (by repeat' (first | exact Lo.s _ | exact zai | exact zbf | refine zad ?_ ?_ | refine za5 ?_ ?_ | refine zak ?_ | refine zbg ?_ | refine Lo.cells ?_ | refine Lo.agg _ ?_ | refine Lo.sl _ ?_ | intro _)) rfl⟩, ⟨_, rfl, .rowE (by repeat' (first | exact Lo.s _ | exact zai | exact zbf | refine zad ?_ ?_ | refine za5 ?_ ?_ | refine zak ?_ | refine zbg ?_ | refine Lo.cells ?_ | refine Lo.agg _ ?_ | refine Lo.sl _ ?_ | intro _)) rfl⟩, ⟨_, rfl, .rowE (by repeat' (first | exact Lo.s _ | exact zai | exact zbf | refine zad ?_ ?_ | refine za5 ?_ ?_ | refine zak ?_ | refine zbg ?_ | refine Lo.cells ?_ | refine Lo.agg _ ?_ | refine Lo.sl _ ?_ | intro _)) rfl⟩, ⟨_, rfl, .rowE zP_lo rfl⟩, ⟨_, rfl, .rowE (by repeat' (first | exact Lo.s _ | exact zai | exact zbf | refine zad ?_ ?_ | refine za5 ?_ ?_ | refine zak ?_ | refine zbg ?_ | refine Lo.cells ?_ | refine Lo.agg _ ?_ | refine Lo.sl _ ?_ | intro _)) rfl⟩, trivial⟩ ⟨.lo _ (by repeat' (first | exact Lo.s _ | exact zai | refine zad ?_ ?_ | refine zak ?_ | refine Lo.cells ?_ | refine Lo.agg _ ?_ | refine Lo.ref _ ?_ | refine Lo.tup _ ?_ | refine Lo.fn _ _ ?_ | refine Lo.sl _ ?_ | intro _)), .lo _ hlL, .lo _ (by repeat' (first | exact Lo.s _ | exact zai | refine zad ?_ ?_ | refine zak ?_ | refine Lo.cells ?_ | refine Lo.agg _ ?_ | refine Lo.ref _ ?_ | refine Lo.tup _ ?_ | refine Lo.fn _ _ ?_ | refine Lo.sl _ ?_ | intro _)), .ptr 2 5 4 0 0 rfl, .ptr 3 0 4 0 0 rfl, .own 8 6 1 _ _ rfl rfl, .lo _ (by repeat' (first | exact Lo.s _ | exact zai | refine zad ?_ ?_ | refine zak ?_ | refine Lo.cells ?_ | refine Lo.agg _ ?_ | refine Lo.ref _ ?_ | refine Lo.tup _ ?_ | refine Lo.fn _ _ ?_ | refine Lo.sl _ ?_ | intro _)), .lo _ (by repeat' (first | exact Lo.s _ | exact zai | refine zad ?_ ?_ | refine zak ?_ | refine Lo.cells ?_ | refine Lo.agg _ ?_ | refine Lo.ref _ ?_ | refine Lo.tup _ ?_ | refine Lo.fn _ _ ?_ | refine Lo.sl _ ?_ | intro _)), .lo _ (by repeat' (first | exact Lo.s _ | exact zai | refine zad ?_ ?_ | refine zak ?_ | refine Lo.cells ?_ | refine Lo.agg _ ?_ | refine Lo.ref _ ?_ | refine Lo.tup _ ?_ | refine Lo.fn _ _ ?_ | refine Lo.sl _ ?_ | intro _)), trivial⟩) (Nat.zero_le _) (fun k hk => ?_)
  have hcl := costL_len l
  repeat (first | refine zag ?_ | refine zap ?_ | refine zae ?_ | refine zar ?_ | refine zac ?_)
  all_goals refine zaf ?_
  all_goals (first | refine zbm rfl rfl (zaa rfl) (zbh rfl rfl rfl) (fun h19 => ?_) (fun h19 => ?_) | refine zbn rfl rfl (zaa rfl) (zbh rfl rfl rfl) (fun h19 => ?_) (fun h19 => ?_))
  all_goals refine zam ?_
  all_goals (repeat (first | refine zag ?_ | refine zap ?_ | refine zae ?_ | refine zar ?_ | refine zac ?_))
  all_goals (first | refine zbv rfl ?_ | refine zbr rfl ?_)
  all_goals (repeat (first | refine zag ?_ | refine zap ?_ | refine zae ?_ | refine zar ?_ | refine zac ?_))
  · have hlt : k < l.length := by omega
    have htk : (((costL l).take k).map eF).length = k := by simp; omega
    have hrow : ((costL l).take (k + 1)).map eF = ((costL l).take k).map eF ++ [eF (Fr.of (gti l k).cost)] := by
      rw [take_snoc (by omega), List.map_append, costL_gti hlt]; rfl
    have hrl : (((costL l).take (k + 1)).map eF).length = (((costL l).take k).map eF).length + 1 := by rw [hrow]; simp
    refine zaf ?_
    first | refine zab rfl rfl (zaa rfl) (zaz rfl ts23 ti39 rfl rfl rfl (ix_map (by omega)) rfl) ?_ | refine zab rfl rfl (zaa rfl) (zay rfl ts23 ti39 rfl rfl rfl (by omega)) ?_
    first | refine zab rfl rfl (zaa rfl) (zax rfl ta39 ti39 rfl rfl) ?_ | refine zab rfl rfl (zaa rfl) (za6 rfl ta39 ti39 rfl rfl rfl rfl rfl) ?_ | refine zab rfl rfl (zaa rfl) (zav rfl ta39 ti39 rfl (Nat.le_of_ble_eq_true rfl)) ?_ | refine zab rfl rfl (zaa rfl) (za7 rfl ta39 ti39 rfl rfl rfl rfl (Nat.le_of_ble_eq_true rfl)) ?_
    refine zab rfl rfl (zaa rfl) (zbt rfl ti39 rfl rfl) ?_
    refine ops_eff rfl (zaa rfl) (zbd rfl ti39 rfl rfl rfl rfl rfl rfl (by decide) (by decide)) ?_
    refine zam ?_
    repeat (first | refine zag ?_ | refine zap ?_ | refine zae ?_ | refine zar ?_ | refine zac ?_)
    refine aw_weak (wk_froz (id := 7) rfl) ?_
    refine aw_weak (wk_ref (d := 11) rfl rfl rfl) ?_
    all_goals refine aw_draw hmix ?_
    all_goals refine adraw_ex ?_
    all_goals (first | refine zaq rfl rfl (zaa rfl) (fun _ => (zao rfl tf49_0 (by decide) rfl)) ?_ | refine zaq rfl rfl (zaa rfl) (fun _ => (zal rfl tf49_0 (by decide) rfl)) ?_)
    all_goals (first | refine zaq rfl rfl (zaa rfl) (fun _ => (zan rfl ta27 rfl)) ?_ | refine ex_look rfl rfl (zaa rfl) (look_ptr rfl ta27 rfl rfl rfl rfl rfl) ?_)
    all_goals (first | refine zaq rfl rfl (zaa rfl) (fun _ => (zao rfl tf39_1 (by decide) rfl)) ?_ | refine zaq rfl rfl (zaa rfl) (fun _ => (zal rfl tf39_1 (by decide) rfl)) ?_)
    all_goals (first | refine zaq rfl rfl (zaa rfl) (fun _ => (zan rfl ta3 rfl)) ?_ | refine ex_look rfl rfl (zaa rfl) (look_ptr rfl ta3 rfl rfl rfl rfl rfl) ?_)
    all_goals refine zaq rfl rfl (zaa rfl) (fun _ => (za2 rfl rfl ((whole_pf _)) (zat rfl zbl))) ?_
    all_goals (first | refine zaq rfl rfl (zaa rfl) (fun _ => (lit1_sF rfl ts27 ti59 rfl rfl rfl rfl)) ?_ | refine zaq rfl rfl (zaa rfl) (fun _ => (lit1_slF rfl ts27 ti59 rfl rfl rfl rfl (by repeat' (first | exact Lo.s _ | exact zai | refine zad ?_ ?_ | refine zak ?_ | refine Lo.cells ?_ | refine Lo.agg _ ?_ | refine Lo.ref _ ?_ | refine Lo.tup _ ?_ | refine Lo.fn _ _ ?_ | refine Lo.sl _ ?_ | intro _)))) ?_ | refine zaq rfl rfl (zaa rfl) (fun _ => (does_litAF rfl ts27 ti59 rfl rfl (by decide) (by decide) rfl rfl rfl (by repeat' (first | exact Lo.s _ | exact zai | refine zad ?_ ?_ | refine zak ?_ | refine Lo.cells ?_ | refine Lo.agg _ ?_ | refine Lo.ref _ ?_ | refine Lo.tup _ ?_ | refine Lo.fn _ _ ?_ | refine Lo.sl _ ?_ | intro _)))) ?_)
    all_goals (first | refine ex_eff rfl rfl (zaa rfl) (does_append rfl ts27 ti59 rfl (by decide) rfl rfl (by first | rfl | (simp; done) | (simp; omega)) rfl (by first | exact .own _ _ _ rfl rfl _ (by first | rfl | simp) | exact .emp | exact .nil | exact .sl _ (by first | simp; done | intro e he; simp at he; obtain ⟨_, _, rfl⟩ := he; rfl)) (by first | omega | (simp; omega) | (unfold maxLen; simp; omega)) (by first | omega | (simp; omega) | (unfold maxLen; simp; omega))) (fun _ h => app2_other h) ?_ | refine ex_eff rfl rfl (zaa rfl) (does_append0 rfl ts27 ti59 rfl (by decide) rfl (.inl rfl) rfl (by first | exact .own _ _ _ rfl rfl _ (by first | rfl | simp) | exact .emp | exact .nil | exact .sl _ (by first | simp; done | intro e he; simp at he; obtain ⟨_, _, rfl⟩ := he; rfl)) (by first | omega | (simp; omega) | (unfold maxLen; simp; omega)) (by first | omega | (simp; omega) | (unfold maxLen; simp; omega))) (fun _ h => app_other h) ?_ | refine ex_eff rfl rfl (zaa rfl) (does_append0 rfl ts27 ti59 rfl (by decide) rfl (.inr rfl) rfl (by first | exact .own _ _ _ rfl rfl _ (by first | rfl | simp) | exact .emp | exact .nil | exact .sl _ (by first | simp; done | intro e he; simp at he; obtain ⟨_, _, rfl⟩ := he; rfl)) (by first | omega | (simp; omega) | (unfold maxLen; simp; omega)) (by first | omega | (simp; omega) | (unfold maxLen; simp; omega))) (fun _ h => app_other h) ?_)
    all_goals (first | refine zaq rfl rfl (zaa rfl) (fun _ => (zao rfl tf49_0 (by decide) rfl)) ?_ | refine zaq rfl rfl (zaa rfl) (fun _ => (zal rfl tf49_0 (by decide) rfl)) ?_)
    all_goals refine ex_eff0 rfl (zaa rfl) (zbd rfl ti27 rfl rfl rfl rfl rfl rfl (by decide) (by decide)) (fun _ h => set_other h) ?_
    all_goals refine ex_nil (by kernel_rfl) ?_
    all_goals (repeat (first | refine zag ?_ | refine zap ?_ | refine zae ?_ | refine zar ?_ | refine zac ?_))
    refine zaf ?_
    refine zab rfl rfl (zaa rfl) (does_add rfl rfl rfl (IntWalk.i64_in _ (by omega))) ?_
    refine zab rfl rfl (zaa rfl) (mv_s (.inl rfl) rfl) ?_
    refine zam ?_
    repeat (first | refine zag ?_ | refine zap ?_ | refine zae ?_ | refine zar ?_ | refine zac ?_)
    exact ⟨k + 1, by omega, by omega, wk_st [0, 8, 2, 3, 4, 5, 6] (by decide) ⟨⟨_, rfl, obRn_agg (.cons (.own _ _ _ _ _ rfl hrl.symm) (.cons (.own _ _ _ _ _ rfl rfl) (.cons (.own _ _ _ _ _ rfl rfl) (.cons (.own _ _ _ _ _ rfl rfl) .nil))))⟩, ⟨_, rfl, .rowE (by repeat' (first | exact Lo.s _ | exact zai | exact zbf | refine zad ?_ ?_ | refine za5 ?_ ?_ | refine zak ?_ | refine zbg ?_ | refine Lo.cells ?_ | refine Lo.agg _ ?_ | refine Lo.sl _ ?_ | intro _)) (Eq.trans (b := ((costL l).take k).map eF ++ [eF (Fr.of (gti l k).cost)]) rfl hrow.symm)⟩, ⟨_, rfl, .rowE (by repeat' (first | exact Lo.s _ | exact zai | exact zbf | refine zad ?_ ?_ | refine za5 ?_ ?_ | refine zak ?_ | refine zbg ?_ | refine Lo.cells ?_ | refine Lo.agg _ ?_ | refine Lo.sl _ ?_ | intro _)) rfl⟩, ⟨_, rfl, .rowE (by repeat' (first | exact Lo.s _ | exact zai | exact zbf | refine zad ?_ ?_ | refine za5 ?_ ?_ | refine zak ?_ | refine zbg ?_ | refine Lo.cells ?_ | refine Lo.agg _ ?_ | refine Lo.sl _ ?_ | intro _)) rfl⟩, ⟨_, rfl, .rowE (by repeat' (first | exact Lo.s _ | exact zai | exact zbf | refine zad ?_ ?_ | refine za5 ?_ ?_ | refine zak ?_ | refine zbg ?_ | refine Lo.cells ?_ | refine Lo.agg _ ?_ | refine Lo.sl _ ?_ | intro _)) rfl⟩, ⟨_, rfl, .rowE zP_lo rfl⟩, ⟨_, rfl, .rowE (by repeat' (first | exact Lo.s _ | exact zai | exact zbf | refine zad ?_ ?_ | refine za5 ?_ ?_ | refine zak ?_ | refine zbg ?_ | refine Lo.cells ?_ | refine Lo.agg _ ?_ | refine Lo.sl _ ?_ | intro _)) rfl⟩, trivial⟩ ⟨.lo _ (by repeat' (first | exact Lo.s _ | exact zai | refine zad ?_ ?_ | refine zak ?_ | refine Lo.cells ?_ | refine Lo.agg _ ?_ | refine Lo.ref _ ?_ | refine Lo.tup _ ?_ | refine Lo.fn _ _ ?_ | refine Lo.sl _ ?_ | intro _)), .lo _ hlL, .lo _ (by repeat' (first | exact Lo.s _ | exact zai | refine zad ?_ ?_ | refine zak ?_ | refine Lo.cells ?_ | refine Lo.agg _ ?_ | refine Lo.ref _ ?_ | refine Lo.tup _ ?_ | refine Lo.fn _ _ ?_ | refine Lo.sl _ ?_ | intro _)), .ptr 5 5 4 0 0 rfl, .ptr 0 0 4 0 0 rfl, .own 6 6 1 _ _ rfl rfl, .lo _ (by repeat' (first | exact Lo.s _ | exact zai | refine zad ?_ ?_ | refine zak ?_ | refine Lo.cells ?_ | refine Lo.agg _ ?_ | refine Lo.ref _ ?_ | refine Lo.tup _ ?_ | refine Lo.fn _ _ ?_ | refine Lo.sl _ ?_ | intro _)), .lo _ (by repeat' (first | exact Lo.s _ | exact zai | refine zad ?_ ?_ | refine zak ?_ | refine Lo.cells ?_ | refine Lo.agg _ ?_ | refine Lo.ref _ ?_ | refine Lo.tup _ ?_ | refine Lo.fn _ _ ?_ | refine Lo.sl _ ?_ | intro _)), .lo _ (by repeat' (first | exact Lo.s _ | exact zai | refine zad ?_ ?_ | refine zak ?_ | refine Lo.cells ?_ | refine Lo.agg _ ?_ | refine Lo.ref _ ?_ | refine Lo.tup _ ?_ | refine Lo.fn _ _ ?_ | refine Lo.sl _ ?_ | intro _)), trivial⟩⟩
  (refine aw_exit ?_; repeat (first | refine ath_x ?_ | refine abl_hit ?_ | refine abl_miss rfl ?_ | refine zar ?_ | refine zap ?_ | refine zag ?_ | refine zae ?_ | refine zac ?_))
  have e : (costL l).take k = costL l := List.take_of_length_le (by omega)
  rw [e]
  refine zaf ?_
  refine zab rfl rfl (zaa rfl) (does_func rfl rfl) ?_
  first | refine zab rfl rfl (zaa rfl) (mv_fn (.inr rfl) rfl) ?_ | refine zab rfl rfl (zaa rfl) (mv_s (.inr rfl) rfl) ?_
  refine zam ?_
  repeat (first | refine zag ?_ | refine zap ?_ | refine zae ?_ | refine zar ?_ | refine zac ?_)
  refine zaf ?_
  first | refine zab rfl rfl (zaa rfl) (za9 (.inl rfl) rfl) ?_ | refine zab rfl rfl (zaa rfl) (zbp (.inl rfl) rfl) ?_ | refine zab rfl rfl (zaa rfl) (mv_s (.inl rfl) rfl) ?_ | refine zab rfl rfl (zaa rfl) (zba (.inl rfl) rfl) ?_
  first | refine zab rfl rfl (zaa rfl) (za3 rfl ts22 rfl) ?_ | refine zab rfl rfl (zaa rfl) (za8 rfl ts22 rfl) ?_ | refine zab rfl rfl (zaa rfl) (za0 rfl ts22 rfl) ?_ | refine zab rfl rfl (zaa rfl) (zbe rfl ts22 rfl) ?_ | refine zab rfl rfl (zaa rfl) (za1 rfl ts22 rfl) ?_
  refine zab rfl rfl (zaa rfl) (mv_s (.inl rfl) rfl) ?_
  refine zam ?_
  repeat (first | refine zag ?_ | refine zap ?_ | refine zae ?_ | refine zar ?_ | refine zac ?_)
  refine aw_loops (S := Nat) (fun n => [(4, .ref [eL eSh l]), (5, .ref (eBx lo hi).cells), (6, .ptr 5 4 0 0), (8, .ptr 0 4 0 0), (9, .own 6 1 (pe1 d n).length), (12, .fn 43 [.ptr 0 4 0 0, .ref [eL eSh l]]), (32, eL eI d), (33, eI d.length), (34, eI n)]) (fun n => stP (costL l) (t1 d l n) (pe1 d n)) (fun n => n ≤ d.length) (fun n => d.length - n) 0
    (wk_st [0, 1, 2, 3, 4, 5, 6] (by decide) ⟨⟨_, rfl, obRn_agg (.cons (.own _ _ _ _ _ rfl rfl) (.cons (.own _ _ _ _ _ rfl rfl) (.cons (.own _ _ _ _ _ rfl rfl) (.cons (.own _ _ _ _ _ rfl rfl) .nil))))⟩, ⟨_, rfl, .rowE (by repeat' (first | exact Lo.s _ | exact zai | exact zbf | refine zad ?_ ?_ | refine za5 ?_ ?_ | refine zak ?_ | refine zbg ?_ | refine Lo.cells ?_ | refine Lo.agg _ ?_ | refine Lo.sl _ ?_ | intro _)) rfl⟩, ⟨_, rfl, .rowE (by repeat' (first | exact Lo.s _ | exact zai | exact zbf | refine zad ?_ ?_ | refine za5 ?_ ?_ | refine zak ?_ | refine zbg ?_ | refine Lo.cells ?_ | refine Lo.agg _ ?_ | refine Lo.sl _ ?_ | intro _)) rfl⟩, ⟨_, rfl, .rowE (by repeat' (first | exact Lo.s _ | exact zai | exact zbf | refine zad ?_ ?_ | refine za5 ?_ ?_ | refine zak ?_ | refine zbg ?_ | refine Lo.cells ?_ | refine Lo.agg _ ?_ | refine Lo.sl _ ?_ | intro _)) rfl⟩, ⟨_, rfl, .rowE (by repeat' (first | exact Lo.s _ | exact zai | exact zbf | refine zad ?_ ?_ | refine za5 ?_ ?_ | refine zak ?_ | refine zbg ?_ | refine Lo.cells ?_ | refine Lo.agg _ ?_ | refine Lo.sl _ ?_ | intro _)) rfl⟩, ⟨_, rfl, .rowE zP_lo rfl⟩, ⟨_, rfl, .rowE (by repeat' (first | exact Lo.s _ | exact zai | exact zbf | refine zad ?_ ?_ | refine za5 ?_ ?_ | refine zak ?_ | refine zbg ?_ | refine Lo.cells ?_ | refine Lo.agg _ ?_ | refine Lo.sl _ ?_ | intro _)) rfl⟩, trivial⟩ ⟨.lo _ hlL, .lo _ (by repeat' (first | exact Lo.s _ | exact zai | refine zad ?_ ?_ | refine zak ?_ | refine Lo.cells ?_ | refine Lo.agg _ ?_ | refine Lo.ref _ ?_ | refine Lo.tup _ ?_ | refine Lo.fn _ _ ?_ | refine Lo.sl _ ?_ | intro _)), .ptr 5 5 4 0 0 rfl, .ptr 0 0 4 0 0 rfl, .own 6 6 1 _ _ rfl rfl, .fn _ _ _ rfl (RnL.cons (.ptr 0 0 4 0 0 rfl) (RnL.cons (.lo _ hlL) RnL.nil)).2, .lo _ (by repeat' (first | exact Lo.s _ | exact zai | refine zad ?_ ?_ | refine zak ?_ | refine Lo.cells ?_ | refine Lo.agg _ ?_ | refine Lo.ref _ ?_ | refine Lo.tup _ ?_ | refine Lo.fn _ _ ?_ | refine Lo.sl _ ?_ | intro _)), .lo _ (by repeat' (first | exact Lo.s _ | exact zai | refine zad ?_ ?_ | refine zak ?_ | refine Lo.cells ?_ | refine Lo.agg _ ?_ | refine Lo.ref _ ?_ | refine Lo.tup _ ?_ | refine Lo.fn _ _ ?_ | refine Lo.sl _ ?_ | intro _)), .lo _ (by repeat' (first | exact Lo.s _ | exact zai | refine zad ?_ ?_ | refine zak ?_ | refine Lo.cells ?_ | refine Lo.agg _ ?_ | refine Lo.ref _ ?_ | refine Lo.tup _ ?_ | refine Lo.fn _ _ ?_ | refine Lo.sl _ ?_ | intro _)), trivial⟩) (Nat.zero_le _) (fun n hn => ?_)
  have hpl := pe1_len d n
  have htl := t1_len d l n
  repeat (first | refine zag ?_ | refine zap ?_ | refine zae ?_ | refine zar ?_ | refine zac ?_)
  all_goals refine zaf ?_
  all_goals (first | refine zbm rfl rfl (zaa rfl) (zbh rfl rfl rfl) (fun h35 => ?_) (fun h35 => ?_) | refine zbn rfl rfl (zaa rfl) (zbh rfl rfl rfl) (fun h35 => ?_) (fun h35 => ?_))
  all_goals refine zam ?_
  all_goals (repeat (first | refine zag ?_ | refine zap ?_ | refine zae ?_ | refine zar ?_ | refine zac ?_))
  all_goals (first | refine zbv rfl ?_ | refine zbr rfl ?_)
  all_goals (repeat (first | refine zag ?_ | refine zap ?_ | refine zae ?_ | refine zar ?_ | refine zac ?_))
  · have hlt : n < d.length := by omega
    have hT : t1 d l (n + 1) = t1 d l n ++ if 0 < gti d n then [(uD l n, 2, gti d n)] else [] := rfl
    have hp : pe1 d (n + 1) = pe1 d n ++ if 0 < gti d n then [(n : Int)] else [] := rfl
    refine zaf ?_
    refine zab rfl rfl (zaa rfl) (mv_s (.inl rfl) rfl) ?_
    first | refine zab rfl rfl (zaa rfl) (zaz rfl ts22 ti3 rfl rfl rfl (ix_map (by omega)) rfl) ?_ | refine zab rfl rfl (zaa rfl) (zay rfl ts22 ti3 rfl rfl rfl (by omega)) ?_
    first | refine zab rfl rfl (zaa rfl) (zan rfl ta3 rfl) ?_ | refine zab rfl rfl (zaa rfl) (zas rfl ta3 rfl rfl rfl rfl rfl) ?_
    refine zab rfl rfl (zaa rfl) (zbt rfl ti3 rfl rfl) ?_
    refine ops_eff rfl (zaa rfl) (zbd rfl ti3 rfl rfl rfl rfl rfl rfl (by decide) (by decide)) ?_
    refine zab rfl rfl (zaa rfl) (mv_s (.inr rfl) rfl) ?_
    refine zam ?_
    repeat (first | refine zag ?_ | refine zap ?_ | refine zae ?_ | refine zar ?_ | refine zac ?_)
    all_goals refine zaf ?_
    all_goals refine zab rfl rfl (zaa rfl) (mv_s (.inl rfl) rfl) ?_
    all_goals (first | refine zbm rfl rfl (zaa rfl) (does_gtr rfl rfl rfl) (fun h40 => ?_) (fun h40 => ?_) | refine zbn rfl rfl (zaa rfl) (does_gtr rfl rfl rfl) (fun h40 => ?_) (fun h40 => ?_))
    all_goals refine zam ?_
    all_goals (repeat (first | refine zag ?_ | refine zap ?_ | refine zae ?_ | refine zar ?_ | refine zac ?_))
    all_goals (first | refine zbv rfl ?_ | refine zbr rfl ?_)
    all_goals (repeat (first | refine zag ?_ | refine zap ?_ | refine zae ?_ | refine zar ?_ | refine zac ?_))
    · rw [if_pos h40] at hT hp
      have hpr : (pe1 d (n + 1)).map eI = (pe1 d n).map eI ++ [eI n] := by rw [hp]; simp
      have hpn : (pe1 d (n + 1)).length = (pe1 d n).length + 1 := by rw [hp]; simp
      have hml : ((pe1 d n).map eI).length = (pe1 d n).length := by simp
      refine zaf ?_
      first | refine zab rfl rfl (zaa rfl) (za9 (.inl rfl) rfl) ?_ | refine zab rfl rfl (zaa rfl) (zbp (.inl rfl) rfl) ?_ | refine zab rfl rfl (zaa rfl) (mv_s (.inl rfl) rfl) ?_ | refine zab rfl rfl (zaa rfl) (zba (.inl rfl) rfl) ?_
      first | refine zab rfl rfl (zaa rfl) (zan rfl ta3 rfl) ?_ | refine zab rfl rfl (zaa rfl) (zas rfl ta3 rfl rfl rfl rfl rfl) ?_
      first | refine zab rfl rfl (zaa rfl) (lit1_sF rfl ts22 ti3 rfl rfl rfl rfl) ?_ | refine zab rfl rfl (zaa rfl) (lit1_slF rfl ts22 ti3 rfl rfl rfl rfl (by repeat' (first | exact Lo.s _ | exact zai | refine zad ?_ ?_ | refine zak ?_ | refine Lo.cells ?_ | refine Lo.agg _ ?_ | refine Lo.ref _ ?_ | refine Lo.tup _ ?_ | refine Lo.fn _ _ ?_ | refine Lo.sl _ ?_ | intro _))) ?_ | refine zab rfl rfl (zaa rfl) (does_litAF rfl ts22 ti3 rfl rfl (by decide) (by decide) rfl rfl rfl (by repeat' (first | exact Lo.s _ | exact zai | refine zad ?_ ?_ | refine zak ?_ | refine Lo.cells ?_ | refine Lo.agg _ ?_ | refine Lo.ref _ ?_ | refine Lo.tup _ ?_ | refine Lo.fn _ _ ?_ | refine Lo.sl _ ?_ | intro _))) ?_
      first | refine zab rfl rfl (zaa rfl) (does_append rfl ts22 ti3 rfl (by decide) rfl rfl (by first | rfl | (simp; done) | (simp; omega)) rfl (by first | exact .own _ _ _ rfl rfl _ (by first | rfl | simp) | exact .emp | exact .nil | exact .sl _ (by first | simp; done | intro e he; simp at he; obtain ⟨_, _, rfl⟩ := he; rfl)) (by first | omega | (simp; omega) | (unfold maxLen; simp; omega)) (by first | omega | (simp; omega) | (unfold maxLen; simp; omega))) ?_ | refine zab rfl rfl (zaa rfl) (does_append0 rfl ts22 ti3 rfl (by decide) rfl (.inl rfl) rfl (by first | exact .own _ _ _ rfl rfl _ (by first | rfl | simp) | exact .emp | exact .nil | exact .sl _ (by first | simp; done | intro e he; simp at he; obtain ⟨_, _, rfl⟩ := he; rfl)) (by first | omega | (simp; omega) | (unfold maxLen; simp; omega)) (by first | omega | (simp; omega) | (unfold maxLen; simp; omega))) ?_ | refine zab rfl rfl (zaa rfl) (does_append0 rfl ts22 ti3 rfl (by decide) rfl (.inr rfl) rfl (by first | exact .own _ _ _ rfl rfl _ (by first | rfl | simp) | exact .emp | exact .nil | exact .sl _ (by first | simp; done | intro e he; simp at he; obtain ⟨_, _, rfl⟩ := he; rfl)) (by first | omega | (simp; omega) | (unfold maxLen; simp; omega)) (by first | omega | (simp; omega) | (unfold maxLen; simp; omega))) ?_
      first | refine zab rfl rfl (zaa rfl) (za9 (.inr rfl) rfl) ?_ | refine zab rfl rfl (zaa rfl) (zbp (.inr rfl) rfl) ?_ | refine zab rfl rfl (zaa rfl) (mv_s (.inr rfl) rfl) ?_ | refine zab rfl rfl (zaa rfl) (zba (.inr rfl) rfl) ?_
      refine zam ?_
      repeat (first | refine zag ?_ | refine zap ?_ | refine zae ?_ | refine zar ?_ | refine zac ?_)
      refine aw_weak (wk_froz (id := 7) rfl) ?_
      refine aw_weak (wk_ref (d := 13) rfl rfl rfl) ?_
      refine aw_weak (F' := [(4, .ref [eL eSh l]), (5, .ref (eBx lo hi).cells), (6, .ptr 5 4 0 0), (8, .ptr 0 4 0 0), (9, .own 6 1 (pe1 d (n + 1)).length), (12, .fn 43 [.ptr 0 4 0 0, .ref [eL eSh l]]), (13, .ref [eI n]), (14, eI (gti d n)), (32, eL eI d), (33, eI d.length), (34, eI n)]) (σ' := stP (costL l) (t1 d l n) (pe1 d (n + 1))) (wk_st [0, 1, 2, 3, 4, 5, 8] (by decide) ⟨⟨_, rfl, obRn_agg (.cons (.own _ _ _ _ _ rfl rfl) (.cons (.own _ _ _ _ _ rfl rfl) (.cons (.own _ _ _ _ _ rfl rfl) (.cons (.own _ _ _ _ _ rfl rfl) .nil))))⟩, ⟨_, rfl, .rowE (by repeat' (first | exact Lo.s _ | exact zai | exact zbf | refine zad ?_ ?_ | refine za5 ?_ ?_ | refine zak ?_ | refine zbg ?_ | refine Lo.cells ?_ | refine Lo.agg _ ?_ | refine Lo.sl _ ?_ | intro _)) rfl⟩, ⟨_, rfl, .rowE (by repeat' (first | exact Lo.s _ | exact zai | exact zbf | refine zad ?_ ?_ | refine za5 ?_ ?_ | refine zak ?_ | refine zbg ?_ | refine Lo.cells ?_ | refine Lo.agg _ ?_ | refine Lo.sl _ ?_ | intro _)) rfl⟩, ⟨_, rfl, .rowE (by repeat' (first | exact Lo.s _ | exact zai | exact zbf | refine zad ?_ ?_ | refine za5 ?_ ?_ | refine zak ?_ | refine zbg ?_ | refine Lo.cells ?_ | refine Lo.agg _ ?_ | refine Lo.sl _ ?_ | intro _)) rfl⟩, ⟨_, rfl, .rowE (by repeat' (first | exact Lo.s _ | exact zai | exact zbf | refine zad ?_ ?_ | refine za5 ?_ ?_ | refine zak ?_ | refine zbg ?_ | refine Lo.cells ?_ | refine Lo.agg _ ?_ | refine Lo.sl _ ?_ | intro _)) rfl⟩, ⟨_, rfl, .rowE zP_lo rfl⟩, ⟨_, rfl, .rowE (by repeat' (first | exact Lo.s _ | exact zai | exact zbf | refine zad ?_ ?_ | refine za5 ?_ ?_ | refine zak ?_ | refine zbg ?_ | refine Lo.cells ?_ | refine Lo.agg _ ?_ | refine Lo.sl _ ?_ | intro _)) (Eq.trans (b := (pe1 d n).map eI ++ [eI n]) rfl hpr.symm)⟩, trivial⟩ ⟨.lo _ hlL, .lo _ (by repeat' (first | exact Lo.s _ | exact zai | refine zad ?_ ?_ | refine zak ?_ | refine Lo.cells ?_ | refine Lo.agg _ ?_ | refine Lo.ref _ ?_ | refine Lo.tup _ ?_ | refine Lo.fn _ _ ?_ | refine Lo.sl _ ?_ | intro _)), .ptr 5 5 4 0 0 rfl, .ptr 0 0 4 0 0 rfl, .own 8 6 1 _ _ rfl (by rw [hpn]; simp), .fn _ _ _ rfl (RnL.cons (.ptr 0 0 4 0 0 rfl) (RnL.cons (.lo _ hlL) RnL.nil)).2, .lo _ (by repeat' (first | exact Lo.s _ | exact zai | refine zad ?_ ?_ | refine zak ?_ | refine Lo.cells ?_ | refine Lo.agg _ ?_ | refine Lo.ref _ ?_ | refine Lo.tup _ ?_ | refine Lo.fn _ _ ?_ | refine Lo.sl _ ?_ | intro _)), .lo _ (by repeat' (first | exact Lo.s _ | exact zai | refine zad ?_ ?_ | refine zak ?_ | refine Lo.cells ?_ | refine Lo.agg _ ?_ | refine Lo.ref _ ?_ | refine Lo.tup _ ?_ | refine Lo.fn _ _ ?_ | refine Lo.sl _ ?_ | intro _)), .lo _ (by repeat' (first | exact Lo.s _ | exact zai | refine zad ?_ ?_ | refine zak ?_ | refine Lo.cells ?_ | refine Lo.agg _ ?_ | refine Lo.ref _ ?_ | refine Lo.tup _ ?_ | refine Lo.fn _ _ ?_ | refine Lo.sl _ ?_ | intro _)), .lo _ (by repeat' (first | exact Lo.s _ | exact zai | refine zad ?_ ?_ | refine zak ?_ | refine Lo.cells ?_ | refine Lo.agg _ ?_ | refine Lo.ref _ ?_ | refine Lo.tup _ ?_ | refine Lo.fn _ _ ?_ | refine Lo.sl _ ?_ | intro _)), .lo _ (by repeat' (first | exact Lo.s _ | exact zai | refine zad ?_ ?_ | refine zak ?_ | refine Lo.cells ?_ | refine Lo.agg _ ?_ | refine Lo.ref _ ?_ | refine Lo.tup _ ?_ | refine Lo.fn _ _ ?_ | refine Lo.sl _ ?_ | intro _)), trivial⟩) ?_
      have hcall := prog1T (P := P) l q3 (costL l) (t1 d l n) (by omega) (pe1 d (n + 1)) 45 [.ref [eL eSh l], .ref [eI n]] (fun i => inB (gti l i).pd n) (by repeat' (first | exact Lo.s _ | exact zai | refine zad ?_ ?_ | refine zak ?_ | refine Lo.cells ?_ | refine Lo.agg _ ?_ | refine Lo.ref _ ?_ | refine Lo.tup _ ?_ | refine Lo.fn _ _ ?_ | refine Lo.sl _ ?_ | intro _)) (fun i hi => prog2_pf l n i hi) 2 (gti d n)
      rw [show t1 d l n ++ [(unitL l.length (fun i => inB (gti l i).pd n), 2, gti d n)] = t1 d l (n + 1) from hT.symm] at hcall
      refine zaf ?_
      first | refine zab rfl rfl (zaa rfl) (mv_fn (.inl rfl) rfl) ?_ | refine zab rfl rfl (zaa rfl) (mv_s (.inl rfl) rfl) ?_
      refine zab rfl rfl (zaa rfl) (does_func rfl rfl) ?_
      refine zab rfl rfl (zaa rfl) (mv_s (.inl rfl) rfl) ?_
      refine zab rfl rfl (zaa rfl) (does_callE rfl rfl hcall rfl) ?_
      refine zam ?_
      repeat (first | refine zag ?_ | refine zap ?_ | refine zae ?_ | refine zar ?_ | refine zac ?_)
      refine zaf ?_
      refine zab rfl rfl (zaa rfl) (does_add rfl rfl rfl (IntWalk.i64_in _ (by omega))) ?_
      refine zab rfl rfl (zaa rfl) (mv_s (.inl rfl) rfl) ?_
      refine zam ?_
      repeat (first | refine zag ?_ | refine zap ?_ | refine zae ?_ | refine zar ?_ | refine zac ?_)
      exact ⟨n + 1, by omega, by omega, wk_st [0, 1, 7, 8, 9, 5, 6] (by decide) ⟨⟨_, rfl, obRn_agg (.cons (.own _ _ _ _ _ rfl rfl) (.cons (.own _ _ _ _ _ rfl rfl) (.cons (.own _ _ _ _ _ rfl rfl) (.cons (.own _ _ _ _ _ rfl rfl) .nil))))⟩, ⟨_, rfl, .rowE (by repeat' (first | exact Lo.s _ | exact zai | exact zbf | refine zad ?_ ?_ | refine za5 ?_ ?_ | refine zak ?_ | refine zbg ?_ | refine Lo.cells ?_ | refine Lo.agg _ ?_ | refine Lo.sl _ ?_ | intro _)) rfl⟩, ⟨_, rfl, .rowE (by repeat' (first | exact Lo.s _ | exact zai | exact zbf | refine zad ?_ ?_ | refine za5 ?_ ?_ | refine zak ?_ | refine zbg ?_ | refine Lo.cells ?_ | refine Lo.agg _ ?_ | refine Lo.sl _ ?_ | intro _)) rfl⟩, ⟨_, rfl, .rowE (by repeat' (first | exact Lo.s _ | exact zai | exact zbf | refine zad ?_ ?_ | refine za5 ?_ ?_ | refine zak ?_ | refine zbg ?_ | refine Lo.cells ?_ | refine Lo.agg _ ?_ | refine Lo.sl _ ?_ | intro _)) rfl⟩, ⟨_, rfl, .rowE (by repeat' (first | exact Lo.s _ | exact zai | exact zbf | refine zad ?_ ?_ | refine za5 ?_ ?_ | refine zak ?_ | refine zbg ?_ | refine Lo.cells ?_ | refine Lo.agg _ ?_ | refine Lo.sl _ ?_ | intro _)) rfl⟩, ⟨_, rfl, .rowE zP_lo rfl⟩, ⟨_, rfl, .rowE (by repeat' (first | exact Lo.s _ | exact zai | exact zbf | refine zad ?_ ?_ | refine za5 ?_ ?_ | refine zak ?_ | refine zbg ?_ | refine Lo.cells ?_ | refine Lo.agg _ ?_ | refine Lo.sl _ ?_ | intro _)) rfl⟩, trivial⟩ ⟨.lo _ hlL, .lo _ (by repeat' (first | exact Lo.s _ | exact zai | refine zad ?_ ?_ | refine zak ?_ | refine Lo.cells ?_ | refine Lo.agg _ ?_ | refine Lo.ref _ ?_ | refine Lo.tup _ ?_ | refine Lo.fn _ _ ?_ | refine Lo.sl _ ?_ | intro _)), .ptr 5 5 4 0 0 rfl, .ptr 0 0 4 0 0 rfl, .own 6 6 1 _ _ rfl rfl, .fn _ _ _ rfl (RnL.cons (.ptr 0 0 4 0 0 rfl) (RnL.cons (.lo _ hlL) RnL.nil)).2, .lo _ (by repeat' (first | exact Lo.s _ | exact zai | refine zad ?_ ?_ | refine zak ?_ | refine Lo.cells ?_ | refine Lo.agg _ ?_ | refine Lo.ref _ ?_ | refine Lo.tup _ ?_ | refine Lo.fn _ _ ?_ | refine Lo.sl _ ?_ | intro _)), .lo _ (by repeat' (first | exact Lo.s _ | exact zai | refine zad ?_ ?_ | refine zak ?_ | refine Lo.cells ?_ | refine Lo.agg _ ?_ | refine Lo.ref _ ?_ | refine Lo.tup _ ?_ | refine Lo.fn _ _ ?_ | refine Lo.sl _ ?_ | intro _)), .lo _ (by repeat' (first | exact Lo.s _ | exact zai | refine zad ?_ ?_ | refine zak ?_ | refine Lo.cells ?_ | refine Lo.agg _ ?_ | refine Lo.ref _ ?_ | refine Lo.tup _ ?_ | refine Lo.fn _ _ ?_ | refine Lo.sl _ ?_ | intro _)), trivial⟩⟩
    · rw [if_neg h40, List.append_nil] at hT hp
      refine zaf ?_
      refine zab rfl rfl (zaa rfl) (does_add rfl rfl rfl (IntWalk.i64_in _ (by omega))) ?_
      refine zab rfl rfl (zaa rfl) (mv_s (.inl rfl) rfl) ?_
      refine zam ?_
      repeat (first | refine zag ?_ | refine zap ?_ | refine zae ?_ | refine zar ?_ | refine zac ?_)
      rw [← hT, ← hp]
      exact ⟨n + 1, by omega, by omega, wk_st [0, 1, 2, 3, 4, 5, 6] (by decide) ⟨⟨_, rfl, obRn_agg (.cons (.own _ _ _ _ _ rfl rfl) (.cons (.own _ _ _ _ _ rfl rfl) (.cons (.own _ _ _ _ _ rfl rfl) (.cons (.own _ _ _ _ _ rfl rfl) .nil))))⟩, ⟨_, rfl, .rowE (by repeat' (first | exact Lo.s _ | exact zai | exact zbf | refine zad ?_ ?_ | refine za5 ?_ ?_ | refine zak ?_ | refine zbg ?_ | refine Lo.cells ?_ | refine Lo.agg _ ?_ | refine Lo.sl _ ?_ | intro _)) rfl⟩, ⟨_, rfl, .rowE (by repeat' (first | exact Lo.s _ | exact zai | exact zbf | refine zad ?_ ?_ | refine za5 ?_ ?_ | refine zak ?_ | refine zbg ?_ | refine Lo.cells ?_ | refine Lo.agg _ ?_ | refine Lo.sl _ ?_ | intro _)) rfl⟩, ⟨_, rfl, .rowE (by repeat' (first | exact Lo.s _ | exact zai | exact zbf | refine zad ?_ ?_ | refine za5 ?_ ?_ | refine zak ?_ | refine zbg ?_ | refine Lo.cells ?_ | refine Lo.agg _ ?_ | refine Lo.sl _ ?_ | intro _)) rfl⟩, ⟨_, rfl, .rowE (by repeat' (first | exact Lo.s _ | exact zai | exact zbf | refine zad ?_ ?_ | refine za5 ?_ ?_ | refine zak ?_ | refine zbg ?_ | refine Lo.cells ?_ | refine Lo.agg _ ?_ | refine Lo.sl _ ?_ | intro _)) rfl⟩, ⟨_, rfl, .rowE zP_lo rfl⟩, ⟨_, rfl, .rowE (by repeat' (first | exact Lo.s _ | exact zai | exact zbf | refine zad ?_ ?_ | refine za5 ?_ ?_ | refine zak ?_ | refine zbg ?_ | refine Lo.cells ?_ | refine Lo.agg _ ?_ | refine Lo.sl _ ?_ | intro _)) rfl⟩, trivial⟩ ⟨.lo _ hlL, .lo _ (by repeat' (first | exact Lo.s _ | exact zai | refine zad ?_ ?_ | refine zak ?_ | refine Lo.cells ?_ | refine Lo.agg _ ?_ | refine Lo.ref _ ?_ | refine Lo.tup _ ?_ | refine Lo.fn _ _ ?_ | refine Lo.sl _ ?_ | intro _)), .ptr 5 5 4 0 0 rfl, .ptr 0 0 4 0 0 rfl, .own 6 6 1 _ _ rfl rfl, .fn _ _ _ rfl (RnL.cons (.ptr 0 0 4 0 0 rfl) (RnL.cons (.lo _ hlL) RnL.nil)).2, .lo _ (by repeat' (first | exact Lo.s _ | exact zai | refine zad ?_ ?_ | refine zak ?_ | refine Lo.cells ?_ | refine Lo.agg _ ?_ | refine Lo.ref _ ?_ | refine Lo.tup _ ?_ | refine Lo.fn _ _ ?_ | refine Lo.sl _ ?_ | intro _)), .lo _ (by repeat' (first | exact Lo.s _ | exact zai | refine zad ?_ ?_ | refine zak ?_ | refine Lo.cells ?_ | refine Lo.agg _ ?_ | refine Lo.ref _ ?_ | refine Lo.tup _ ?_ | refine Lo.fn _ _ ?_ | refine Lo.sl _ ?_ | intro _)), .lo _ (by repeat' (first | exact Lo.s _ | exact zai | refine zad ?_ ?_ | refine zak ?_ | refine Lo.cells ?_ | refine Lo.agg _ ?_ | refine Lo.ref _ ?_ | refine Lo.tup _ ?_ | refine Lo.fn _ _ ?_ | refine Lo.sl _ ?_ | intro _)), trivial⟩⟩
  have e : n = d.length := by omega
  subst e
  (refine aw_exit ?_; repeat (first | refine ath_x ?_ | refine abl_hit ?_ | refine abl_miss rfl ?_ | refine zar ?_ | refine zap ?_ | refine zag ?_ | refine zae ?_ | refine zac ?_))
  refine zaf ?_
  first | refine zab rfl rfl (zaa rfl) (zan rfl ta23 rfl) ?_ | refine zab rfl rfl (zaa rfl) (zas rfl ta23 rfl rfl rfl rfl rfl) ?_
  first | refine zab rfl rfl (zaa rfl) (za3 rfl ts23 rfl) ?_ | refine zab rfl rfl (zaa rfl) (za8 rfl ts23 rfl) ?_ | refine zab rfl rfl (zaa rfl) (za0 rfl ts23 rfl) ?_ | refine zab rfl rfl (zaa rfl) (zbe rfl ts23 rfl) ?_ | refine zab rfl rfl (zaa rfl) (za1 rfl ts23 rfl) ?_
  refine zab rfl rfl (zaa rfl) (mv_s (.inl rfl) rfl) ?_
  refine zam ?_
  repeat (first | refine zag ?_ | refine zap ?_ | refine zae ?_ | refine zar ?_ | refine zac ?_)
  refine aw_loops (S := Nat) (fun k => [(5, .ref (eBx lo hi).cells), (6, .ptr 5 4 0 0), (8, .ptr 0 4 0 0), (9, .own 6 1 (pe1 d d.length).length), (12, .fn 43 [.ptr 0 4 0 0, .ref [eL eSh l]]), (50, eL eSh l), (51, eI l.length), (52, eI k)]) (fun k => stP (costL l) (t2 d l lo hi k) (pe1 d d.length)) (fun k => k ≤ l.length) (fun k => l.length - k) 0
    (wk_st [0, 1, 2, 3, 4, 5, 6] (by decide) ⟨⟨_, rfl, obRn_agg (.cons (.own _ _ _ _ _ rfl rfl) (.cons (.own _ _ _ _ _ rfl rfl) (.cons (.own _ _ _ _ _ rfl rfl) (.cons (.own _ _ _ _ _ rfl rfl) .nil))))⟩, ⟨_, rfl, .rowE (by repeat' (first | exact Lo.s _ | exact zai | exact zbf | refine zad ?_ ?_ | refine za5 ?_ ?_ | refine zak ?_ | refine zbg ?_ | refine Lo.cells ?_ | refine Lo.agg _ ?_ | refine Lo.sl _ ?_ | intro _)) rfl⟩, ⟨_, rfl, .rowE (by repeat' (first | exact Lo.s _ | exact zai | exact zbf | refine zad ?_ ?_ | refine za5 ?_ ?_ | refine zak ?_ | refine zbg ?_ | refine Lo.cells ?_ | refine Lo.agg _ ?_ | refine Lo.sl _ ?_ | intro _)) rfl⟩, ⟨_, rfl, .rowE (by repeat' (first | exact Lo.s _ | exact zai | exact zbf | refine zad ?_ ?_ | refine za5 ?_ ?_ | refine zak ?_ | refine zbg ?_ | refine Lo.cells ?_ | refine Lo.agg _ ?_ | refine Lo.sl _ ?_ | intro _)) rfl⟩, ⟨_, rfl, .rowE (by repeat' (first | exact Lo.s _ | exact zai | exact zbf | refine zad ?_ ?_ | refine za5 ?_ ?_ | refine zak ?_ | refine zbg ?_ | refine Lo.cells ?_ | refine Lo.agg _ ?_ | refine Lo.sl _ ?_ | intro _)) rfl⟩, ⟨_, rfl, .rowE zP_lo rfl⟩, ⟨_, rfl, .rowE (by repeat' (first | exact Lo.s _ | exact zai | exact zbf | refine zad ?_ ?_ | refine za5 ?_ ?_ | refine zak ?_ | refine zbg ?_ | refine Lo.cells ?_ | refine Lo.agg _ ?_ | refine Lo.sl _ ?_ | intro _)) rfl⟩, trivial⟩ ⟨.lo _ (by repeat' (first | exact Lo.s _ | exact zai | refine zad ?_ ?_ | refine zak ?_ | refine Lo.cells ?_ | refine Lo.agg _ ?_ | refine Lo.ref _ ?_ | refine Lo.tup _ ?_ | refine Lo.fn _ _ ?_ | refine Lo.sl _ ?_ | intro _)), .ptr 5 5 4 0 0 rfl, .ptr 0 0 4 0 0 rfl, .own 6 6 1 _ _ rfl rfl, .fn _ _ _ rfl (RnL.cons (.ptr 0 0 4 0 0 rfl) (RnL.cons (.lo _ hlL) RnL.nil)).2, .lo _ (by repeat' (first | exact Lo.s _ | exact zai | refine zad ?_ ?_ | refine zak ?_ | refine Lo.cells ?_ | refine Lo.agg _ ?_ | refine Lo.ref _ ?_ | refine Lo.tup _ ?_ | refine Lo.fn _ _ ?_ | refine Lo.sl _ ?_ | intro _)), .lo _ (by repeat' (first | exact Lo.s _ | exact zai | refine zad ?_ ?_ | refine zak ?_ | refine Lo.cells ?_ | refine Lo.agg _ ?_ | refine Lo.ref _ ?_ | refine Lo.tup _ ?_ | refine Lo.fn _ _ ?_ | refine Lo.sl _ ?_ | intro _)), .lo _ (by repeat' (first | exact Lo.s _ | exact zai | refine zad ?_ ?_ | refine zak ?_ | refine Lo.cells ?_ | refine Lo.agg _ ?_ | refine Lo.ref _ ?_ | refine Lo.tup _ ?_ | refine Lo.fn _ _ ?_ | refine Lo.sl _ ?_ | intro _)), trivial⟩) (Nat.zero_le _) (fun k hk => ?_)
  have htl := t2_len d l lo hi k
  repeat (first | refine zag ?_ | refine zap ?_ | refine zae ?_ | refine zar ?_ | refine zac ?_)
  all_goals refine zaf ?_
  all_goals (first | refine zbm rfl rfl (zaa rfl) (zbh rfl rfl rfl) (fun h53 => ?_) (fun h53 => ?_) | refine zbn rfl rfl (zaa rfl) (zbh rfl rfl rfl) (fun h53 => ?_) (fun h53 => ?_))
  all_goals refine zam ?_
  all_goals (repeat (first | refine zag ?_ | refine zap ?_ | refine zae ?_ | refine zar ?_ | refine zac ?_))
  all_goals (first | refine zbv rfl ?_ | refine zbr rfl ?_)
  all_goals (repeat (first | refine zag ?_ | refine zap ?_ | refine zae ?_ | refine zar ?_ | refine zac ?_))
  · have hlt : k < l.length := by omega
    have hT : t2 d l lo hi (k + 1) = (t2 d l lo hi k ++ [(uK l k, 1, gti hi k)]) ++ if 0 < gti lo k then [(uK l k, 2, gti lo k)] else [] := rfl
    refine zaf ?_
    refine zab rfl rfl (zaa rfl) (mv_s (.inl rfl) rfl) ?_
    refine zab rfl rfl (zaa rfl) (zbt rfl ti3 rfl rfl) ?_
    refine ops_eff rfl (zaa rfl) (zbd rfl ti3 rfl rfl rfl rfl rfl rfl (by decide) (by decide)) ?_
    refine zam ?_
    repeat (first | refine zag ?_ | refine zap ?_ | refine zae ?_ | refine zar ?_ | refine zac ?_)
    refine aw_weak (wk_froz (id := 7) rfl) ?_
    refine aw_weak (wk_ref (d := 15) rfl rfl rfl) ?_
    refine aw_weak (F' := [(5, .ref (eBx lo hi).cells), (6, .ptr 5 4 0 0), (8, .ptr 0 4 0 0), (9, .own 6 1 (pe1 d d.length).length), (12, .fn 43 [.ptr 0 4 0 0, .ref [eL eSh l]]), (15, .ref [eI k]), (50, eL eSh l), (51, eI l.length), (52, eI k)]) (σ' := stP (costL l) (t2 d l lo hi k) (pe1 d d.length)) (wk_st [0, 1, 2, 3, 4, 5, 6] (by decide) ⟨⟨_, rfl, obRn_agg (.cons (.own _ _ _ _ _ rfl rfl) (.cons (.own _ _ _ _ _ rfl rfl) (.cons (.own _ _ _ _ _ rfl rfl) (.cons (.own _ _ _ _ _ rfl rfl) .nil))))⟩, ⟨_, rfl, .rowE (by repeat' (first | exact Lo.s _ | exact zai | exact zbf | refine zad ?_ ?_ | refine za5 ?_ ?_ | refine zak ?_ | refine zbg ?_ | refine Lo.cells ?_ | refine Lo.agg _ ?_ | refine Lo.sl _ ?_ | intro _)) rfl⟩, ⟨_, rfl, .rowE (by repeat' (first | exact Lo.s _ | exact zai | exact zbf | refine zad ?_ ?_ | refine za5 ?_ ?_ | refine zak ?_ | refine zbg ?_ | refine Lo.cells ?_ | refine Lo.agg _ ?_ | refine Lo.sl _ ?_ | intro _)) rfl⟩, ⟨_, rfl, .rowE (by repeat' (first | exact Lo.s _ | exact zai | exact zbf | refine zad ?_ ?_ | refine za5 ?_ ?_ | refine zak ?_ | refine zbg ?_ | refine Lo.cells ?_ | refine Lo.agg _ ?_ | refine Lo.sl _ ?_ | intro _)) rfl⟩, ⟨_, rfl, .rowE (by repeat' (first | exact Lo.s _ | exact zai | exact zbf | refine zad ?_ ?_ | refine za5 ?_ ?_ | refine zak ?_ | refine zbg ?_ | refine Lo.cells ?_ | refine Lo.agg _ ?_ | refine Lo.sl _ ?_ | intro _)) rfl⟩, ⟨_, rfl, .rowE zP_lo rfl⟩, ⟨_, rfl, .rowE (by repeat' (first | exact Lo.s _ | exact zai | exact zbf | refine zad ?_ ?_ | refine za5 ?_ ?_ | refine zak ?_ | refine zbg ?_ | refine Lo.cells ?_ | refine Lo.agg _ ?_ | refine Lo.sl _ ?_ | intro _)) rfl⟩, trivial⟩ ⟨.lo _ (by repeat' (first | exact Lo.s _ | exact zai | refine zad ?_ ?_ | refine zak ?_ | refine Lo.cells ?_ | refine Lo.agg _ ?_ | refine Lo.ref _ ?_ | refine Lo.tup _ ?_ | refine Lo.fn _ _ ?_ | refine Lo.sl _ ?_ | intro _)), .ptr 5 5 4 0 0 rfl, .ptr 0 0 4 0 0 rfl, .own 6 6 1 _ _ rfl rfl, .fn _ _ _ rfl (RnL.cons (.ptr 0 0 4 0 0 rfl) (RnL.cons (.lo _ hlL) RnL.nil)).2, .lo _ (by repeat' (first | exact Lo.s _ | exact zai | refine zad ?_ ?_ | refine zak ?_ | refine Lo.cells ?_ | refine Lo.agg _ ?_ | refine Lo.ref _ ?_ | refine Lo.tup _ ?_ | refine Lo.fn _ _ ?_ | refine Lo.sl _ ?_ | intro _)), .lo _ (by repeat' (first | exact Lo.s _ | exact zai | refine zad ?_ ?_ | refine zak ?_ | refine Lo.cells ?_ | refine Lo.agg _ ?_ | refine Lo.ref _ ?_ | refine Lo.tup _ ?_ | refine Lo.fn _ _ ?_ | refine Lo.sl _ ?_ | intro _)), .lo _ (by repeat' (first | exact Lo.s _ | exact zai | refine zad ?_ ?_ | refine zak ?_ | refine Lo.cells ?_ | refine Lo.agg _ ?_ | refine Lo.ref _ ?_ | refine Lo.tup _ ?_ | refine Lo.fn _ _ ?_ | refine Lo.sl _ ?_ | intro _)), .lo _ (by repeat' (first | exact Lo.s _ | exact zai | refine zad ?_ ?_ | refine zak ?_ | refine Lo.cells ?_ | refine Lo.agg _ ?_ | refine Lo.ref _ ?_ | refine Lo.tup _ ?_ | refine Lo.fn _ _ ?_ | refine Lo.sl _ ?_ | intro _)), trivial⟩) ?_
    have hcall := prog1T (P := P) l q3 (costL l) (t2 d l lo hi k) (by omega) (pe1 d d.length) 47 [.ref [eI k]] (fun i => decide (i = k)) (by repeat' (first | exact Lo.s _ | exact zai | refine zad ?_ ?_ | refine zak ?_ | refine Lo.cells ?_ | refine Lo.agg _ ?_ | refine Lo.ref _ ?_ | refine Lo.tup _ ?_ | refine Lo.fn _ _ ?_ | refine Lo.sl _ ?_ | intro _)) (fun i hi => prog3_pf k i) 1 (gti hi k)
    refine zaf ?_
    first | refine zab rfl rfl (zaa rfl) (mv_fn (.inl rfl) rfl) ?_ | refine zab rfl rfl (zaa rfl) (mv_s (.inl rfl) rfl) ?_
    refine zab rfl rfl (zaa rfl) (does_func rfl rfl) ?_
    first | refine zab rfl rfl (zaa rfl) (zao rfl tf69_1 (by decide) rfl) ?_ | refine zab rfl rfl (zaa rfl) (zal rfl tf69_1 (by decide) rfl) ?_
    first | refine zab rfl rfl (zaa rfl) (zan rfl ta22 rfl) ?_ | refine zab rfl rfl (zaa rfl) (zas rfl ta22 rfl rfl rfl rfl rfl) ?_
    first | refine zab rfl rfl (zaa rfl) (zan rfl ta3 rfl) ?_ | refine zab rfl rfl (zaa rfl) (zas rfl ta3 rfl rfl rfl rfl rfl) ?_
    first | refine zab rfl rfl (zaa rfl) (zaz rfl ts22 ti3 rfl rfl rfl (ix_map (by omega)) rfl) ?_ | refine zab rfl rfl (zaa rfl) (zay rfl ts22 ti3 rfl rfl rfl (by omega)) ?_
    first | refine zab rfl rfl (zaa rfl) (zan rfl ta3 rfl) ?_ | refine zab rfl rfl (zaa rfl) (zas rfl ta3 rfl rfl rfl rfl rfl) ?_
    refine zab rfl rfl (zaa rfl) (does_callE rfl rfl hcall rfl) ?_
    refine zam ?_
    repeat (first | refine zag ?_ | refine zap ?_ | refine zae ?_ | refine zar ?_ | refine zac ?_)
    obtain ⟨T1, hT1⟩ : ∃ T1, T1 = t2 d l lo hi k ++ [(unitL l.length (fun i => decide (i = k)), 1, gti hi k)] := ⟨_, rfl⟩
    rw [← hT1]
    have hT1l : T1.length = (t2 d l lo hi k).length + 1 := by rw [hT1]; simp
    replace hT : t2 d l lo hi (k + 1) = T1 ++ if 0 < gti lo k then [(uK l k, 2, gti lo k)] else [] := by rw [hT, hT1]; rfl
    clear hT1 hcall
    refine aw_weak (F' := [(5, .ref (eBx lo hi).cells), (6, .ptr 5 4 0 0), (8, .ptr 0 4 0 0), (9, .own 6 1 (pe1 d d.length).length), (12, .fn 43 [.ptr 0 4 0 0, .ref [eL eSh l]]), (15, .ref [eI k]), (50, eL eSh l), (51, eI l.length), (52, eI k)]) (σ' := stP (costL l) T1 (pe1 d d.length)) (wk_st [0, 1, 7, 8, 9, 5, 6] (by decide) ⟨⟨_, rfl, obRn_agg (.cons (.own _ _ _ _ _ rfl rfl) (.cons (.own _ _ _ _ _ rfl rfl) (.cons (.own _ _ _ _ _ rfl rfl) (.cons (.own _ _ _ _ _ rfl rfl) .nil))))⟩, ⟨_, rfl, .rowE (by repeat' (first | exact Lo.s _ | exact zai | exact zbf | refine zad ?_ ?_ | refine za5 ?_ ?_ | refine zak ?_ | refine zbg ?_ | refine Lo.cells ?_ | refine Lo.agg _ ?_ | refine Lo.sl _ ?_ | intro _)) rfl⟩, ⟨_, rfl, .rowE (by repeat' (first | exact Lo.s _ | exact zai | exact zbf | refine zad ?_ ?_ | refine za5 ?_ ?_ | refine zak ?_ | refine zbg ?_ | refine Lo.cells ?_ | refine Lo.agg _ ?_ | refine Lo.sl _ ?_ | intro _)) rfl⟩, ⟨_, rfl, .rowE (by repeat' (first | exact Lo.s _ | exact zai | exact zbf | refine zad ?_ ?_ | refine za5 ?_ ?_ | refine zak ?_ | refine zbg ?_ | refine Lo.cells ?_ | refine Lo.agg _ ?_ | refine Lo.sl _ ?_ | intro _)) rfl⟩, ⟨_, rfl, .rowE (by repeat' (first | exact Lo.s _ | exact zai | exact zbf | refine zad ?_ ?_ | refine za5 ?_ ?_ | refine zak ?_ | refine zbg ?_ | refine Lo.cells ?_ | refine Lo.agg _ ?_ | refine Lo.sl _ ?_ | intro _)) rfl⟩, ⟨_, rfl, .rowE zP_lo rfl⟩, ⟨_, rfl, .rowE (by repeat' (first | exact Lo.s _ | exact zai | exact zbf | refine zad ?_ ?_ | refine za5 ?_ ?_ | refine zak ?_ | refine zbg ?_ | refine Lo.cells ?_ | refine Lo.agg _ ?_ | refine Lo.sl _ ?_ | intro _)) rfl⟩, trivial⟩ ⟨.lo _ (by repeat' (first | exact Lo.s _ | exact zai | refine zad ?_ ?_ | refine zak ?_ | refine Lo.cells ?_ | refine Lo.agg _ ?_ | refine Lo.ref _ ?_ | refine Lo.tup _ ?_ | refine Lo.fn _ _ ?_ | refine Lo.sl _ ?_ | intro _)), .ptr 5 5 4 0 0 rfl, .ptr 0 0 4 0 0 rfl, .own 6 6 1 _ _ rfl rfl, .fn _ _ _ rfl (RnL.cons (.ptr 0 0 4 0 0 rfl) (RnL.cons (.lo _ hlL) RnL.nil)).2, .lo _ (by repeat' (first | exact Lo.s _ | exact zai | refine zad ?_ ?_ | refine zak ?_ | refine Lo.cells ?_ | refine Lo.agg _ ?_ | refine Lo.ref _ ?_ | refine Lo.tup _ ?_ | refine Lo.fn _ _ ?_ | refine Lo.sl _ ?_ | intro _)), .lo _ (by repeat' (first | exact Lo.s _ | exact zai | refine zad ?_ ?_ | refine zak ?_ | refine Lo.cells ?_ | refine Lo.agg _ ?_ | refine Lo.ref _ ?_ | refine Lo.tup _ ?_ | refine Lo.fn _ _ ?_ | refine Lo.sl _ ?_ | intro _)), .lo _ (by repeat' (first | exact Lo.s _ | exact zai | refine zad ?_ ?_ | refine zak ?_ | refine Lo.cells ?_ | refine Lo.agg _ ?_ | refine Lo.ref _ ?_ | refine Lo.tup _ ?_ | refine Lo.fn _ _ ?_ | refine Lo.sl _ ?_ | intro _)), .lo _ (by repeat' (first | exact Lo.s _ | exact zai | refine zad ?_ ?_ | refine zak ?_ | refine Lo.cells ?_ | refine Lo.agg _ ?_ | refine Lo.ref _ ?_ | refine Lo.tup _ ?_ | refine Lo.fn _ _ ?_ | refine Lo.sl _ ?_ | intro _)), trivial⟩) ?_
    all_goals refine zaf ?_
    all_goals (first | refine zab rfl rfl (zaa rfl) (zao rfl tf69_0 (by decide) rfl) ?_ | refine zab rfl rfl (zaa rfl) (zal rfl tf69_0 (by decide) rfl) ?_)
    all_goals (first | refine zab rfl rfl (zaa rfl) (zan rfl ta22 rfl) ?_ | refine zab rfl rfl (zaa rfl) (zas rfl ta22 rfl rfl rfl rfl rfl) ?_)
    all_goals (first | refine zab rfl rfl (zaa rfl) (zan rfl ta3 rfl) ?_ | refine zab rfl rfl (zaa rfl) (zas rfl ta3 rfl rfl rfl rfl rfl) ?_)
    all_goals (first | refine zab rfl rfl (zaa rfl) (zaz rfl ts22 ti3 rfl rfl rfl (ix_map (by omega)) rfl) ?_ | refine zab rfl rfl (zaa rfl) (zay rfl ts22 ti3 rfl rfl rfl (by omega)) ?_)
    all_goals (first | refine zab rfl rfl (zaa rfl) (zan rfl ta3 rfl) ?_ | refine zab rfl rfl (zaa rfl) (zas rfl ta3 rfl rfl rfl rfl rfl) ?_)
    all_goals (first | refine zbm rfl rfl (zaa rfl) (does_gtr rfl rfl rfl) (fun h68 => ?_) (fun h68 => ?_) | refine zbn rfl rfl (zaa rfl) (does_gtr rfl rfl rfl) (fun h68 => ?_) (fun h68 => ?_))
    all_goals refine zam ?_
    all_goals (repeat (first | refine zag ?_ | refine zap ?_ | refine zae ?_ | refine zar ?_ | refine zac ?_))
    all_goals (first | refine zbv rfl ?_ | refine zbr rfl ?_)
    all_goals (repeat (first | refine zag ?_ | refine zap ?_ | refine zae ?_ | refine zar ?_ | refine zac ?_))
    · rw [if_pos h68] at hT
      have hcall := prog1T (P := P) l q3 (costL l) T1 (by omega) (pe1 d d.length) 48 [.ref [eI k]] (fun i => decide (i = k)) (by repeat' (first | exact Lo.s _ | exact zai | refine zad ?_ ?_ | refine zak ?_ | refine Lo.cells ?_ | refine Lo.agg _ ?_ | refine Lo.ref _ ?_ | refine Lo.tup _ ?_ | refine Lo.fn _ _ ?_ | refine Lo.sl _ ?_ | intro _)) (fun i hi => prog4_pf k i) 2 (gti lo k)
      rw [show T1 ++ [(unitL l.length (fun i => decide (i = k)), 2, gti lo k)] = t2 d l lo hi (k + 1) from hT.symm] at hcall
      refine zaf ?_
      first | refine zab rfl rfl (zaa rfl) (mv_fn (.inl rfl) rfl) ?_ | refine zab rfl rfl (zaa rfl) (mv_s (.inl rfl) rfl) ?_
      refine zab rfl rfl (zaa rfl) (does_func rfl rfl) ?_
      first | refine zab rfl rfl (zaa rfl) (zao rfl tf69_0 (by decide) rfl) ?_ | refine zab rfl rfl (zaa rfl) (zal rfl tf69_0 (by decide) rfl) ?_
      first | refine zab rfl rfl (zaa rfl) (zan rfl ta22 rfl) ?_ | refine zab rfl rfl (zaa rfl) (zas rfl ta22 rfl rfl rfl rfl rfl) ?_
      first | refine zab rfl rfl (zaa rfl) (zan rfl ta3 rfl) ?_ | refine zab rfl rfl (zaa rfl) (zas rfl ta3 rfl rfl rfl rfl rfl) ?_
      first | refine zab rfl rfl (zaa rfl) (zaz rfl ts22 ti3 rfl rfl rfl (ix_map (by omega)) rfl) ?_ | refine zab rfl rfl (zaa rfl) (zay rfl ts22 ti3 rfl rfl rfl (by omega)) ?_
      first | refine zab rfl rfl (zaa rfl) (zan rfl ta3 rfl) ?_ | refine zab rfl rfl (zaa rfl) (zas rfl ta3 rfl rfl rfl rfl rfl) ?_
      refine zab rfl rfl (zaa rfl) (does_callE rfl rfl hcall rfl) ?_
      refine zam ?_
      repeat (first | refine zag ?_ | refine zap ?_ | refine zae ?_ | refine zar ?_ | refine zac ?_)
      refine zaf ?_
      refine zab rfl rfl (zaa rfl) (does_add rfl rfl rfl (IntWalk.i64_in _ (by omega))) ?_
      refine zab rfl rfl (zaa rfl) (mv_s (.inl rfl) rfl) ?_
      refine zam ?_
      repeat (first | refine zag ?_ | refine zap ?_ | refine zae ?_ | refine zar ?_ | refine zac ?_)
      exact ⟨k + 1, by omega, by omega, wk_st [0, 1, 7, 8, 9, 5, 6] (by decide) ⟨⟨_, rfl, obRn_agg (.cons (.own _ _ _ _ _ rfl rfl) (.cons (.own _ _ _ _ _ rfl rfl) (.cons (.own _ _ _ _ _ rfl rfl) (.cons (.own _ _ _ _ _ rfl rfl) .nil))))⟩, ⟨_, rfl, .rowE (by repeat' (first | exact Lo.s _ | exact zai | exact zbf | refine zad ?_ ?_ | refine za5 ?_ ?_ | refine zak ?_ | refine zbg ?_ | refine Lo.cells ?_ | refine Lo.agg _ ?_ | refine Lo.sl _ ?_ | intro _)) rfl⟩, ⟨_, rfl, .rowE (by repeat' (first | exact Lo.s _ | exact zai | exact zbf | refine zad ?_ ?_ | refine za5 ?_ ?_ | refine zak ?_ | refine zbg ?_ | refine Lo.cells ?_ | refine Lo.agg _ ?_ | refine Lo.sl _ ?_ | intro _)) rfl⟩, ⟨_, rfl, .rowE (by repeat' (first | exact Lo.s _ | exact zai | exact zbf | refine zad ?_ ?_ | refine za5 ?_ ?_ | refine zak ?_ | refine zbg ?_ | refine Lo.cells ?_ | refine Lo.agg _ ?_ | refine Lo.sl _ ?_ | intro _)) rfl⟩, ⟨_, rfl, .rowE (by repeat' (first | exact Lo.s _ | exact zai | exact zbf | refine zad ?_ ?_ | refine za5 ?_ ?_ | refine zak ?_ | refine zbg ?_ | refine Lo.cells ?_ | refine Lo.agg _ ?_ | refine Lo.sl _ ?_ | intro _)) rfl⟩, ⟨_, rfl, .rowE zP_lo rfl⟩, ⟨_, rfl, .rowE (by repeat' (first | exact Lo.s _ | exact zai | exact zbf | refine zad ?_ ?_ | refine za5 ?_ ?_ | refine zak ?_ | refine zbg ?_ | refine Lo.cells ?_ | refine Lo.agg _ ?_ | refine Lo.sl _ ?_ | intro _)) rfl⟩, trivial⟩ ⟨.lo _ (by repeat' (first | exact Lo.s _ | exact zai | refine zad ?_ ?_ | refine zak ?_ | refine Lo.cells ?_ | refine Lo.agg _ ?_ | refine Lo.ref _ ?_ | refine Lo.tup _ ?_ | refine Lo.fn _ _ ?_ | refine Lo.sl _ ?_ | intro _)), .ptr 5 5 4 0 0 rfl, .ptr 0 0 4 0 0 rfl, .own 6 6 1 _ _ rfl rfl, .fn _ _ _ rfl (RnL.cons (.ptr 0 0 4 0 0 rfl) (RnL.cons (.lo _ hlL) RnL.nil)).2, .lo _ (by repeat' (first | exact Lo.s _ | exact zai | refine zad ?_ ?_ | refine zak ?_ | refine Lo.cells ?_ | refine Lo.agg _ ?_ | refine Lo.ref _ ?_ | refine Lo.tup _ ?_ | refine Lo.fn _ _ ?_ | refine Lo.sl _ ?_ | intro _)), .lo _ (by repeat' (first | exact Lo.s _ | exact zai | refine zad ?_ ?_ | refine zak ?_ | refine Lo.cells ?_ | refine Lo.agg _ ?_ | refine Lo.ref _ ?_ | refine Lo.tup _ ?_ | refine Lo.fn _ _ ?_ | refine Lo.sl _ ?_ | intro _)), .lo _ (by repeat' (first | exact Lo.s _ | exact zai | refine zad ?_ ?_ | refine zak ?_ | refine Lo.cells ?_ | refine Lo.agg _ ?_ | refine Lo.ref _ ?_ | refine Lo.tup _ ?_ | refine Lo.fn _ _ ?_ | refine Lo.sl _ ?_ | intro _)), trivial⟩⟩
    · rw [if_neg h68, List.append_nil] at hT
      subst hT
      refine zaf ?_
      refine zab rfl rfl (zaa rfl) (does_add rfl rfl rfl (IntWalk.i64_in _ (by omega))) ?_
      refine zab rfl rfl (zaa rfl) (mv_s (.inl rfl) rfl) ?_
      refine zam ?_
      repeat (first | refine zag ?_ | refine zap ?_ | refine zae ?_ | refine zar ?_ | refine zac ?_)
      exact ⟨k + 1, by omega, by omega, wk_st [0, 1, 2, 3, 4, 5, 6] (by decide) ⟨⟨_, rfl, obRn_agg (.cons (.own _ _ _ _ _ rfl rfl) (.cons (.own _ _ _ _ _ rfl rfl) (.cons (.own _ _ _ _ _ rfl rfl) (.cons (.own _ _ _ _ _ rfl rfl) .nil))))⟩, ⟨_, rfl, .rowE (by repeat' (first | exact Lo.s _ | exact zai | exact zbf | refine zad ?_ ?_ | refine za5 ?_ ?_ | refine zak ?_ | refine zbg ?_ | refine Lo.cells ?_ | refine Lo.agg _ ?_ | refine Lo.sl _ ?_ | intro _)) rfl⟩, ⟨_, rfl, .rowE (by repeat' (first | exact Lo.s _ | exact zai | exact zbf | refine zad ?_ ?_ | refine za5 ?_ ?_ | refine zak ?_ | refine zbg ?_ | refine Lo.cells ?_ | refine Lo.agg _ ?_ | refine Lo.sl _ ?_ | intro _)) rfl⟩, ⟨_, rfl, .rowE (by repeat' (first | exact Lo.s _ | exact zai | exact zbf | refine zad ?_ ?_ | refine za5 ?_ ?_ | refine zak ?_ | refine zbg ?_ | refine Lo.cells ?_ | refine Lo.agg _ ?_ | refine Lo.sl _ ?_ | intro _)) rfl⟩, ⟨_, rfl, .rowE (by repeat' (first | exact Lo.s _ | exact zai | exact zbf | refine zad ?_ ?_ | refine za5 ?_ ?_ | refine zak ?_ | refine zbg ?_ | refine Lo.cells ?_ | refine Lo.agg _ ?_ | refine Lo.sl _ ?_ | intro _)) rfl⟩, ⟨_, rfl, .rowE zP_lo rfl⟩, ⟨_, rfl, .rowE (by repeat' (first | exact Lo.s _ | exact zai | exact zbf | refine zad ?_ ?_ | refine za5 ?_ ?_ | refine zak ?_ | refine zbg ?_ | refine Lo.cells ?_ | refine Lo.agg _ ?_ | refine Lo.sl _ ?_ | intro _)) rfl⟩, trivial⟩ ⟨.lo _ (by repeat' (first | exact Lo.s _ | exact zai | refine zad ?_ ?_ | refine zak ?_ | refine Lo.cells ?_ | refine Lo.agg _ ?_ | refine Lo.ref _ ?_ | refine Lo.tup _ ?_ | refine Lo.fn _ _ ?_ | refine Lo.sl _ ?_ | intro _)), .ptr 5 5 4 0 0 rfl, .ptr 0 0 4 0 0 rfl, .own 6 6 1 _ _ rfl rfl, .fn _ _ _ rfl (RnL.cons (.ptr 0 0 4 0 0 rfl) (RnL.cons (.lo _ hlL) RnL.nil)).2, .lo _ (by repeat' (first | exact Lo.s _ | exact zai | refine zad ?_ ?_ | refine zak ?_ | refine Lo.cells ?_ | refine Lo.agg _ ?_ | refine Lo.ref _ ?_ | refine Lo.tup _ ?_ | refine Lo.fn _ _ ?_ | refine Lo.sl _ ?_ | intro _)), .lo _ (by repeat' (first | exact Lo.s _ | exact zai | refine zad ?_ ?_ | refine zak ?_ | refine Lo.cells ?_ | refine Lo.agg _ ?_ | refine Lo.ref _ ?_ | refine Lo.tup _ ?_ | refine Lo.fn _ _ ?_ | refine Lo.sl _ ?_ | intro _)), .lo _ (by repeat' (first | exact Lo.s _ | exact zai | refine zad ?_ ?_ | refine zak ?_ | refine Lo.cells ?_ | refine Lo.agg _ ?_ | refine Lo.ref _ ?_ | refine Lo.tup _ ?_ | refine Lo.fn _ _ ?_ | refine Lo.sl _ ?_ | intro _)), trivial⟩⟩
  · have e : k = l.length := by omega
    subst e
    (refine aw_exit ?_; repeat (first | refine ath_x ?_ | refine abl_hit ?_ | refine abl_miss rfl ?_ | refine zar ?_ | refine zap ?_ | refine zag ?_ | refine zae ?_ | refine zac ?_))
    refine zaf ?_
    first | refine zab rfl rfl (zaa rfl) (zax rfl ta49 ti49 rfl rfl) ?_ | refine zab rfl rfl (zaa rfl) (za6 rfl ta49 ti49 rfl rfl rfl rfl rfl) ?_ | refine zab rfl rfl (zaa rfl) (zav rfl ta49 ti49 rfl (Nat.le_of_ble_eq_true rfl)) ?_ | refine zab rfl rfl (zaa rfl) (za7 rfl ta49 ti49 rfl rfl rfl rfl (Nat.le_of_ble_eq_true rfl)) ?_
    first | refine zab rfl rfl (zaa rfl) (za9 (.inl rfl) rfl) ?_ | refine zab rfl rfl (zaa rfl) (zbp (.inl rfl) rfl) ?_ | refine zab rfl rfl (zaa rfl) (mv_s (.inl rfl) rfl) ?_ | refine zab rfl rfl (zaa rfl) (zba (.inl rfl) rfl) ?_
    refine ops_eff rfl (zaa rfl) (zbd rfl ti49 rfl rfl rfl rfl rfl rfl (by decide) (by decide)) ?_
    first | refine zab rfl rfl (zaa rfl) (za9 (.inr rfl) rfl) ?_ | refine zab rfl rfl (zaa rfl) (zbp (.inr rfl) rfl) ?_ | refine zab rfl rfl (zaa rfl) (mv_s (.inr rfl) rfl) ?_ | refine zab rfl rfl (zaa rfl) (zba (.inr rfl) rfl) ?_
    refine zam ?_
    repeat (first | refine zag ?_ | refine zap ?_ | refine zae ?_ | refine zar ?_ | refine zac ?_)
    (refine zbw ?_; repeat (first | refine ath_r ?_ | refine abl_r ?_))
    refine post_cs (N := 0) (.inr rfl) ta49 ti49 rfl rfl rfl rfl rfl rfl ?_ ?_
    · exact .agg _ _ rfl (FiniL.cons (.own _ _ _ _ _ rfl rfl rfl) (FiniL.cons (.own _ _ _ _ _ rfl rfl rfl) (FiniL.cons (.own _ _ _ _ _ rfl rfl rfl) (FiniL.cons (.own _ _ _ _ _ rfl rfl rfl) FiniL.nil)))).2
    · exact .own _ _ _ _ _ rfl rfl (by simp)
end Go.Proofs.Ytmoipmnhgdmkpaa.Aw
end
section
namespace Go.Proofs.Ytmoipmnhgdmkpaa.Aw
set_option linter.unusedSimpArgs false
set_option linter.unusedVariables false
open Go Go.RowKit

/-- a row of the call's own as a finished slice -/
def fin1 (s : Sto) : AV → AV
  | .own id sz n => match s.get id with
    | none => .own id sz n
    | some ob => match rowOf ob with
      | some (sz', cs) => bif Nat.beq sz' sz && Nat.beq n cs.length then .sl cs else .own id sz n
      | none => .own id sz n
  | .emp => .sl []
  | .s (.slice none 0 0) => .sl []
  | x => x
def fin2 (s : Sto) : AV → AV
  | .tup l => .tup (l.map (fin1 s))
  | .agg l => .agg (l.map (fin1 s))
  | x => fin1 s x
theorem fin1_ok (s : Sto) (x : AV) : Fini s.abs x (fin1 s x) := by
  unfold fin1
  split
  · rename_i id sz n
    split
    · exact .refl _
    · rename_i ob hob
      split
      · rename_i sz' cs hr
        generalize hb : (Nat.beq sz' sz && Nat.beq n cs.length) = b
        cases b with
        | false => exact .refl _
        | true =>
          simp only [Bool.and_eq_true] at hb
          obtain rfl := Nat.eq_of_beq_eq_true hb.1
          exact .own id sz' n ob cs (sto_at hob) hr (Nat.eq_of_beq_eq_true hb.2)
      · exact .refl _
  · exact .emp
  · exact .nil
  · exact .refl _
theorem fin2_ok (s : Sto) (x : AV) : Fini s.abs x (fin2 s x) := by
  unfold fin2
  split
  · rename_i l
    exact .tup _ _ (by simp) (fun j x y hx hy => by
      rw [List.getElem?_map, hx] at hy
      cases hy
      exact fin1_ok s x)
  · rename_i l
    exact .agg _ _ (by simp) (fun j x y hx hy => by
      rw [List.getElem?_map, hx] at hy
      cases hy
      exact fin1_ok s x)
  · exact fin1_ok s x
end Go.Proofs.Ytmoipmnhgdmkpaa.Aw
end
section
namespace Go.Proofs.Ytmoipmnhgdmkpaa.Aw
set_option linter.unusedSimpArgs false
set_option linter.unusedVariables false
set_option linter.unusedSectionVars false
open Go Go.RowKit Go.Proofs
variable {P : Program} [IsP P]

def unIs : List AV → Option (List Int)
  | [] => some []
  | .s (.int .i64 n) :: l => match unIs l with
    | some r => some (n :: r)
    | none => none
  | _ :: _ => none
theorem unIs_of : ∀ {l : List AV} {r : List Int}, unIs l = some r → l = r.map eI
  | [], r, h => by cases h; rfl
  | x :: l, r, h => by
    unfold unIs at h
    split at h
    · rename_i e; cases e
    · rename_i n l' e
      cases e
      split at h
      · rename_i r' hr
        cases h
        rw [unIs_of hr]; rfl
      · cases h
    · cases h
def unSh : AV → Option Sft
  | .agg [.sl p, .s (.int .i64 c), .s (.int .i64 m)] => match unIs p with
    | some p => some ⟨p, c, m⟩
    | none => none
  | _ => none
theorem unSh_of {x : AV} {s : Sft} (h : unSh x = some s) : x = eSh s := by
  unfold unSh at h
  split at h
  · split at h
    · rename_i r hr
      cases h
      rw [unIs_of hr]; rfl
    · cases h
  · cases h
def unShs : List AV → Option (List Sft)
  | [] => some []
  | x :: l => match unSh x, unShs l with
    | some s, some r => some (s :: r)
    | _, _ => none
theorem unShs_of : ∀ {l : List AV} {r : List Sft}, unShs l = some r → l = r.map eSh
  | [], r, h => by cases h; rfl
  | x :: l, r, h => by
    unfold unShs at h
    split at h
    · rename_i s r' h1 h2
      cases h
      rw [unSh_of h1, unShs_of h2]; rfl
    · cases h
def orcFirst (l : List AV) : Option AV := match unShs l with
  | some s => bif Nat.ble s.length 12 then some (eBx (zeroI s.length) (mostL s)) else none
  | none => none
def orcHalves (lo hi : List AV) (k t : Int) : Option AV := match unIs lo, unIs hi with
  | some lo, some hi => bif decide (0 ≤ k) && Nat.blt k.toNat lo.length && Nat.beq hi.length lo.length && Nat.ble lo.length 12 && decide (-1000 ≤ t) && decide (t ≤ 1000) then some (.tup [eBx lo (setI hi k.toNat t), eBx (setI lo k.toNat (t + 1)) hi]) else none
  | _, _ => none
def orcProgram (d l lo hi : List AV) : Option AV := match unIs d, unShs l, unIs lo, unIs hi with
  | some d, some l, some lo, some hi => bif validS d l && Nat.beq lo.length l.length && Nat.beq hi.length l.length then some (.tup [eP (prgE d l lo hi), eL eI (pe1 d d.length)]) else none
  | _, _, _, _ => none
def orcS : Orc := fun f args => match args with
  | [.emp] => bif Nat.beq f 50 then some .emp else none
  | [.sl l] => bif Nat.beq f 26 then orcFirst l else none
  | [.agg [.sl lo, .sl hi], .s (.int .i64 k), .s (.int .i64 t)] => bif Nat.beq f 41 then orcHalves lo hi k t else none
  | [.sl d, .sl l, .agg [.sl lo, .sl hi]] => bif Nat.beq f 31 then orcProgram d l lo hi else none
  | _ => none
theorem orcS_ok : OrcOk P orcS := by
  intro f args r h
  unfold orcS at h
  split at h
  · cases hb : Nat.beq f 50 with
    | false => rw [hb] at h; cases h
    | true => rw [hb, cond_true] at h; cases h; rw [Nat.eq_of_beq_eq_true hb]; exact cloneE_pf
  · rename_i l
    cases hb : Nat.beq f 26 with
    | false => rw [hb] at h; cases h
    | true =>
      rw [hb, cond_true] at h
      unfold orcFirst at h
      split at h
      · rename_i s hs
        cases hc : Nat.ble s.length 12 with
        | false => rw [hc] at h; cases h
        | true =>
          rw [hc] at h; cases h
          rw [Nat.eq_of_beq_eq_true hb, unShs_of hs]
          exact first_pf s (Nat.le_of_ble_eq_true hc)
      · cases h
  · rename_i lo hi k t
    cases hb : Nat.beq f 41 with
    | false => rw [hb] at h; cases h
    | true =>
      rw [hb, cond_true] at h
      unfold orcHalves at h
      split at h
      · rename_i lo' hi' h1 h2
        cases hc : (decide (0 ≤ k) && Nat.blt k.toNat lo'.length && Nat.beq hi'.length lo'.length && Nat.ble lo'.length 12 && decide (-1000 ≤ t) && decide (t ≤ 1000)) with
        | false => rw [hc] at h; cases h
        | true =>
          rw [hc] at h; cases h
          simp only [Bool.and_eq_true, decide_eq_true_eq] at hc
          obtain ⟨⟨⟨⟨⟨c1, c2⟩, c3⟩, c4⟩, c5⟩, c6⟩ := hc
          rw [Nat.eq_of_beq_eq_true hb, unIs_of h1, unIs_of h2]
          have := halves_pf (P := P) lo' hi' k.toNat t (by simpa [Nat.blt_eq] using c2) (Nat.eq_of_beq_eq_true c3) (Nat.le_of_ble_eq_true c4) c5 c6
          rw [Int.toNat_of_nonneg c1] at this
          exact this
      · cases h
  · rename_i d l lo hi
    cases hb : Nat.beq f 31 with
    | false => rw [hb] at h; cases h
    | true =>
      rw [hb, cond_true] at h
      unfold orcProgram at h
      split at h
      · rename_i d' l' lo' hi' h1 h2 h3 h4
        cases hc : (validS d' l' && Nat.beq lo'.length l'.length && Nat.beq hi'.length l'.length) with
        | false => rw [hc] at h; cases h
        | true =>
          rw [hc] at h; cases h
          simp only [Bool.and_eq_true] at hc
          rw [Nat.eq_of_beq_eq_true hb, unIs_of h1, unShs_of h2, unIs_of h3, unIs_of h4]
          exact program_pf d' l' lo' hi' hc.1.1 (Nat.eq_of_beq_eq_true hc.1.2) (Nat.eq_of_beq_eq_true hc.2)
      · cases h
  · cases h
def orcG : Orc := fun f args => match orcS f args with
  | some r => some r
  | none => orcF f args
theorem orcG_ok : OrcOk P orcG := by
  intro f args r h
  unfold orcG at h
  split at h
  · rename_i r' hr
    cases h
    exact orcS_ok f args _ hr
  · exact orcF_ok f args r h
def fin3 (s : Sto) : AV → AV
  | .tup l => .tup (l.map (fin2 s))
  | x => fin2 s x
theorem fin3_ok (s : Sto) (x : AV) : Fini s.abs x (fin3 s x) := by
  unfold fin3
  split
  · rename_i l
    exact .tup _ _ (by simp) (fun j x y hx hy => by
      rw [List.getElem?_map, hx] at hy
      cases hy
      exact fin2_ok s x)
  · exact fin2_ok s x
def chkPure3 (P : Program) (orc : Orc) (n : Nat) (f : FuncId) (args : List AV) (r : AV) : Bool := match evCall P orc n f args Sto.nil with
  | some (x, s, _) => avEq (fin3 s x) r && loB 0 r && losB 0 args
  | none => false
theorem chkPure3_ok {P : Program} {orc : Orc} (hm : P.follows .mixedOrders = true) (ho : OrcOk P orc) {n : Nat} {f : FuncId} {args : List AV} {r : AV} (h : chkPure3 P orc n f args r = true) : Pure P f args r := by
  unfold chkPure3 at h
  split at h
  · rename_i x s W he
    simp only [Bool.and_eq_true] at h
    obtain ⟨⟨h1, h2⟩, h3⟩ := h
    have hf := fin3_ok s x
    rw [avEq_of _ _ h1] at hf
    have hc := (evCall_ok hm ho n f args _ _ _ _ he).1
    refine ⟨hc.ent, loB_of r h2, fun G vargs hst hsz hrep => ?_⟩
    let G0 : Cx := { base := G.w.heap.size, w0 := G.w, w := G.w, mu := fun _ => none, St := G.St }
    have hrel : Rel G0 Sto.nil.abs := ⟨Below.refl _ _, Nat.le_refl _, hst, by simp [Sto.abs_nil], by rintro i j b ⟨_, _, h⟩; simp [Sto.abs_nil] at h, fun _ _ => rfl⟩
    have hlo := losB_of args h3
    refine (hc.call G0 vargs hrel hsz (fun j v x hv hx => (hrep j v x hv hx).low (hlo x (List.mem_of_getElem? hx)) (fun _ _ h => h) (fun _ _ _ => rfl) (fun id y h => by omega) (fun h => by omega))).mono ?_
    rintro e w' ⟨v, G', rfl, rfl, he', hr', hv⟩
    have hbase : G'.base = G.w.heap.size := he'.base
    have hbel : Below G.w.heap.size G.w G'.w := by have := hr'.below; rw [hbase, he'.w0] at this; exact this
    have hfin := fin_rep (B := G.w.heap.size) hr' (by omega) hf hv
    refine ⟨v, G'.all G.w.heap.size, rfl, rfl, hbel, fun b o h => .inl (he'.st b o h), fun b o h => ?_, fun b o h => ?_, hfin⟩
    · rcases h with h | h
      · exact he'.stN b o h
      · exact .inr h.1
    · rcases h with h | h
      · exact hr'.st b o h
      · exact h.2
  · cases h
end Go.Proofs.Ytmoipmnhgdmkpaa.Aw
end
section
namespace Go.Proofs.Ytmoipmnhgdmkpaa.Aw
set_option linter.unusedSimpArgs false
set_option linter.unusedVariables false
set_option linter.unusedSectionVars false
open Go Go.RowKit

def stoEq (a b : Sto) : Bool := Nat.beq a.len b.len && (List.range a.len).all fun i => oEq (a.get i) (b.get i)
theorem stoEq_of {a b : Sto} (h : stoEq a b = true) : a.abs = b.abs := by
  unfold stoEq at h
  simp only [Bool.and_eq_true] at h
  have hl := Nat.eq_of_beq_eq_true h.1
  refine List.ext_getElem? fun i => ?_
  by_cases hi : i < a.len
  · have := oEq_of (List.all_eq_true.1 h.2 i (by simpa using hi))
    rw [← Sto.get_abs, ← Sto.get_abs]; exact this
  · rw [List.getElem?_eq_none (by rw [Sto.abs_len]; omega), List.getElem?_eq_none (by rw [Sto.abs_len]; omega)]
/-- a call that was evaluated apart -/
structure Ent where
  f : FuncId
  args : List AV
  s : Sto
  r : AV
  s' : Sto
  W : List Nat
def Ent.ok (P : Program) (e : Ent) : Prop := CallE P e.f e.args e.s.abs e.r e.s'.abs ∧ Chg e.s e.s' e.W
def chkEnt (P : Program) (orc : Orc) (n : Nat) (e : Ent) : Bool := match evCall P orc n e.f e.args e.s with
  | some (x, s1, W1) => avEq x e.r && stoEq s1 e.s' && W1.all (fun i => e.W.contains i)
  | none => false
theorem ent_ok {P : Program} {orc : Orc} (hm : P.follows .mixedOrders = true) (ho : OrcOk P orc) {n : Nat} {e : Ent} (h : chkEnt P orc n e = true) : e.ok P := by
  unfold chkEnt at h
  split at h
  · rename_i x s1 W1 he
    simp only [Bool.and_eq_true] at h
    obtain ⟨⟨h1, h2⟩, h3⟩ := h
    obtain ⟨c1, c2⟩ := evCall_ok hm ho n _ _ _ _ _ _ he
    rw [avEq_of _ _ h1, stoEq_of h2] at c1
    refine ⟨c1, fun id hid => ?_⟩
    rw [← stoEq_of h2]
    refine c2 id (fun hm => hid ?_)
    have := List.all_eq_true.1 h3 id hm
    simpa using this
  · cases h
def tabOf : List Ent → CallF
  | [] => fun _ _ _ => none
  | e :: l => fun f args s => bif Nat.beq f e.f && avsEq args e.args && stoEq s e.s then some (e.r, e.s', e.W) else tabOf l f args s
theorem tabOf_ok {P : Program} : ∀ (l : List Ent), (∀ e ∈ l, e.ok P) → CallOk P (tabOf l)
  | [], _ => fun f args s r s' W h => by cases h
  | e :: l, hl => fun f args s r s' W h => by
    unfold tabOf at h
    cases hb : (Nat.beq f e.f && avsEq args e.args && stoEq s e.s) with
    | false => rw [hb] at h; exact tabOf_ok l (fun e he => hl e (List.mem_cons_of_mem _ he)) f args s r s' W h
    | true =>
      rw [hb] at h; cases h
      simp only [Bool.and_eq_true] at hb
      obtain ⟨⟨h1, h2⟩, h3⟩ := hb
      obtain ⟨c1, c2⟩ := hl e List.mem_cons_self
      rw [Nat.eq_of_beq_eq_true h1, avsEq_of _ _ h2, stoEq_of h3]
      refine ⟨c1, fun id hid => ?_⟩
      rw [stoEq_of h3]
      exact c2 id hid
section
variable (P : Program) (orc : Orc) (tab : CallF)
def evCallT : Nat → CallF
  | 0 => fun _ _ _ => none
  | n + 1 => fun f args s => match tab f args s with
    | some x => some x
    | none => match P.funcs[f]? with
    | none => none
    | some fn => match fn.body with
      | none => none
      | some c => bif (fn.name == "runtime.NumGoroutine") || !(Nat.ble args.length fn.ntmps) then none else match (mkCode P orc (evCallT n) fn.ntmps c).run n (argT 0 args) s [] with
        | some (.normal, t, s', W) => retOf P s.len fn.results.toList t s' W
        | some (.ret, t, s', W) => retOf P s.len fn.results.toList t s' W
        | _ => none
end
section
variable {P : Program} {orc : Orc} {tab : CallF}
theorem evCallT_ok (hm : P.follows .mixedOrders = true) (ho : OrcOk P orc) (ht : CallOk P tab) : ∀ n, CallOk P (evCallT P orc tab n)
  | 0 => fun f args s r s' W h => by cases h
  | n + 1 => fun f args s r s' W h => by
    have ih := evCallT_ok hm ho ht n
    unfold evCallT at h
    split at h
    · rename_i x hx
      cases h
      exact ht _ _ _ _ _ _ hx
    split at h
    · cases h
    · rename_i fn hf
      split at h
      · cases h
      · rename_i c hb
        generalize hg : ((fn.name == "runtime.NumGoroutine") || !(Nat.ble args.length fn.ntmps)) = g at h
        cases g with
        | true => cases h
        | false =>
          rw [cond_false] at h
          simp only [Bool.or_eq_false_iff, Bool.not_eq_false'] at hg
          have hcode := mkCode_ok (N := fn.ntmps) hm ho ih c
          have main : ∀ e t s1 W1, (e = .normal ∨ e = .ret) → (mkCode P orc (evCallT P orc tab n) fn.ntmps c).run n (argT 0 args) s [] = some (e, t, s1, W1) → retOf P s.len fn.results.toList t s1 W1 = some (r, s', W) → CallE P f args s.abs r s'.abs ∧ Chg s s' W := by
            intro e t s1 W1 he hrun hret
            obtain ⟨h1, h2, _⟩ := hcode n (argF 0 args) (argT 0 args) s [] _ (argT_ok args 0) hrun
            unfold retOf at hret
            split at hret
            · rename_i xs hx
              have hret := Option.some.inj hret
              refine keepOr_ok (callE_fn hf hg.1 hb (Nat.le_of_ble_eq_true hg.2) (ew_mono h1 ?_)) (h2 s (.refl s)) hret
              rintro e F2 σ2 ⟨rfl, hF2, rfl⟩
              exact ⟨he, rfl, xs, evResL_ok hF2 hx, rfl⟩
            · cases hret
          split at h
          · rename_i t s1 W1 he; exact main _ _ _ _ (.inl rfl) he h
          · rename_i t s1 W1 he; exact main _ _ _ _ (.inr rfl) he h
          · cases h
def fin4 (s : Sto) : AV → AV
  | .tup l => .tup (l.map (fin2 s))
  | x => fin2 s x
theorem fin4_ok (s : Sto) (x : AV) : Fini s.abs x (fin4 s x) := by
  unfold fin4
  split
  · rename_i l
    exact .tup _ _ (by simp) (fun j x y hx hy => by
      rw [List.getElem?_map, hx] at hy
      cases hy
      exact fin2_ok s x)
  · exact fin2_ok s x
def chkPureT (P : Program) (orc : Orc) (tab : CallF) (n : Nat) (f : FuncId) (args : List AV) (r : AV) : Bool := match evCallT P orc tab n f args Sto.nil with
  | some (x, s, _) => avEq (fin4 s x) r && loB 0 r && losB 0 args
  | none => false
theorem chkPureT_ok (hm : P.follows .mixedOrders = true) (ho : OrcOk P orc) (ht : CallOk P tab) {n : Nat} {f : FuncId} {args : List AV} {r : AV} (h : chkPureT P orc tab n f args r = true) : Pure P f args r := by
  unfold chkPureT at h
  split at h
  · rename_i x s W he
    simp only [Bool.and_eq_true] at h
    obtain ⟨⟨h1, h2⟩, h3⟩ := h
    have hf := fin4_ok s x
    rw [avEq_of _ _ h1] at hf
    have hc := (evCallT_ok hm ho ht n f args _ _ _ _ he).1
    refine ⟨hc.ent, loB_of r h2, fun G vargs hst hsz hrep => ?_⟩
    let G0 : Cx := { base := G.w.heap.size, w0 := G.w, w := G.w, mu := fun _ => none, St := G.St }
    have hrel : Rel G0 Sto.nil.abs := ⟨Below.refl _ _, Nat.le_refl _, hst, by simp [Sto.abs_nil], by rintro i j b ⟨_, _, h⟩; simp [Sto.abs_nil] at h, fun _ _ => rfl⟩
    have hlo := losB_of args h3
    refine (hc.call G0 vargs hrel hsz (fun j v x hv hx => (hrep j v x hv hx).low (hlo x (List.mem_of_getElem? hx)) (fun _ _ h => h) (fun _ _ _ => rfl) (fun id y h => by omega) (fun h => by omega))).mono ?_
    rintro e w' ⟨v, G', rfl, rfl, he', hr', hv⟩
    have hbase : G'.base = G.w.heap.size := he'.base
    have hbel : Below G.w.heap.size G.w G'.w := by have := hr'.below; rw [hbase, he'.w0] at this; exact this
    have hfin := fin_rep (B := G.w.heap.size) hr' (by omega) hf hv
    refine ⟨v, G'.all G.w.heap.size, rfl, rfl, hbel, fun b o h => .inl (he'.st b o h), fun b o h => ?_, fun b o h => ?_, hfin⟩
    · rcases h with h | h
      · exact he'.stN b o h
      · exact .inr h.1
    · rcases h with h | h
      · exact hr'.st b o h
      · exact h.2
  · cases h
end
end Go.Proofs.Ytmoipmnhgdmkpaa.Aw
end
