import Derived.Test.YtllkbjcemecmjaaJR9
import Derived.Test.YtllkbjcemecmjaaJR6
import Derived.Test.YtllkbjcemecmjaaJR5
import Derived.Test.YtllkbjcemecmjaaJR7
set_option linter.unusedSimpArgs false
set_option linter.unusedVariables false
set_option linter.unusedSectionVars false
section
namespace Go.Proofs.Ytllkbjcemecmjaa.Aw
open Go.RowKit Go.Proofs
variable {P : Program} [IsP P]
abbrev Tr := List Fr × Int × Int
def tA (T : List Tr) : List (List Fr) := T.map Prod.fst
def tR (T : List Tr) : List Int := T.map fun t => t.2.1
def tB (T : List Tr) : List Fr := T.map fun t => Fr.of t.2.2
theorem tA_snoc (T : List Tr) (u : List Fr) (r v : Int) : tA (T ++ [(u, r, v)]) = tA T ++ [u] := by simp [tA]
theorem tR_snoc (T : List Tr) (u : List Fr) (r v : Int) : tR (T ++ [(u, r, v)]) = tR T ++ [r] := by simp [tR]
theorem tB_snoc (T : List Tr) (u : List Fr) (r v : Int) : tB (T ++ [(u, r, v)]) = tB T ++ [Fr.of v] := by simp [tB]
def uD (l : List Sft) (k : Nat) : List Fr := unitL l.length fun i => inB (gti l i).pd k
def uK (l : List Sft) (k : Nat) : List Fr := unitL l.length fun i => decide (i = k)
def t1 (d : List Int) (l : List Sft) : Nat → List Tr
 | 0 => []
 | n + 1 => t1 d l n ++ if 0 < gti d n then [(uD l n, 2, gti d n)] else []
def pe1 (d : List Int) : Nat → List Int
 | 0 => []
 | n + 1 => pe1 d n ++ if 0 < gti d n then [(n : Int)] else []
def t2 (d : List Int) (l : List Sft) (lo hi : List Int) : Nat → List Tr
 | 0 => t1 d l d.length
 | n + 1 => (t2 d l lo hi n ++ [(uK l n, 1, gti hi n)]) ++ if 0 < gti lo n then [(uK l n, 2, gti lo n)] else []
theorem t1_len (d : List Int) (l : List Sft) : ∀ n, (t1 d l n).length ≤ n
 | 0 => by simp [t1]
 | n + 1 => by
  have := t1_len d l n
  unfold t1
  split <;> simp <;> omega
theorem t2_len (d : List Int) (l : List Sft) (lo hi : List Int) : ∀ n, (t2 d l lo hi n).length ≤ d.length + 2 * n
 | 0 => by have := t1_len d l d.length; simpa [t2] using this
 | n + 1 => by
  have := t2_len d l lo hi n
  unfold t2
  split <;> simp <;> omega
theorem pe1_len (d : List Int) : ∀ n, (pe1 d n).length ≤ n
 | 0 => by simp [pe1]
 | n + 1 => by
  have := pe1_len d n
  unfold pe1
  split <;> simp <;> omega
def costL (l : List Sft) : List Fr := l.map fun s => Fr.of s.cost
theorem costL_len (l : List Sft) : (costL l).length = l.length := by simp [costL]
theorem costL_gti {l : List Sft} {k : Nat} (h : k < l.length) : gti (costL l) k = Fr.of (gti l k).cost := by
 have h1 : (costL l)[k]? = some (Fr.of (gti l k).cost) := by
  unfold costL
  rw [List.getElem?_map, zdp h]; rfl
 unfold gti at *
 rw [h1]; rfl
def prgE (d : List Int) (l : List Sft) (lo hi : List Int) : LP := ⟨costL l, tA (t2 d l lo hi l.length), tR (t2 d l lo hi l.length), tB (t2 d l lo hi l.length)⟩
theorem post_cs {N : Nat} {F : Frm} {σ : List Ob} {ad u : Nat} {ty : TypeId} {id sz k n bt : Nat} {z : Option Value} {ob : Ob} {cs : List AV} {e1 r1 y r2 : AV} {e : Exit} (he : e = .normal ∨ e = .ret) (ha : zc0 P ty = some true) (hi : zbl P ty = some (z, n, bt)) (hp : F.get ad = .ptr id sz k 0) (hs : σ[id]? = some ob) (ho : rowOf ob = some (sz, cs)) (hk : cs[k]? = some e1) (hn : e1.cells.length = n) (hu : F.get u = y) (hr1 : Fini σ (.agg e1.cells) r1) (hr2 : Fini σ y r2) : APost P [.cell ad ty, .tmp u] (.tup [r1, r2]) e F σ :=
 ⟨he, [.agg e1.cells, y], .cons _ _ _ _ (.cells ad ty id sz k n bt z ob cs e1 ha hi hp hs ho hk hn) (.cons _ _ _ _ (.tmp u y hu) .nil), .tup _ _ rfl (zbb.cons hr1 (zbb.cons hr2 zbb.nil)).2⟩
def zP : AV := .agg [.s (.slice none 0 0), .s (.slice none 0 0), .s (.slice none 0 0), .s (.slice none 0 0)]
theorem zP_lo : ∀ e ∈ [zP], ∀ c ∈ e.cells, Lo 0 c := by
 intro e he c hc
 simp at he; subst he
 simp [zP, AV.cells] at hc; subst hc; exact .s _
def stP (C : List Fr) (T : List Tr) (pe : List Int) : List Ob := [.row 4 [pgS 1 2 3 4 C (tA T) (tR T) (tB T)], .row 2 (C.map eF), .row 1 ((tA T).map (eL eF)), .row 1 ((tR T).map eI), .row 2 ((tB T).map eF), .row 4 [zP], .row 1 (pe.map eI)]
def stQ (C : List Fr) (T : List Tr) (pe : List Int) : List Ob := [.row 4 [pgS 1 7 8 9 C (tA T) (tR T) (tB T)], .row 2 (C.map eF), .dead, .dead, .dead, .row 4 [zP], .row 1 (pe.map eI), .row 1 ((tA T).map (eL eF)), .row 1 ((tR T).map eI), .row 2 ((tB T).map eF)]
theorem prog1T (l : List Sft) (hl : l.length ≤ 12) (C : List Fr) (T : List Tr) (hT : T.length ≤ 60) (pe : List Int) (f : FuncId) (caps : List AV) (p : Nat → Bool) (hlc : Lo 0 (.fn f caps)) (hf : ∀ i, i < l.length → Pure P f ([eI i] ++ caps) (eB (p i))) (rel v : Int) :
  CallE P 45 [.fn f caps, eI rel, eI v, .ptr 0 4 0 0, .ref [eL eSh l]] (stP C T pe) (.tup []) (stQ C (T ++ [(unitL l.length p, rel, v)]) pe) := by
 have h := prog1_call (P := P) l.length hl l rfl C (tA T) (tR T) (tB T) (by simpa [tA] using hT) (by simpa [tR] using hT) (by simpa [tB] using hT) (.row 4 [zP]) (.row 1 (pe.map eI)) f caps p hlc hf rel v
 unfold stQ stP
 rw [tA_snoc, tR_snoc, tB_snoc]
 exact h
set_option maxHeartbeats 8000000 in
theorem program_pf (d : List Int) (l : List Sft) (lo hi : List Int) (hv : zb6 d l = true) (hlo : lo.length = l.length) (hhi : hi.length = l.length) : Pure P 32 [eL eI d, eL eSh l, eBx lo hi] (.tup [eP (prgE d l lo hi), eL eI (pe1 d d.length)]) := by
 obtain ⟨⟨q1, q2, q3⟩, qd, ql⟩ := zb0 hv
 have hlL : Lo 0 (.ref [eL eSh l]) := (by repeat' (first | exact Lo.s _ | exact zak | refine zag ?_ ?_ | refine zan ?_ | refine Lo.cells ?_ | refine Lo.agg _ ?_ | refine Lo.ref _ ?_ | refine Lo.tup _ ?_ | refine Lo.fn _ _ ?_ | refine Lo.sl _ ?_ | intro _))
 refine zcu (by rw [IsP.eq (P := P)]; exact Try.func32) rfl rfl rfl rfl rfl (by repeat' (first | exact Lo.s _ | exact zak | refine zag ?_ ?_ | refine zan ?_ | refine Lo.agg _ ?_ | refine Lo.sl _ ?_ | intro _)) (by repeat' (first | exact Lo.s _ | exact zak | refine zag ?_ ?_ | refine zan ?_ | refine Lo.cells ?_ | refine Lo.agg _ ?_ | refine Lo.ref _ ?_ | refine Lo.tup _ ?_ | refine Lo.fn _ _ ?_ | refine Lo.sl _ ?_ | intro _)) (by simp only [argF]; rfl) ?_
 refine zah (zab (zaf rfl rfl (zaa rfl) (zb4 rfl rfl rfl rfl) ?_))
 refine za5 (zbs (id := 0) rfl) (za5 (zch (d := 4) rfl rfl rfl) ?_)
 refine zaf rfl rfl (zaa rfl) (zb4 rfl rfl rfl rfl) ?_
 refine za5 (zbs (id := 1) rfl) (za5 (zch (d := 5) rfl rfl rfl) ?_)
 refine zaf rfl rfl (zaa rfl) (za0 rfl ti47 rfl rfl) (zac rfl (zae (zah (zab (zaf rfl rfl (zaa rfl) (za0 rfl ti47 rfl rfl) (zae (zah (zab (zac rfl (zae (zah (zah (zab (zby ta23 rfl (zaf rfl rfl (zaa rfl) (zao rfl ts23 rfl) (zac rfl (zae (zai (zaw ?_)))))))))))))))))))
 refine zbi (wk_ownC (id := 3) (sz2 := 2) (e' := .agg [.own 4 2 0, .s (.slice none 0 0), .s (.slice none 0 0), .s (.slice none 0 0)]) (pre := []) (post := [.s (.slice none 0 0), .s (.slice none 0 0), .s (.slice none 0 0)]) rfl rfl rfl) ?_
 refine zbi (wk_ownC (id := 3) (sz2 := 1) (e' := .agg [.own 4 2 0, .own 5 1 0, .s (.slice none 0 0), .s (.slice none 0 0)]) (pre := [.own 4 2 0]) (post := [.s (.slice none 0 0), .s (.slice none 0 0)]) rfl rfl rfl) ?_
 refine zbi (wk_ownC (id := 3) (sz2 := 1) (e' := .agg [.own 4 2 0, .own 5 1 0, .own 6 1 0, .s (.slice none 0 0)]) (pre := [.own 4 2 0, .own 5 1 0]) (post := [.s (.slice none 0 0)]) rfl rfl rfl) ?_
 refine zbi (wk_ownC (id := 3) (sz2 := 2) (e' := .agg [.own 4 2 0, .own 5 1 0, .own 6 1 0, .own 7 2 0]) (pre := [.own 4 2 0, .own 5 1 0, .own 6 1 0]) (post := []) rfl rfl rfl) ?_
 refine zbi (wk_own (d := 9) 1 rfl (.inr rfl)) ?_
 refine zca (S := Nat) (fun k => [(0, eL eI d), (4, .ref [eL eSh l]), (5, .ref (eBx lo hi).cells), (6, .ptr 5 4 0 0), (8, .ptr 0 4 0 0), (9, .own 6 1 0), (16, eL eSh l), (17, eI l.length), (18, eI k)]) (fun k => stP ((costL l).take k) [] []) (fun k => k ≤ l.length) (fun k => l.length - k) 0
  (zck [3, 4, 5, 6, 7, 2, 8] (by decide) ⟨⟨_, rfl, zc2 (.cons (.own _ _ _ _ _ rfl rfl) (.cons (.own _ _ _ _ _ rfl rfl) (.cons (.own _ _ _ _ _ rfl rfl) (.cons (.own _ _ _ _ _ rfl rfl) .nil))))⟩, ⟨_, rfl, .rowE (za2) rfl⟩, ⟨_, rfl, .rowE (za2) rfl⟩, ⟨_, rfl, .rowE (za2) rfl⟩, ⟨_, rfl, .rowE (za2) rfl⟩, ⟨_, rfl, .rowE zP_lo rfl⟩, ⟨_, rfl, .rowE (za2) rfl⟩, trivial⟩ ⟨.lo _ (zan fun _ => .s _), .lo _ hlL, .lo _ (by repeat' (first | exact Lo.s _ | exact zak | refine zag ?_ ?_ | refine zan ?_ | refine Lo.cells ?_ | refine Lo.agg _ ?_ | refine Lo.ref _ ?_ | refine Lo.tup _ ?_ | refine Lo.fn _ _ ?_ | refine Lo.sl _ ?_ | intro _)), .ptr 2 5 4 0 0 rfl, .ptr 3 0 4 0 0 rfl, .own 8 6 1 _ _ rfl rfl, .lo _ (by repeat' (first | exact Lo.s _ | exact zak | refine zag ?_ ?_ | refine zan ?_ | refine Lo.agg _ ?_ | refine Lo.sl _ ?_ | intro _)), .lo _ (.s _), .lo _ (.s _), trivial⟩) (Nat.zero_le _) (fun k hk => ?_)
 have hcl := costL_len l
 refine zah (zab ?_)
 refine za3 rfl rfl (zaa rfl) (za4 rfl rfl rfl) (fun h19 => ?_) (fun h19 => ?_)
 all_goals refine zae (zah ?_)
 all_goals (first | refine za7 rfl ?_ | refine za1 rfl ?_)
 all_goals (repeat (first | refine zah ?_ | refine zat ?_ | refine zaw ?_))
 ·
  have hlt : k < l.length := by omega
  have htk : (((costL l).take k).map eF).length = k := by simp; omega
  have hrow : ((costL l).take (k + 1)).map eF = ((costL l).take k).map eF ++ [eF (Fr.of (gti l k).cost)] := by
   rw [zcw (by omega), List.map_append, costL_gti hlt]; rfl
  have hrl : (((costL l).take (k + 1)).map eF).length = (((costL l).take k).map eF).length + 1 := by rw [hrow]; simp
  refine zab (zaf rfl rfl (zaa rfl) (zal rfl ts23 ti39 rfl rfl rfl (zbd (by omega)) rfl) (zc5 ta39 ti39 rfl (zaf rfl rfl (zaa rfl) (za0 rfl ti39 rfl rfl) (zbe rfl (zaa rfl) (zaj rfl ti39 rfl rfl rfl rfl rfl rfl (by decide) (by decide)) (zae (zai ?_))))))
  refine zbi (zbs (id := 7) rfl) ?_
  refine zbi (zch (d := 11) rfl rfl rfl) ?_
  refine zcj hmix ?_
  refine zdg ?_
  refine ex_f tf47_0 rfl (zbt rfl rfl (zaa rfl) (zbn rfl ta30 rfl rfl rfl rfl rfl) (ex_f tf39_1 rfl (ex_l ta3 rfl (zaz rfl rfl (zaa rfl) (fun _ => (zam rfl rfl ((whole_pf _)) (zad rfl zaq))) (zaz rfl rfl (zaa rfl) (fun _ => (zcr rfl ts30 ti51 rfl rfl (by decide) (by decide) rfl rfl rfl (.agg _ (zag (.s _) (zag (.s _) zak))))) ?_)))))
  refine zdh rfl rfl (zaa rfl) (zbm rfl ts30 ti51 rfl (by decide) rfl rfl (by first | rfl | (simp; done) | (simp; omega)) rfl (by first | exact .own _ _ _ rfl rfl _ (by first | rfl | simp) | exact .emp | exact .nil | exact .sl _ (by first | simp; done | intro e he; simp at he; obtain ⟨_, _, rfl⟩ := he; rfl)) (by first | omega | (simp; omega) | (unfold maxLen; simp; omega)) (by first | omega | (simp; omega) | (unfold maxLen; simp; omega))) (fun _ h => zcp h) ?_
  refine ex_f tf47_0 rfl ?_
  refine zci rfl (zaa rfl) (zaj rfl ti30 rfl rfl rfl rfl rfl rfl (by decide) (by decide)) (fun _ h => zbr h) ?_
  refine zcc (by kernel_rfl) ?_
  refine zbu (zai (zab (zaf rfl rfl (zaa rfl) (zav rfl rfl rfl (IntWalk.i64_in _ (by omega))) (zac rfl (zae (zai ?_))))))
  exact ⟨k + 1, by omega, by omega, zck [0, 8, 2, 3, 4, 5, 6] (by decide) ⟨⟨_, rfl, zc2 (.cons (.own _ _ _ _ _ rfl hrl.symm) (.cons (.own _ _ _ _ _ rfl rfl) (.cons (.own _ _ _ _ _ rfl rfl) (.cons (.own _ _ _ _ _ rfl rfl) .nil))))⟩, ⟨_, rfl, .rowE (by repeat' (first | exact Lo.s _ | exact za2 | refine zax ?_ ?_ | refine zar ?_ | refine Lo.cells ?_ | refine Lo.agg _ ?_ | exact zak | refine zag ?_ ?_ | intro _)) (Eq.trans (b := ((costL l).take k).map eF ++ [eF (Fr.of (gti l k).cost)]) rfl hrow.symm)⟩, ⟨_, rfl, .rowE (za2) rfl⟩, ⟨_, rfl, .rowE (za2) rfl⟩, ⟨_, rfl, .rowE (za2) rfl⟩, ⟨_, rfl, .rowE zP_lo rfl⟩, ⟨_, rfl, .rowE (za2) rfl⟩, trivial⟩ ⟨.lo _ (zan fun _ => .s _), .lo _ hlL, .lo _ (by repeat' (first | exact Lo.s _ | exact zak | refine zag ?_ ?_ | refine zan ?_ | refine Lo.cells ?_ | refine Lo.agg _ ?_ | refine Lo.ref _ ?_ | refine Lo.tup _ ?_ | refine Lo.fn _ _ ?_ | refine Lo.sl _ ?_ | intro _)), .ptr 5 5 4 0 0 rfl, .ptr 0 0 4 0 0 rfl, .own 6 6 1 _ _ rfl rfl, .lo _ (by repeat' (first | exact Lo.s _ | exact zak | refine zag ?_ ?_ | refine zan ?_ | refine Lo.agg _ ?_ | refine Lo.sl _ ?_ | intro _)), .lo _ (.s _), .lo _ (.s _), trivial⟩⟩
 (refine zcl ?_; repeat (first | refine zc3 ?_ | refine zb2 ?_ | refine zbq rfl ?_ | refine zbu ?_ | refine zai ?_ | refine zah ?_ | refine zat ?_ | refine zaw ?_))
 have e : (costL l).take k = costL l := List.take_of_length_le (by omega)
 rw [e]
 refine zab (zaf rfl rfl (zaa rfl) (does_func rfl rfl) (zac rfl (zae (zah (zah (zab (zac rfl (zaf rfl rfl (zaa rfl) (zao rfl ts22 rfl) (zac rfl (zae (zai (zaw ?_))))))))))))
 refine zca (S := Nat) (fun n => [(4, .ref [eL eSh l]), (5, .ref (eBx lo hi).cells), (6, .ptr 5 4 0 0), (8, .ptr 0 4 0 0), (9, .own 6 1 (pe1 d n).length), (12, .fn 45 [.ptr 0 4 0 0, .ref [eL eSh l]]), (32, eL eI d), (33, eI d.length), (34, eI n)]) (fun n => stP (costL l) (t1 d l n) (pe1 d n)) (fun n => n ≤ d.length) (fun n => d.length - n) 0
  (zck [0, 1, 2, 3, 4, 5, 6] (by decide) ⟨⟨_, rfl, zc2 (.cons (.own _ _ _ _ _ rfl rfl) (.cons (.own _ _ _ _ _ rfl rfl) (.cons (.own _ _ _ _ _ rfl rfl) (.cons (.own _ _ _ _ _ rfl rfl) .nil))))⟩, ⟨_, rfl, .rowE (by repeat' (first | exact Lo.s _ | exact za2 | refine zax ?_ ?_ | refine zar ?_ | refine Lo.cells ?_ | refine Lo.agg _ ?_ | exact zak | refine zag ?_ ?_ | intro _)) rfl⟩, ⟨_, rfl, .rowE (za2) rfl⟩, ⟨_, rfl, .rowE (za2) rfl⟩, ⟨_, rfl, .rowE (za2) rfl⟩, ⟨_, rfl, .rowE zP_lo rfl⟩, ⟨_, rfl, .rowE (za2) rfl⟩, trivial⟩ ⟨.lo _ hlL, .lo _ (by repeat' (first | exact Lo.s _ | exact zak | refine zag ?_ ?_ | refine zan ?_ | refine Lo.cells ?_ | refine Lo.agg _ ?_ | refine Lo.ref _ ?_ | refine Lo.tup _ ?_ | refine Lo.fn _ _ ?_ | refine Lo.sl _ ?_ | intro _)), .ptr 5 5 4 0 0 rfl, .ptr 0 0 4 0 0 rfl, .own 6 6 1 _ _ rfl rfl, .fn _ _ _ rfl (RnL.cons (.ptr 0 0 4 0 0 rfl) (RnL.cons (.lo _ hlL) RnL.nil)).2, .lo _ (zan fun _ => .s _), .lo _ (.s _), .lo _ (.s _), trivial⟩) (Nat.zero_le _) (fun n hn => ?_)
 have hpl := pe1_len d n
 have htl := t1_len d l n
 refine zah (zab ?_)
 refine za3 rfl rfl (zaa rfl) (za4 rfl rfl rfl) (fun h35 => ?_) (fun h35 => ?_)
 all_goals refine zae (zah ?_)
 all_goals (first | refine za7 rfl ?_ | refine za1 rfl ?_)
 all_goals (repeat (first | refine zah ?_ | refine zat ?_ | refine zaw ?_))
 ·
  have hlt : n < d.length := by omega
  have hT : t1 d l (n + 1) = t1 d l n ++ if 0 < gti d n then [(uD l n, 2, gti d n)] else [] := rfl
  have hp : pe1 d (n + 1) = pe1 d n ++ if 0 < gti d n then [(n : Int)] else [] := rfl
  refine zab (zac rfl (zaf rfl rfl (zaa rfl) (zal rfl ts22 ti3 rfl rfl rfl (zbd (by omega)) rfl) (zby ta3 rfl (zaf rfl rfl (zaa rfl) (za0 rfl ti3 rfl rfl) (zbe rfl (zaa rfl) (zaj rfl ti3 rfl rfl rfl rfl rfl rfl (by decide) (by decide)) (zac rfl (zae (zah (zab (zac rfl ?_))))))))))
  refine za3 rfl rfl (zaa rfl) (zb5 rfl rfl rfl) (fun h40 => ?_) (fun h40 => ?_)
  all_goals refine zae (zai ?_)
  all_goals (first | refine za7 rfl ?_ | refine za1 rfl ?_)
  all_goals (repeat (first | refine zah ?_ | refine zai ?_ | refine zat ?_ | refine zbu ?_))
  ·
   rw [if_pos h40] at hT hp
   have hpr : (pe1 d (n + 1)).map eI = (pe1 d n).map eI ++ [eI n] := by rw [hp]; simp
   have hpn : (pe1 d (n + 1)).length = (pe1 d n).length + 1 := by rw [hp]; simp
   have hml : ((pe1 d n).map eI).length = (pe1 d n).length := by simp
   refine zab (zac rfl (zaf rfl rfl (zaa rfl) (zap rfl ta3 rfl rfl rfl rfl rfl) (zaf rfl rfl (zaa rfl) (lit1_sF rfl ts22 ti3 rfl rfl rfl rfl) ?_)))
   refine zaf rfl rfl (zaa rfl) (zbm rfl ts22 ti3 rfl (by decide) rfl rfl (by first | rfl | (simp; done) | (simp; omega)) rfl (by first | exact .own _ _ _ rfl rfl _ (by first | rfl | simp) | exact .emp | exact .nil | exact .sl _ (by first | simp; done | intro e he; simp at he; obtain ⟨_, _, rfl⟩ := he; rfl)) (by first | omega | (simp; omega) | (unfold maxLen; simp; omega)) (by first | omega | (simp; omega) | (unfold maxLen; simp; omega))) ?_
   refine zac rfl (zae (zai ?_))
   refine zbi (zbs (id := 7) rfl) ?_
   refine zbi (zch (d := 13) rfl rfl rfl) ?_
   refine zbi (F' := [(4, .ref [eL eSh l]), (5, .ref (eBx lo hi).cells), (6, .ptr 5 4 0 0), (8, .ptr 0 4 0 0), (9, .own 6 1 (pe1 d (n + 1)).length), (12, .fn 45 [.ptr 0 4 0 0, .ref [eL eSh l]]), (13, .ref [eI n]), (14, eI (gti d n)), (32, eL eI d), (33, eI d.length), (34, eI n)]) (σ' := stP (costL l) (t1 d l n) (pe1 d (n + 1))) (zck [0, 1, 2, 3, 4, 5, 8] (by decide) ⟨⟨_, rfl, zc2 (.cons (.own _ _ _ _ _ rfl rfl) (.cons (.own _ _ _ _ _ rfl rfl) (.cons (.own _ _ _ _ _ rfl rfl) (.cons (.own _ _ _ _ _ rfl rfl) .nil))))⟩, ⟨_, rfl, .rowE (by repeat' (first | exact Lo.s _ | exact za2 | refine zax ?_ ?_ | refine zar ?_ | refine Lo.cells ?_ | refine Lo.agg _ ?_ | exact zak | refine zag ?_ ?_ | intro _)) rfl⟩, ⟨_, rfl, .rowE (by repeat' (first | exact Lo.s _ | exact zak | exact za2 | refine zag ?_ ?_ | refine zax ?_ ?_ | refine zan ?_ | refine zar ?_ | refine Lo.cells ?_ | refine Lo.agg _ ?_ | refine Lo.sl _ ?_ | intro _)) rfl⟩, ⟨_, rfl, .rowE (zar fun _ => (Lo.s _).cells) rfl⟩, ⟨_, rfl, .rowE (by repeat' (first | exact Lo.s _ | exact za2 | refine zax ?_ ?_ | refine zar ?_ | refine Lo.cells ?_ | refine Lo.agg _ ?_ | exact zak | refine zag ?_ ?_ | intro _)) rfl⟩, ⟨_, rfl, .rowE zP_lo rfl⟩, ⟨_, rfl, .rowE (zar fun _ => (Lo.s _).cells) (Eq.trans (b := (pe1 d n).map eI ++ [eI n]) rfl hpr.symm)⟩, trivial⟩ ⟨.lo _ hlL, .lo _ (by repeat' (first | exact Lo.s _ | exact zak | refine zag ?_ ?_ | refine zan ?_ | refine Lo.cells ?_ | refine Lo.agg _ ?_ | refine Lo.ref _ ?_ | refine Lo.tup _ ?_ | refine Lo.fn _ _ ?_ | refine Lo.sl _ ?_ | intro _)), .ptr 5 5 4 0 0 rfl, .ptr 0 0 4 0 0 rfl, .own 8 6 1 _ _ rfl (by rw [hpn]; simp), .fn _ _ _ rfl (RnL.cons (.ptr 0 0 4 0 0 rfl) (RnL.cons (.lo _ hlL) RnL.nil)).2, .lo _ (.ref _ (zag (.s _) zak)), .lo _ (.s _), .lo _ (zan fun _ => .s _), .lo _ (.s _), .lo _ (.s _), trivial⟩) ?_
   have hcall := prog1T (P := P) l q3 (costL l) (t1 d l n) (by omega) (pe1 d (n + 1)) 47 [.ref [eL eSh l], .ref [eI n]] (fun i => inB (gti l i).pd n) (by repeat' (first | exact Lo.s _ | exact zak | refine zag ?_ ?_ | refine zan ?_ | refine Lo.cells ?_ | refine Lo.agg _ ?_ | refine Lo.ref _ ?_ | refine Lo.tup _ ?_ | refine Lo.fn _ _ ?_ | refine Lo.sl _ ?_ | intro _)) (fun i hi => prog2_pf l n i hi) 2 (gti d n)
   rw [show t1 d l n ++ [(unitL l.length (fun i => inB (gti l i).pd n), 2, gti d n)] = t1 d l (n + 1) from hT.symm] at hcall
   refine zab (zac rfl (zaf rfl rfl (zaa rfl) (does_func rfl rfl) (zac rfl (zaf rfl rfl (zaa rfl) (zbo rfl rfl hcall rfl) (zae (zbu (zai (zab (zaf rfl rfl (zaa rfl) (zav rfl rfl rfl (IntWalk.i64_in _ (by omega))) (zac rfl (zae (zai ?_))))))))))))
   exact ⟨n + 1, by omega, by omega, zck [0, 1, 7, 8, 9, 5, 6] (by decide) ⟨⟨_, rfl, zc2 (.cons (.own _ _ _ _ _ rfl rfl) (.cons (.own _ _ _ _ _ rfl rfl) (.cons (.own _ _ _ _ _ rfl rfl) (.cons (.own _ _ _ _ _ rfl rfl) .nil))))⟩, ⟨_, rfl, .rowE (by repeat' (first | exact Lo.s _ | exact za2 | refine zax ?_ ?_ | refine zar ?_ | refine Lo.cells ?_ | refine Lo.agg _ ?_ | exact zak | refine zag ?_ ?_ | intro _)) rfl⟩, ⟨_, rfl, .rowE (by repeat' (first | exact Lo.s _ | exact zak | exact za2 | refine zag ?_ ?_ | refine zax ?_ ?_ | refine zan ?_ | refine zar ?_ | refine Lo.cells ?_ | refine Lo.agg _ ?_ | refine Lo.sl _ ?_ | intro _)) rfl⟩, ⟨_, rfl, .rowE (zar fun _ => (Lo.s _).cells) rfl⟩, ⟨_, rfl, .rowE (by repeat' (first | exact Lo.s _ | exact za2 | refine zax ?_ ?_ | refine zar ?_ | refine Lo.cells ?_ | refine Lo.agg _ ?_ | exact zak | refine zag ?_ ?_ | intro _)) rfl⟩, ⟨_, rfl, .rowE zP_lo rfl⟩, ⟨_, rfl, .rowE (zar fun _ => (Lo.s _).cells) rfl⟩, trivial⟩ ⟨.lo _ hlL, .lo _ (by repeat' (first | exact Lo.s _ | exact zak | refine zag ?_ ?_ | refine zan ?_ | refine Lo.cells ?_ | refine Lo.agg _ ?_ | refine Lo.ref _ ?_ | refine Lo.tup _ ?_ | refine Lo.fn _ _ ?_ | refine Lo.sl _ ?_ | intro _)), .ptr 5 5 4 0 0 rfl, .ptr 0 0 4 0 0 rfl, .own 6 6 1 _ _ rfl rfl, .fn _ _ _ rfl (RnL.cons (.ptr 0 0 4 0 0 rfl) (RnL.cons (.lo _ hlL) RnL.nil)).2, .lo _ (zan fun _ => .s _), .lo _ (.s _), .lo _ (.s _), trivial⟩⟩
  ·
   rw [if_neg h40, List.append_nil] at hT hp
   refine zab (zaf rfl rfl (zaa rfl) (zav rfl rfl rfl (IntWalk.i64_in _ (by omega))) (zac rfl (zae (zai ?_))))
   rw [← hT, ← hp]
   exact ⟨n + 1, by omega, by omega, zck [0, 1, 2, 3, 4, 5, 6] (by decide) ⟨⟨_, rfl, zc2 (.cons (.own _ _ _ _ _ rfl rfl) (.cons (.own _ _ _ _ _ rfl rfl) (.cons (.own _ _ _ _ _ rfl rfl) (.cons (.own _ _ _ _ _ rfl rfl) .nil))))⟩, ⟨_, rfl, .rowE (by repeat' (first | exact Lo.s _ | exact za2 | refine zax ?_ ?_ | refine zar ?_ | refine Lo.cells ?_ | refine Lo.agg _ ?_ | exact zak | refine zag ?_ ?_ | intro _)) rfl⟩, ⟨_, rfl, .rowE (by repeat' (first | exact Lo.s _ | exact zak | exact za2 | refine zag ?_ ?_ | refine zax ?_ ?_ | refine zan ?_ | refine zar ?_ | refine Lo.cells ?_ | refine Lo.agg _ ?_ | refine Lo.sl _ ?_ | intro _)) rfl⟩, ⟨_, rfl, .rowE (zar fun _ => (Lo.s _).cells) rfl⟩, ⟨_, rfl, .rowE (by repeat' (first | exact Lo.s _ | exact za2 | refine zax ?_ ?_ | refine zar ?_ | refine Lo.cells ?_ | refine Lo.agg _ ?_ | exact zak | refine zag ?_ ?_ | intro _)) rfl⟩, ⟨_, rfl, .rowE zP_lo rfl⟩, ⟨_, rfl, .rowE (zar fun _ => (Lo.s _).cells) rfl⟩, trivial⟩ ⟨.lo _ hlL, .lo _ (by repeat' (first | exact Lo.s _ | exact zak | refine zag ?_ ?_ | refine zan ?_ | refine Lo.cells ?_ | refine Lo.agg _ ?_ | refine Lo.ref _ ?_ | refine Lo.tup _ ?_ | refine Lo.fn _ _ ?_ | refine Lo.sl _ ?_ | intro _)), .ptr 5 5 4 0 0 rfl, .ptr 0 0 4 0 0 rfl, .own 6 6 1 _ _ rfl rfl, .fn _ _ _ rfl (RnL.cons (.ptr 0 0 4 0 0 rfl) (RnL.cons (.lo _ hlL) RnL.nil)).2, .lo _ (zan fun _ => .s _), .lo _ (.s _), .lo _ (.s _), trivial⟩⟩
 have e : n = d.length := by omega
 subst e
 (refine zcl ?_; repeat (first | refine zc3 ?_ | refine zb2 ?_ | refine zbq rfl ?_ | refine zbu ?_ | refine zai ?_ | refine zah ?_ | refine zat ?_ | refine zaw ?_))
 refine zab (zby ta23 rfl (zaf rfl rfl (zaa rfl) (zao rfl ts23 rfl) (zac rfl (zae (zai (zaw ?_))))))
 refine zca (S := Nat) (fun k => [(5, .ref (eBx lo hi).cells), (6, .ptr 5 4 0 0), (8, .ptr 0 4 0 0), (9, .own 6 1 (pe1 d d.length).length), (12, .fn 45 [.ptr 0 4 0 0, .ref [eL eSh l]]), (50, eL eSh l), (51, eI l.length), (52, eI k)]) (fun k => stP (costL l) (t2 d l lo hi k) (pe1 d d.length)) (fun k => k ≤ l.length) (fun k => l.length - k) 0
  (zck [0, 1, 2, 3, 4, 5, 6] (by decide) ⟨⟨_, rfl, zc2 (.cons (.own _ _ _ _ _ rfl rfl) (.cons (.own _ _ _ _ _ rfl rfl) (.cons (.own _ _ _ _ _ rfl rfl) (.cons (.own _ _ _ _ _ rfl rfl) .nil))))⟩, ⟨_, rfl, .rowE (by repeat' (first | exact Lo.s _ | exact za2 | refine zax ?_ ?_ | refine zar ?_ | refine Lo.cells ?_ | refine Lo.agg _ ?_ | exact zak | refine zag ?_ ?_ | intro _)) rfl⟩, ⟨_, rfl, .rowE (by repeat' (first | exact Lo.s _ | exact zak | exact za2 | refine zag ?_ ?_ | refine zax ?_ ?_ | refine zan ?_ | refine zar ?_ | refine Lo.cells ?_ | refine Lo.agg _ ?_ | refine Lo.sl _ ?_ | intro _)) rfl⟩, ⟨_, rfl, .rowE (zar fun _ => (Lo.s _).cells) rfl⟩, ⟨_, rfl, .rowE (by repeat' (first | exact Lo.s _ | exact za2 | refine zax ?_ ?_ | refine zar ?_ | refine Lo.cells ?_ | refine Lo.agg _ ?_ | exact zak | refine zag ?_ ?_ | intro _)) rfl⟩, ⟨_, rfl, .rowE zP_lo rfl⟩, ⟨_, rfl, .rowE (zar fun _ => (Lo.s _).cells) rfl⟩, trivial⟩ ⟨.lo _ (by repeat' (first | exact Lo.s _ | exact zak | refine zag ?_ ?_ | refine zan ?_ | refine Lo.cells ?_ | refine Lo.agg _ ?_ | refine Lo.ref _ ?_ | refine Lo.tup _ ?_ | refine Lo.fn _ _ ?_ | refine Lo.sl _ ?_ | intro _)), .ptr 5 5 4 0 0 rfl, .ptr 0 0 4 0 0 rfl, .own 6 6 1 _ _ rfl rfl, .fn _ _ _ rfl (RnL.cons (.ptr 0 0 4 0 0 rfl) (RnL.cons (.lo _ hlL) RnL.nil)).2, .lo _ (by repeat' (first | exact Lo.s _ | exact zak | refine zag ?_ ?_ | refine zan ?_ | refine Lo.agg _ ?_ | refine Lo.sl _ ?_ | intro _)), .lo _ (.s _), .lo _ (.s _), trivial⟩) (Nat.zero_le _) (fun k hk => ?_)
 have htl := t2_len d l lo hi k
 refine zah (zab ?_)
 refine za3 rfl rfl (zaa rfl) (za4 rfl rfl rfl) (fun h53 => ?_) (fun h53 => ?_)
 all_goals refine zae (zah ?_)
 all_goals (first | refine za7 rfl ?_ | refine za1 rfl ?_)
 all_goals (repeat (first | refine zah ?_ | refine zat ?_ | refine zaw ?_))
 ·
  have hlt : k < l.length := by omega
  have hT : t2 d l lo hi (k + 1) = (t2 d l lo hi k ++ [(uK l k, 1, gti hi k)]) ++ if 0 < gti lo k then [(uK l k, 2, gti lo k)] else [] := rfl
  refine zab (zac rfl (zaf rfl rfl (zaa rfl) (za0 rfl ti3 rfl rfl) (zbe rfl (zaa rfl) (zaj rfl ti3 rfl rfl rfl rfl rfl rfl (by decide) (by decide)) (zae (zah ?_)))))
  refine zbi (zbs (id := 7) rfl) ?_
  refine zbi (zch (d := 15) rfl rfl rfl) ?_
  refine zbi (F' := [(5, .ref (eBx lo hi).cells), (6, .ptr 5 4 0 0), (8, .ptr 0 4 0 0), (9, .own 6 1 (pe1 d d.length).length), (12, .fn 45 [.ptr 0 4 0 0, .ref [eL eSh l]]), (15, .ref [eI k]), (50, eL eSh l), (51, eI l.length), (52, eI k)]) (σ' := stP (costL l) (t2 d l lo hi k) (pe1 d d.length)) (zck [0, 1, 2, 3, 4, 5, 6] (by decide) ⟨⟨_, rfl, zc2 (.cons (.own _ _ _ _ _ rfl rfl) (.cons (.own _ _ _ _ _ rfl rfl) (.cons (.own _ _ _ _ _ rfl rfl) (.cons (.own _ _ _ _ _ rfl rfl) .nil))))⟩, ⟨_, rfl, .rowE (by repeat' (first | exact Lo.s _ | exact za2 | refine zax ?_ ?_ | refine zar ?_ | refine Lo.cells ?_ | refine Lo.agg _ ?_ | exact zak | refine zag ?_ ?_ | intro _)) rfl⟩, ⟨_, rfl, .rowE (by repeat' (first | exact Lo.s _ | exact zak | exact za2 | refine zag ?_ ?_ | refine zax ?_ ?_ | refine zan ?_ | refine zar ?_ | refine Lo.cells ?_ | refine Lo.agg _ ?_ | refine Lo.sl _ ?_ | intro _)) rfl⟩, ⟨_, rfl, .rowE (zar fun _ => (Lo.s _).cells) rfl⟩, ⟨_, rfl, .rowE (by repeat' (first | exact Lo.s _ | exact za2 | refine zax ?_ ?_ | refine zar ?_ | refine Lo.cells ?_ | refine Lo.agg _ ?_ | exact zak | refine zag ?_ ?_ | intro _)) rfl⟩, ⟨_, rfl, .rowE zP_lo rfl⟩, ⟨_, rfl, .rowE (zar fun _ => (Lo.s _).cells) rfl⟩, trivial⟩ ⟨.lo _ (by repeat' (first | exact Lo.s _ | exact zak | refine zag ?_ ?_ | refine zan ?_ | refine Lo.cells ?_ | refine Lo.agg _ ?_ | refine Lo.ref _ ?_ | refine Lo.tup _ ?_ | refine Lo.fn _ _ ?_ | refine Lo.sl _ ?_ | intro _)), .ptr 5 5 4 0 0 rfl, .ptr 0 0 4 0 0 rfl, .own 6 6 1 _ _ rfl rfl, .fn _ _ _ rfl (RnL.cons (.ptr 0 0 4 0 0 rfl) (RnL.cons (.lo _ hlL) RnL.nil)).2, .lo _ (.ref _ (zag (.s _) zak)), .lo _ (by repeat' (first | exact Lo.s _ | exact zak | refine zag ?_ ?_ | refine zan ?_ | refine Lo.agg _ ?_ | refine Lo.sl _ ?_ | intro _)), .lo _ (.s _), .lo _ (.s _), trivial⟩) ?_
  have hcall := prog1T (P := P) l q3 (costL l) (t2 d l lo hi k) (by omega) (pe1 d d.length) 49 [.ref [eI k]] (fun i => decide (i = k)) (by repeat' (first | exact Lo.s _ | exact zak | refine zag ?_ ?_ | refine zan ?_ | refine Lo.cells ?_ | refine Lo.agg _ ?_ | refine Lo.ref _ ?_ | refine Lo.tup _ ?_ | refine Lo.fn _ _ ?_ | refine Lo.sl _ ?_ | intro _)) (fun i hi => prog3_pf k i) 1 (gti hi k)
  refine zab (zac rfl (zaf rfl rfl (zaa rfl) (does_func rfl rfl) (zb1 tf74_1 rfl (zby ta22 rfl (zby ta3 rfl (zaf rfl rfl (zaa rfl) (zal rfl ts22 ti3 rfl rfl rfl (zbd (by omega)) rfl) (zby ta3 rfl (zaf rfl rfl (zaa rfl) (zbo rfl rfl hcall rfl) (zae (zah ?_))))))))))
  obtain ⟨T1, hT1⟩ : ∃ T1, T1 = t2 d l lo hi k ++ [(unitL l.length (fun i => decide (i = k)), 1, gti hi k)] := ⟨_, rfl⟩
  rw [← hT1]
  have hT1l : T1.length = (t2 d l lo hi k).length + 1 := by rw [hT1]; simp
  replace hT : t2 d l lo hi (k + 1) = T1 ++ if 0 < gti lo k then [(uK l k, 2, gti lo k)] else [] := by rw [hT, hT1]; rfl
  clear hT1 hcall
  refine zbi (F' := [(5, .ref (eBx lo hi).cells), (6, .ptr 5 4 0 0), (8, .ptr 0 4 0 0), (9, .own 6 1 (pe1 d d.length).length), (12, .fn 45 [.ptr 0 4 0 0, .ref [eL eSh l]]), (15, .ref [eI k]), (50, eL eSh l), (51, eI l.length), (52, eI k)]) (σ' := stP (costL l) T1 (pe1 d d.length)) (zck [0, 1, 7, 8, 9, 5, 6] (by decide) ⟨⟨_, rfl, zc2 (.cons (.own _ _ _ _ _ rfl rfl) (.cons (.own _ _ _ _ _ rfl rfl) (.cons (.own _ _ _ _ _ rfl rfl) (.cons (.own _ _ _ _ _ rfl rfl) .nil))))⟩, ⟨_, rfl, .rowE (by repeat' (first | exact Lo.s _ | exact za2 | refine zax ?_ ?_ | refine zar ?_ | refine Lo.cells ?_ | refine Lo.agg _ ?_ | exact zak | refine zag ?_ ?_ | intro _)) rfl⟩, ⟨_, rfl, .rowE (by repeat' (first | exact Lo.s _ | exact zak | exact za2 | refine zag ?_ ?_ | refine zax ?_ ?_ | refine zan ?_ | refine zar ?_ | refine Lo.cells ?_ | refine Lo.agg _ ?_ | refine Lo.sl _ ?_ | intro _)) rfl⟩, ⟨_, rfl, .rowE (zar fun _ => (Lo.s _).cells) rfl⟩, ⟨_, rfl, .rowE (by repeat' (first | exact Lo.s _ | exact za2 | refine zax ?_ ?_ | refine zar ?_ | refine Lo.cells ?_ | refine Lo.agg _ ?_ | exact zak | refine zag ?_ ?_ | intro _)) rfl⟩, ⟨_, rfl, .rowE zP_lo rfl⟩, ⟨_, rfl, .rowE (zar fun _ => (Lo.s _).cells) rfl⟩, trivial⟩ ⟨.lo _ (by repeat' (first | exact Lo.s _ | exact zak | refine zag ?_ ?_ | refine zan ?_ | refine Lo.cells ?_ | refine Lo.agg _ ?_ | refine Lo.ref _ ?_ | refine Lo.tup _ ?_ | refine Lo.fn _ _ ?_ | refine Lo.sl _ ?_ | intro _)), .ptr 5 5 4 0 0 rfl, .ptr 0 0 4 0 0 rfl, .own 6 6 1 _ _ rfl rfl, .fn _ _ _ rfl (RnL.cons (.ptr 0 0 4 0 0 rfl) (RnL.cons (.lo _ hlL) RnL.nil)).2, .lo _ (.ref _ (zag (.s _) zak)), .lo _ (by repeat' (first | exact Lo.s _ | exact zak | refine zag ?_ ?_ | refine zan ?_ | refine Lo.agg _ ?_ | refine Lo.sl _ ?_ | intro _)), .lo _ (.s _), .lo _ (.s _), trivial⟩) ?_
  refine zab (zb1 tf74_0 rfl (zby ta22 rfl (zby ta3 rfl (zaf rfl rfl (zaa rfl) (zal rfl ts22 ti3 rfl rfl rfl (zbd (by omega)) rfl) (zby ta3 rfl ?_)))))
  refine za3 rfl rfl (zaa rfl) (zb5 rfl rfl rfl) (fun h68 => ?_) (fun h68 => ?_)
  all_goals refine zae (zai ?_)
  all_goals (first | refine za7 rfl ?_ | refine za1 rfl ?_)
  all_goals (repeat (first | refine zai ?_ | refine zat ?_ | refine zbu ?_))
  ·
   rw [if_pos h68] at hT
   have hcall := prog1T (P := P) l q3 (costL l) T1 (by omega) (pe1 d d.length) 50 [.ref [eI k]] (fun i => decide (i = k)) (by repeat' (first | exact Lo.s _ | exact zak | refine zag ?_ ?_ | refine zan ?_ | refine Lo.cells ?_ | refine Lo.agg _ ?_ | refine Lo.ref _ ?_ | refine Lo.tup _ ?_ | refine Lo.fn _ _ ?_ | refine Lo.sl _ ?_ | intro _)) (fun i hi => prog4_pf k i) 2 (gti lo k)
   rw [show T1 ++ [(unitL l.length (fun i => decide (i = k)), 2, gti lo k)] = t2 d l lo hi (k + 1) from hT.symm] at hcall
   refine zab (zac rfl (zaf rfl rfl (zaa rfl) (does_func rfl rfl) (zb1 tf74_0 rfl (zby ta22 rfl (zby ta3 rfl (zaf rfl rfl (zaa rfl) (zal rfl ts22 ti3 rfl rfl rfl (zbd (by omega)) rfl) (zby ta3 rfl (zaf rfl rfl (zaa rfl) (zbo rfl rfl hcall rfl) (zae (zbu (zai (zab (zaf rfl rfl (zaa rfl) (zav rfl rfl rfl (IntWalk.i64_in _ (by omega))) (zac rfl (zae (zai ?_))))))))))))))))
   exact ⟨k + 1, by omega, by omega, zck [0, 1, 7, 8, 9, 5, 6] (by decide) ⟨⟨_, rfl, zc2 (.cons (.own _ _ _ _ _ rfl rfl) (.cons (.own _ _ _ _ _ rfl rfl) (.cons (.own _ _ _ _ _ rfl rfl) (.cons (.own _ _ _ _ _ rfl rfl) .nil))))⟩, ⟨_, rfl, .rowE (by repeat' (first | exact Lo.s _ | exact za2 | refine zax ?_ ?_ | refine zar ?_ | refine Lo.cells ?_ | refine Lo.agg _ ?_ | exact zak | refine zag ?_ ?_ | intro _)) rfl⟩, ⟨_, rfl, .rowE (by repeat' (first | exact Lo.s _ | exact zak | exact za2 | refine zag ?_ ?_ | refine zax ?_ ?_ | refine zan ?_ | refine zar ?_ | refine Lo.cells ?_ | refine Lo.agg _ ?_ | refine Lo.sl _ ?_ | intro _)) rfl⟩, ⟨_, rfl, .rowE (zar fun _ => (Lo.s _).cells) rfl⟩, ⟨_, rfl, .rowE (by repeat' (first | exact Lo.s _ | exact za2 | refine zax ?_ ?_ | refine zar ?_ | refine Lo.cells ?_ | refine Lo.agg _ ?_ | exact zak | refine zag ?_ ?_ | intro _)) rfl⟩, ⟨_, rfl, .rowE zP_lo rfl⟩, ⟨_, rfl, .rowE (zar fun _ => (Lo.s _).cells) rfl⟩, trivial⟩ ⟨.lo _ (by repeat' (first | exact Lo.s _ | exact zak | refine zag ?_ ?_ | refine zan ?_ | refine Lo.cells ?_ | refine Lo.agg _ ?_ | refine Lo.ref _ ?_ | refine Lo.tup _ ?_ | refine Lo.fn _ _ ?_ | refine Lo.sl _ ?_ | intro _)), .ptr 5 5 4 0 0 rfl, .ptr 0 0 4 0 0 rfl, .own 6 6 1 _ _ rfl rfl, .fn _ _ _ rfl (RnL.cons (.ptr 0 0 4 0 0 rfl) (RnL.cons (.lo _ hlL) RnL.nil)).2, .lo _ (by repeat' (first | exact Lo.s _ | exact zak | refine zag ?_ ?_ | refine zan ?_ | refine Lo.agg _ ?_ | refine Lo.sl _ ?_ | intro _)), .lo _ (.s _), .lo _ (.s _), trivial⟩⟩
  ·
   rw [if_neg h68, List.append_nil] at hT
   subst hT
   refine zab (zaf rfl rfl (zaa rfl) (zav rfl rfl rfl (IntWalk.i64_in _ (by omega))) (zac rfl (zae (zai ?_))))
   exact ⟨k + 1, by omega, by omega, zck [0, 1, 2, 3, 4, 5, 6] (by decide) ⟨⟨_, rfl, zc2 (.cons (.own _ _ _ _ _ rfl rfl) (.cons (.own _ _ _ _ _ rfl rfl) (.cons (.own _ _ _ _ _ rfl rfl) (.cons (.own _ _ _ _ _ rfl rfl) .nil))))⟩, ⟨_, rfl, .rowE (by repeat' (first | exact Lo.s _ | exact za2 | refine zax ?_ ?_ | refine zar ?_ | refine Lo.cells ?_ | refine Lo.agg _ ?_ | exact zak | refine zag ?_ ?_ | intro _)) rfl⟩, ⟨_, rfl, .rowE (by repeat' (first | exact Lo.s _ | exact zak | exact za2 | refine zag ?_ ?_ | refine zax ?_ ?_ | refine zan ?_ | refine zar ?_ | refine Lo.cells ?_ | refine Lo.agg _ ?_ | refine Lo.sl _ ?_ | intro _)) rfl⟩, ⟨_, rfl, .rowE (zar fun _ => (Lo.s _).cells) rfl⟩, ⟨_, rfl, .rowE (by repeat' (first | exact Lo.s _ | exact za2 | refine zax ?_ ?_ | refine zar ?_ | refine Lo.cells ?_ | refine Lo.agg _ ?_ | exact zak | refine zag ?_ ?_ | intro _)) rfl⟩, ⟨_, rfl, .rowE zP_lo rfl⟩, ⟨_, rfl, .rowE (zar fun _ => (Lo.s _).cells) rfl⟩, trivial⟩ ⟨.lo _ (by repeat' (first | exact Lo.s _ | exact zak | refine zag ?_ ?_ | refine zan ?_ | refine Lo.cells ?_ | refine Lo.agg _ ?_ | refine Lo.ref _ ?_ | refine Lo.tup _ ?_ | refine Lo.fn _ _ ?_ | refine Lo.sl _ ?_ | intro _)), .ptr 5 5 4 0 0 rfl, .ptr 0 0 4 0 0 rfl, .own 6 6 1 _ _ rfl rfl, .fn _ _ _ rfl (RnL.cons (.ptr 0 0 4 0 0 rfl) (RnL.cons (.lo _ hlL) RnL.nil)).2, .lo _ (by repeat' (first | exact Lo.s _ | exact zak | refine zag ?_ ?_ | refine zan ?_ | refine Lo.agg _ ?_ | refine Lo.sl _ ?_ | intro _)), .lo _ (.s _), .lo _ (.s _), trivial⟩⟩
 ·
  have e : k = l.length := by omega
  subst e
  (refine zcl ?_; repeat (first | refine zc3 ?_ | refine zb2 ?_ | refine zbq rfl ?_ | refine zbu ?_ | refine zai ?_ | refine zah ?_ | refine zat ?_ | refine zaw ?_))
  refine zab (zaf rfl rfl (zaa rfl) (zba rfl ta47 ti47 rfl rfl rfl rfl rfl) (zac rfl (zbe rfl (zaa rfl) (zaj rfl ti47 rfl rfl rfl rfl rfl rfl (by decide) (by decide)) (zac rfl (zae (zai ?_))))))
  (refine za8 ?_; repeat (first | refine zbg ?_ | refine zbh ?_))
  refine post_cs (N := 0) (.inr rfl) ta47 ti47 rfl rfl rfl rfl rfl rfl ?_ ?_
  ·
   exact .agg _ _ rfl (zbb.cons (.own _ _ _ _ _ rfl rfl rfl) (zbb.cons (.own _ _ _ _ _ rfl rfl rfl) (zbb.cons (.own _ _ _ _ _ rfl rfl rfl) (zbb.cons (.own _ _ _ _ _ rfl rfl rfl) zbb.nil)))).2
  ·
   exact .own _ _ _ _ _ rfl rfl (by simp)
end Go.Proofs.Ytllkbjcemecmjaa.Aw
end
section
namespace Go.Proofs.Ytllkbjcemecmjaa.Aw
open Go.RowKit Go.Proofs
variable {P : Program} [IsP P]
def zLP : LP := ⟨[], [], [], []⟩
def prgR (d : List Int) (l : List Sft) : LP × Int := if zb6 d l = true then (if l.length = 0 then (zLP, 10) else if 12 < (prgE d l (zc1 l.length) (zb7 l)).a.length then (zLP, 5) else (prgE d l (zc1 l.length) (zb7 l), 0)) else (zLP, 1)
def ePI (r : LP × Int) : AV := .tup [eP r.1, eI r.2]
theorem lo_FF (A : List (List Fr)) : Lo 0 (eL (eL eF) A) := zan fun r => lo_Fs r
theorem lo_P (p : LP) : Lo 0 (eP p) := .agg _ (zag (lo_Fs _) (zag (lo_FF _) (zag (zan fun _ => .s _) (zag (lo_Fs _) zak))))
theorem post_zp {N : Nat} {F : Frm} {σ : List Ob} {ad u : Nat} {ty : TypeId} {id sz n bt : Nat} {z : Option Value} {ob : Ob} {cs : List AV} {r : LP × Int} {m : Int} {e : Exit} (he : e = .normal ∨ e = .ret) (ha : zc0 P ty = some true) (hi : zbl P ty = some (z, n, bt)) (hp : F.get ad = .ptr id sz 0 0) (hs : σ[id]? = some ob) (ho : rowOf ob = some (sz, cs)) (hk : cs[0]? = some zP) (hn : zP.cells.length = n) (hu : F.get u = eI m) (hr : r = (zLP, m)) : APost P [.cell ad ty, .tmp u] (ePI r) e F σ := by
 subst hr
 exact post_cs (N := 0) he ha hi hp hs ho hk hn hu (.agg _ _ rfl (zbb.cons .nil (zbb.cons .nil (zbb.cons .nil (zbb.cons .nil zbb.nil)))).2) (.refl _)
set_option maxHeartbeats 4000000 in
theorem sProgram_pf (d : List Int) (l : List Sft) : Pure P 15 [eL eI d, eL eSh l] (ePI (prgR d l)) := by
 have HI : prgR d l = if zb6 d l = true then (if l.length = 0 then (zLP, 10) else if 12 < (prgE d l (zc1 l.length) (zb7 l)).a.length then (zLP, 5) else (prgE d l (zc1 l.length) (zb7 l), 0)) else (zLP, 1) := rfl
 generalize prgR d l = R at HI ⊢
 refine zcu (by rw [IsP.eq (P := P)]; exact Try.func15) rfl rfl rfl rfl rfl (by repeat' (first | exact Lo.s _ | exact zak | refine zag ?_ ?_ | refine zan ?_ | refine Lo.agg _ ?_ | refine Lo.sl _ ?_ | intro _)) (.tup _ (zag (lo_P _) (zag (.s _) zak))) (by simp only [argF]; rfl) ?_
 refine zah ?_
 refine aw_bdm (d := 1) rfl (fun hm1 => ?_)
 unfold maxLen at hm1
 refine zab (zaf rfl rfl (zaa rfl) (za0 rfl ti47 rfl rfl) (zac rfl (zae (zah (zah (zab (zac rfl (zac rfl ?_))))))))
 refine zcx rfl rfl (zaa rfl) (zam rfl rfl ((sValid_pf54 d l)) (zad rfl (zad rfl zaq))) (fun h10 => ?_) (fun h10 => ?_)
 all_goals refine zaf rfl rfl (zaa rfl) (zbv rfl rfl) (zae (zai ?_))
 all_goals (first | refine za7 rfl ?_ | refine za1 rfl ?_)
 all_goals (repeat (first | refine zah ?_ | refine zat ?_))
 rotate_left
 ·
  rw [if_neg (by rw [h10]; simp)] at HI
  refine zab (zaf rfl rfl (zaa rfl) (za6 rfl ti47 tp47 rfl rfl) (zbe rfl (zaa rfl) (zaj rfl ti47 rfl rfl rfl rfl rfl rfl (by decide) (by decide)) (zac rfl (zae (zai ?_)))))
  (refine za8 ?_; repeat (first | refine zbg ?_ | refine zbh ?_))
  exact post_zp (N := 0) (.inr rfl) ta47 ti47 rfl rfl rfl rfl rfl rfl HI
 rw [if_pos h10] at HI
 have hl12 := (zb0 h10).1.2.2
 refine zab (zac rfl (zaf rfl rfl (zaa rfl) (zao rfl ts23 rfl) ?_))
 refine za3 rfl rfl (zaa rfl) (zbk rfl rfl rfl) (fun h15 => ?_) (fun h15 => ?_)
 all_goals refine zae (zai ?_)
 all_goals (first | refine za7 rfl ?_ | refine za1 rfl ?_)
 all_goals (repeat (first | refine zah ?_ | refine zat ?_))
 ·
  rw [if_pos (by omega)] at HI
  refine zab (zaf rfl rfl (zaa rfl) (za6 rfl ti47 tp47 rfl rfl) (zbe rfl (zaa rfl) (zaj rfl ti47 rfl rfl rfl rfl rfl rfl (by decide) (by decide)) (zac rfl (zae (zai ?_)))))
  (refine za8 ?_; repeat (first | refine zbg ?_ | refine zbh ?_))
  exact post_zp (N := 0) (.inr rfl) ta47 ti47 rfl rfl rfl rfl rfl rfl HI
 rw [if_neg (by omega)] at HI
 have hpg := program_pf (P := P) d l (zc1 l.length) (zb7 l) h10 (by simp [zc1]) (mostL_len l)
 generalize prgE d l (zc1 l.length) (zb7 l) = p at HI hpg
 obtain ⟨pc, pa, pr, pb⟩ := p
 have hla := lo_FF pa
 replace hpg : Pure P 32 [eL eI d, eL eSh l, eBx (zc1 l.length) (zb7 l)] (.tup [.agg [eL eF pc, eL (eL eF) pa, eL eI pr, eL eF pb], eL eI (pe1 d d.length)]) := hpg
 refine zab (zac rfl (zac rfl (zac rfl (zaf rfl rfl (zaa rfl) (zam rfl rfl ((first_pf l hl12)) (zad rfl zaq)) (zaf rfl rfl (zaa rfl) (zam rfl rfl (hpg) (zad rfl (zad rfl (zad rfl zaq)))) (zac rfl (zac rfl (zac rfl (zaf rfl rfl (zaa rfl) (za0 rfl ti47 rfl rfl) (zbe rfl (zaa rfl) (zaj rfl ti47 rfl rfl rfl rfl rfl rfl (by decide) (by decide)) (zac rfl (zae (zah (zah (zab (zb1 tf47_1 rfl (zaf rfl rfl (zaa rfl) (zap rfl ta45 rfl rfl rfl rfl rfl) ?_)))))))))))))))))
 refine zaf rfl rfl (zaa rfl) (zao rfl ts45 rfl) (zaf rfl rfl (zaa rfl) (zb5 rfl rfl rfl) (zae (zai ?_)))
 refine aw_bdm (d := 26) rfl (fun hm2 => ?_)
 unfold maxLen at hm2
 refine aw_if rfl (fun h => ?_) (fun h => ?_)
 ·
  rw [if_pos (by show 12 < pa.length; omega)] at HI
  refine zah (zab (zaf rfl rfl (zaa rfl) (za6 rfl ti47 tp47 rfl rfl) (zbe rfl (zaa rfl) (zaj rfl ti47 rfl rfl rfl rfl rfl rfl (by decide) (by decide)) (zac rfl (zae (zai ?_))))))
  (refine za8 ?_; repeat (first | refine zbg ?_ | refine zbh ?_))
  exact post_zp (N := 0) (.inr rfl) ta47 ti47 rfl rfl rfl rfl rfl rfl HI
 ·
  rw [if_neg (by show ¬ 12 < pa.length; omega)] at HI
  refine zat (zah (zab (zaf rfl rfl (zaa rfl) (zba rfl ta47 ti47 rfl rfl rfl rfl rfl) (zbe rfl (zaa rfl) (zaj rfl ti47 rfl rfl rfl rfl rfl rfl (by decide) (by decide)) (zac rfl (zae (zai ?_)))))))
  (refine za8 ?_; repeat (first | refine zbg ?_ | refine zbh ?_))
  rw [HI]
  exact post_cs (N := 0) (.inr rfl) ta47 ti47 rfl rfl rfl rfl rfl rfl (.refl _) (.refl _)
end Go.Proofs.Ytllkbjcemecmjaa.Aw
end
section
namespace Go.Proofs.Ytllkbjcemecmjaa.Aw
open Go Go.RowKit Go.Proofs
variable {P : Program} [IsP P]
theorem cloneF_call (l : List Fr) (h1 : 1 ≤ l.length) (h2 : l.length ≤ 40) (σ : List Ob) : CallE P 62 [eL eF l] σ (.own σ.length 2 l.length) (σ ++ [.row 2 (l.map eF)]) := by
 have hnn : NonNil (eL eF l) := by
  cases l with
  | nil => simp at h1
  | cons a t => exact .sl _ _
 have hlm : (l.map eF).length = l.length := by simp
 refine callE_fn (by rw [IsP.eq (P := P)]; exact Try.func62) rfl rfl (Nat.le_of_ble_eq_true rfl) ?_
 refine ew_seq (zdq (eops_s rfl (zdd (zai (ew_seq (ew_seq (zdq (eops_s rfl (eops_op rfl rfl (zaa rfl) (does_eqnil rfl ts30 rfl hnn rfl (.inl ⟨rfl, rfl⟩)) (zdd (zai (ew_false rfl (ew_skip (zai (ew_seq (zdq (eops_op rfl rfl (zaa rfl) (does_lit0 rfl rfl ts30 ti51) (eops_s rfl ?_))))))))))))))))))
 refine eops_op rfl rfl (zaa rfl) (does_append0 (l := l.map eF) rfl ts30 ti51 rfl (by decide) rfl (.inl rfl) rfl (.sl _ (by intro e he; simp at he; obtain ⟨_, _, rfl⟩ := he; rfl)) (by unfold maxLen; simp; omega) (by simp; omega)) ?_
 refine eops_s rfl (zdd (zai (ew_ret ?_)))
 refine ⟨.inr rfl, rfl, _, .cons _ _ _ _ (.tmp _ _ rfl) .nil, ?_⟩
 rw [hlm]; rfl
def r1of (p : LP) (i : Nat) : List Fr :=
 if gti p.rel i = 1 then (gti p.a i ++ List.replicate (2 * p.a.length) (Fr.of 0)).set (p.c.length + i) (Fr.of 1) else if gti p.rel i = 2 then (gti p.a i ++ List.replicate (2 * p.a.length) (Fr.of 0)).set (p.c.length + i) (Fr.of (-1)) else gti p.a i ++ List.replicate (2 * p.a.length) (Fr.of 0)
def r2of (p : LP) (i : Nat) : List Fr := if (gti p.b i).n < 0 then (r1of p i ++ [gti p.b i]).map fneg else r1of p i ++ [gti p.b i]
theorem begR_eq (p : LP) (i : Nat) : begR p i = (r2of p i).set (p.c.length + p.a.length + i) (Fr.of 1) := rfl
def stB (t : Tb) (c : AV) : List Ob := [.row 5 [.agg [.own 2 1 t.rows.length, c, .own 3 1 t.bas.length, eI t.last, eI 0]], .row 1 (t.rows.map (eL eF)), .row 1 (t.bas.map eI)]
def tnL (p : LP) (i : Nat) : List Bool := (turnL p).take i ++ List.replicate (p.a.length - i) false
theorem bg_ren {ρ : List Nat} {a b : Nat} {x : AV} {e l : Int} (h1 : ρ[2]? = some 2) (h2 : ρ[3]? = some 3) (hx : Lo 0 x) : ObRn ρ (.row 5 [.agg [.own 2 1 a, x, .own 3 1 b, eI l, eI e]]) (.row 5 [.agg [.own 2 1 a, x, .own 3 1 b, eI l, eI e]]) :=
 zc2 (.cons (.own _ _ _ _ _ h1 rfl) (.cons (.lo _ hx) (.cons (.own _ _ _ _ _ h2 rfl) (.cons (.lo _ (.s _)) (.cons (.lo _ (.s _)) .nil)))))
theorem zcq {k : Nat} (l : List (List Fr)) : ∀ e ∈ l.map (eL eF), ∀ c ∈ e.cells, Lo k c := zar fun r c hc => by
 simp [eL, AV.cells] at hc; subst hc; exact lo_up (lo_Fs r)
theorem zc9 {k : Nat} (l : List Int) : ∀ e ∈ l.map eI, ∀ c ∈ e.cells, Lo k c := zar fun r c hc => by
 simp [eI, AV.cells] at hc; subst hc; exact .s _
theorem r1of_len {p : LP} {i : Nat} (h : (gti p.a i).length = p.c.length) : (r1of p i).length = p.c.length + 2 * p.a.length := by
 unfold r1of
 split
 ·
  rw [List.length_set, List.length_append, List.length_replicate, h]
 ·
  split
  ·
   rw [List.length_set, List.length_append, List.length_replicate, h]
  ·
   rw [List.length_append, List.length_replicate, h]
theorem r2of_len {p : LP} {i : Nat} (h : (gti p.a i).length = p.c.length) : (r2of p i).length = p.c.length + 2 * p.a.length + 1 := by
 unfold r2of
 split
 ·
  rw [List.length_map, List.length_append, r1of_len h]; rfl
 ·
  rw [List.length_append, r1of_len h]; rfl
def ngL (l : List Fr) (j : Nat) : List Fr := (l.take j).map fneg ++ l.drop j
theorem ngL_len {l : List Fr} {j : Nat} : (ngL l j).length = l.length := by simp [ngL]; omega
theorem ngL_get {l : List Fr} {j : Nat} (h : j < l.length) : gti (ngL l j) j = gti l j := by
 unfold ngL gti
 rw [List.getElem?_append_right (by simp; omega), List.length_map, List.length_take, Nat.min_eq_left (by omega), Nat.sub_self, List.getElem?_drop, Nat.add_zero]
theorem ngL_step {l : List Fr} {j : Nat} (h : j < l.length) : ngL l (j + 1) = (ngL l j).set j (fneg (gti l j)) := by
 unfold ngL
 rw [List.set_append_right _ _ (by simp; omega), List.length_map, List.length_take, Nat.min_eq_left (by omega), Nat.sub_self, dropF h, List.set_cons_zero, zcw h, List.map_append, List.append_assoc]
 rfl
theorem turnL_len (p : LP) : (turnL p).length = p.b.length := by simp [turnL]
theorem turnL_get {p : LP} {i : Nat} (h : i < p.b.length) : gti (turnL p) i = decide ((gti p.b i).n < 0) := by
 unfold turnL gti
 rw [List.getElem?_map, List.getElem?_eq_getElem h]; rfl
theorem tnL_len {p : LP} {i : Nat} (hb : p.b.length = p.a.length) (hi : i ≤ p.a.length) : (tnL p i).length = p.a.length := by simp [tnL, turnL_len]; omega
theorem tnL_step {p : LP} {i : Nat} (hb : p.b.length = p.a.length) (hi : i < p.a.length) : tnL p (i + 1) = (tnL p i).set i (decide ((gti p.b i).n < 0)) := by
 unfold tnL
 rw [List.set_append_right _ _ (by simp [turnL_len]; omega), List.length_take, turnL_len, Nat.min_eq_left (by omega), Nat.sub_self, show p.a.length - i = (p.a.length - (i + 1)) + 1 by omega, List.replicate_succ, List.set_cons_zero, zcw (by rw [turnL_len]; omega), turnL_get (by omega), List.append_assoc]
 rfl
theorem tnL_get {p : LP} {i : Nat} (hb : p.b.length = p.a.length) (hi : i < p.a.length) : gti (tnL p i) i = false := by
 unfold tnL gti
 rw [List.getElem?_append_right (by simp [turnL_len]; omega), List.length_take, turnL_len, Nat.min_eq_left (by omega), Nat.sub_self, List.getElem?_replicate, if_pos (by omega)]; rfl
theorem rows_len (p : LP) : (begT p).rows.length = p.a.length := by simp [begT]
theorem basB_len (p : LP) : (begT p).bas.length = p.a.length := by simp [begT]
theorem rows_get {p : LP} {i : Nat} (h : i < p.a.length) : gti (begT p).rows i = begR p i := by unfold begT; exact gti_rangeF h
theorem basB_get {p : LP} {i : Nat} (h : i < p.a.length) : gti (begT p).bas i = ((p.c.length + p.a.length + i : Nat) : Int) := by unfold begT; exact gti_rangeF h
theorem r1b_ok {p : LP} {i : Nat} (hi : i < p.a.length) (g2 : ∀ x ∈ gti p.a i, x.ok) (hb : (gti p.b i).ok) : ∀ x ∈ r1of p i ++ [gti p.b i], x.ok := by
 have h0 : ∀ x ∈ gti p.a i ++ List.replicate (2 * p.a.length) (Fr.of 0), x.ok := fun x hx => by
  rcases List.mem_append.1 hx with hx | hx
  ·
   exact g2 x hx
  ·
   rw [List.eq_of_mem_replicate hx]; exact of_ok ⟨by decide, by decide⟩
 intro x hx
 rcases List.mem_append.1 hx with hx | hx
 ·
  unfold r1of at hx
  split at hx
  ·
   rcases List.mem_or_eq_of_mem_set hx with hx | rfl
   ·
    exact h0 x hx
   ·
    exact of_ok ⟨by decide, by decide⟩
  ·
   split at hx
   ·
    rcases List.mem_or_eq_of_mem_set hx with hx | rfl
    ·
     exact h0 x hx
    ·
     exact of_ok ⟨by decide, by decide⟩
   ·
    exact h0 x hx
 ·
  rw [List.mem_singleton.1 hx]; exact hb
theorem set_gtiB {l : List Bool} {i : Nat} {b : Bool} (h : i < l.length) (hb : gti l i = b) : l.set i b = l := by
 refine List.ext_getElem? fun j => ?_
 by_cases e : i = j
 ·
  subst e
  rw [List.getElem?_set_self h, List.getElem?_eq_getElem h]
  unfold gti at hb
  rw [List.getElem?_eq_getElem h] at hb
  exact congrArg some hb.symm
 ·
  rw [List.getElem?_set_ne e]
namespace K1
set_option maxHeartbeats 16000000 in
theorem begin_call {n m : Nat} (z : Zc) (p : LP) (h : LpOk p n m) :
  CallE P 52 [eP p] [.row z.n z.cs] (.tup [.ptr 1 5 0 0, .own 4 1 m]) (.row z.n z.cs :: stB (begT p) (.s (.slice none 0 0)) ++ [.row 1 ((turnL p).map eB)]) := by
 have hrow := fun i hi => begR_ok h (i := i) hi
 obtain ⟨hc, ha, hb, hr, hn, hm, hco, hbo, hao⟩ := h
 subst hc ha
 refine callE_fn (Nat.le_refl _) (by rw [IsP.eq (P := P)]; exact Try.func52) rfl rfl (Nat.le_of_ble_eq_true rfl) ?_
 simp only [argF]
 refine kw_seq (kw_region (kops_op rfl rfl (zaa rfl) (zb4 rfl rfl rfl rfl) (kops_s rfl (kops_s rfl (kops_nil (kw_seq ?_))))))
 refine kw_weak (kwk_froz (id := 1) rfl) ?_
 refine kw_weak (kwk_ref (d := 1) rfl rfl rfl) ?_
 refine kw_draw hmix ?_
 refine kdraw_ex ?_
 refine ex_f tf47_0 rfl (ex_l ta30 rfl (zaz rfl rfl (zaa rfl) (fun _ => (zao rfl ts30 rfl)) (ex_f tf47_1 rfl (ex_l ta45 rfl (zaz rfl rfl (zaa rfl) (fun _ => (zao rfl ts45 rfl)) (ex_s rfl (ex_s rfl ?_)))))))
 refine zcc (by kernel_rfl) ?_
 refine kw_seq (kw_region (kops_s rfl (kops_s rfl (kops_op rfl rfl (zaa rfl) (zav rfl rfl rfl (IntWalk.i64_in _ (by omega))) (kops_op rfl rfl (zaa rfl) (za6 rfl ti108 tp108 rfl rfl) (kops_op rfl rfl (zaa rfl) (zb4 rfl rfl rfl rfl) (kops_s rfl (kops_nil (kw_seq (kw_region (kops_s rfl (kops_op rfl rfl (zaa rfl) (does_make rfl ts100 ti4 rfl rfl (by decide) rfl rfl rfl rfl (by omega) (by omega) (by omega)) (kops_s rfl (kops_nil (kw_seq (kw_seq ?_))))))))))))))))
 refine kw_weak (kwk_ownC (id := 2) (sz := 5) (sz2 := 1) (e' := .agg [.own 4 1 0, .s (.slice none 0 0), .s (.slice none 0 0), eI ((p.c.length : Int) + p.a.length), eI 0]) (pre := []) (post := [.s (.slice none 0 0), .s (.slice none 0 0), eI ((p.c.length : Int) + p.a.length), eI 0]) rfl rfl rfl) ?_
 refine kw_weak (kwk_ownC (id := 2) (sz := 5) (sz2 := 1) (e' := .agg [.own 4 1 0, .s (.slice none 0 0), .own 5 1 0, eI ((p.c.length : Int) + p.a.length), eI 0]) (pre := [.own 4 1 0, .s (.slice none 0 0)]) (post := [eI ((p.c.length : Int) + p.a.length), eI 0]) rfl rfl rfl) ?_
 refine kw_region (kops_f tf47_1 rfl (kops_l ta45 rfl (kops_op rfl rfl (zaa rfl) (zao rfl ts45 rfl) (kops_s rfl (kops_nil (zai (kw_block ?_)))))))
 refine kw_loops (S := Nat) (fun i => [(1, .ref (eP p).cells), (4, eI p.c.length), (5, eI p.a.length), (6, .ptr 1 5 0 0), (7, .own 4 1 p.a.length), (26, eL (eL eF) p.a), (27, eI p.a.length), (28, eI i)]) (fun i => [.row z.n z.cs, .row 5 [.agg [.own 2 1 i, .s (.slice none 0 0), .own 3 1 i, eI ((p.c.length : Int) + p.a.length), eI 0]], .row 1 (((begT p).rows.take i).map (eL eF)), .row 1 (((begT p).bas.take i).map eI), .row 1 ((tnL p i).map eB)]) (fun i => i ≤ p.a.length) (fun i => p.a.length - i) 0
  (kwk_st [0, 2, 4, 5, 3] rfl (by decide) ⟨⟨_, rfl, .rowE z.lo rfl⟩, ⟨_, rfl, zc2 (.cons (.own _ _ _ _ _ rfl rfl) (.cons (.lo _ (.s _)) (.cons (.own _ _ _ _ _ rfl rfl) (.cons (.lo _ (.s _)) (.cons (.lo _ (.s _)) .nil)))))⟩, ⟨_, rfl, .rowE (za2) rfl⟩, ⟨_, rfl, .rowE (za2) rfl⟩, ⟨_, rfl, .rowE (zar fun b c hc => by simp [eB, AV.cells] at hc; subst hc; exact .s _) (by simp [tnL, eB, ofValue])⟩, trivial⟩ ⟨.lo _ (.ref _ (lo_P p).cells), .lo _ (.s _), .lo _ (.s _), .ptr 2 1 5 0 0 rfl, .own 3 4 1 _ _ rfl rfl, .lo _ (lo_FF _), .lo _ (.s _), .lo _ (.s _), trivial⟩) (Nat.zero_le _) (fun i hi => ?_)
 refine kw_seq (kw_region ?_)
 refine kops_opP rfl rfl (zaa rfl) (za4 rfl rfl rfl) (fun h29 => ?_) (fun h29 => ?_)
 all_goals refine kops_nil (kw_seq ?_)
 all_goals (first | refine kw_true rfl ?_ | refine kw_false rfl ?_)
 all_goals (repeat (first | refine kw_seq ?_ | refine kw_skip ?_ | refine kw_block ?_))
 ·
  have hlt : i < p.a.length := by omega
  obtain ⟨g1, g2⟩ := hao i hlt
  have hxa : (p.a.map (eL eF))[i]? = some (eL eF (gti p.a i)) := zbd hlt
  have hxr : (p.rel.map eI)[i]? = some (eI (gti p.rel i)) := zbd (by omega)
  have hxb : (p.b.map eF)[i]? = some (eF (gti p.b i)) := zbd (by omega)
  have hcl := fun σ => cloneF_call (P := P) (gti p.a i) (by omega) (by omega) σ
  have hzo := zeros_po (P := P) (2 * p.a.length) (by omega)
  have hz2 : (2 : Int) * (p.a.length : Int) = ((2 * p.a.length : Nat) : Int) := by omega
  have hal : ((gti p.a i).map eF).length = (gti p.a i).length := by simp
  have hzl2 : (za9 (2 * p.a.length)).length = 2 * p.a.length := by simp [za9]
  have hzl : ((za9 (2 * p.a.length)).map eF).length = 2 * p.a.length := by simp [za9]
  refine kw_region (kops_s rfl (kops_op rfl rfl (zaa rfl) (zal rfl ts45 ti30 rfl rfl rfl hxa rfl) (kops_l ta30 rfl (kops_s rfl (kops_s rfl (kops_nil (kw_seq (kw_region (kops_s rfl (kops_op rfl rfl (zaa rfl) (zbo rfl rfl (hcl _) (zad rfl zaq)) (kops_s rfl (kops_op rfl rfl (zaa rfl) (does_mul rfl rfl rfl (IntWalk.i64_in _ (by omega))) (kops_op rfl rfl (zaa rfl) (does_callO rfl rfl ((hz2 ▸ hzo)) (zad rfl zaq)) ?_)))))))))))))
  refine kops_op rfl rfl (zaa rfl) (zbm rfl ts30 ti51 rfl (by decide) rfl rfl (by first | rfl | (simp; done) | (simp; omega)) rfl (by first | exact .own _ _ _ rfl rfl _ (by first | rfl | simp) | exact .emp | exact .nil | exact .sl _ (by first | simp; done | intro e he; simp at he; obtain ⟨_, _, rfl⟩ := he; rfl)) (by first | omega | (simp; omega) | (unfold maxLen; simp; omega)) (by first | omega | (simp; omega) | (unfold maxLen; simp; omega))) ?_
  refine kops_s rfl (kops_nil (kw_seq (kw_seq ?_)))
  -- the row so far, as a variable
  refine kw_weak (F' := [(1, .ref (eP p).cells), (4, eI p.c.length), (5, eI p.a.length), (6, .ptr 1 5 0 0), (7, .own 4 1 p.a.length), (8, eI i), (10, .own 5 2 (p.c.length + 2 * p.a.length)), (26, eL (eL eF) p.a), (27, eI p.a.length), (28, eI i)]) (σ' := [.row z.n z.cs, .row 5 [.agg [.own 2 1 i, .s (.slice none 0 0), .own 3 1 i, eI ((p.c.length : Int) + p.a.length), eI 0]], .row 1 (((begT p).rows.take i).map (eL eF)), .row 1 (((begT p).bas.take i).map eI), .row 1 ((tnL p i).map eB), .row 2 ((gti p.a i ++ za9 (2 * p.a.length)).map eF)]) (kwk_st [0, 1, 2, 3, 4, 7] rfl (by decide) ⟨⟨_, rfl, .rowE z.lo rfl⟩, ⟨_, rfl, bg_ren rfl rfl (.s _)⟩, ⟨_, rfl, .rowE (zcq _) rfl⟩, ⟨_, rfl, .rowE (zc9 _) rfl⟩, ⟨_, rfl, .rowE (zar fun b c hc => by simp [eB, AV.cells] at hc; subst hc; exact .s _) rfl⟩, ⟨_, rfl, .rowE (by repeat' (first | exact Lo.s _ | exact za2 | refine zax ?_ ?_ | refine zar ?_ | refine Lo.cells ?_ | refine Lo.agg _ ?_ | exact zak | refine zag ?_ ?_ | intro _)) (by rw [List.map_append]; try rfl)⟩, trivial⟩ ⟨.lo _ (.ref _ (lo_P p).cells), .lo _ (.s _), .lo _ (.s _), .ptr 1 1 5 0 0 rfl, .own 4 4 1 _ _ rfl rfl, .lo _ (.s _), .own 7 5 2 _ _ rfl (by omega), .lo _ (lo_FF _), .lo _ (.s _), .lo _ (.s _), trivial⟩) ?_
  have hr0 : gti p.a i ++ za9 (2 * p.a.length) = gti p.a i ++ List.replicate (2 * p.a.length) (Fr.of 0) := rfl
  have hl0 : (gti p.a i ++ za9 (2 * p.a.length)).length = p.c.length + 2 * p.a.length := by simp [za9]; omega
  have hw1 := swhole_pf (P := P) 1
  have hwm := swhole_pf (P := P) (-1)
  have hkn : (p.c.length : Int) + (i : Int) = ((p.c.length + i : Nat) : Int) := by omega
  have hxn : ((gti p.a i ++ za9 (2 * p.a.length)).map eF)[p.c.length + i]? = some (eF (gti (gti p.a i ++ za9 (2 * p.a.length)) (p.c.length + i))) := zbd (by omega)
  have hlo : ∀ l, r1of p i ++ [gti p.b i] = l → ∀ x ∈ l, x.ok := fun l hl => hl ▸ r1b_ok hlt g2 (hbo _ (zdm (by omega)))
  have hr1 : r1of p i = (if gti p.rel i = 1 then (gti p.a i ++ za9 (2 * p.a.length)).set (p.c.length + i) (Fr.of 1) else if gti p.rel i = 2 then (gti p.a i ++ za9 (2 * p.a.length)).set (p.c.length + i) (Fr.of (-1)) else gti p.a i ++ za9 (2 * p.a.length)) := rfl
  refine kw_region (kops_f tf47_2 rfl (kops_l ta22 rfl (kops_s rfl (kops_op rfl rfl (zaa rfl) (zal rfl ts22 ti3 rfl rfl rfl hxr rfl) (kops_l ta3 rfl (kops_nil (zai (kw_block (kw_seq (kw_region ?_))))))))))
  refine kops_opP rfl rfl (zaa rfl) (zbk rfl rfl rfl) (fun h45 => ?_) (fun h45 => ?_)
  all_goals refine kops_s rfl (kops_nil (zai ?_))
  all_goals (first | refine kw_true rfl ?_ | refine kw_false rfl ?_)
  all_goals repeat refine kw_seq ?_
  ·
   rw [if_pos h45] at hr1
   refine kw_region (kops_s rfl (kops_s rfl (kops_s rfl (kops_op rfl rfl (zaa rfl) (zav rfl rfl rfl (IntWalk.i64_in _ (by omega))) (kops_op rfl rfl (zaa rfl) (zam rfl rfl (hw1) (zad rfl zaq)) (kops_op rfl rfl (zaa rfl) (zau rfl ts30 ti51 rfl rfl hkn (by omega)) (kops_eff rfl (zaa rfl) (zaj rfl ti51 rfl rfl rfl hxn rfl rfl (by decide) (by decide)) (kops_nil (kw_seq ?_)))))))))
   refine kw_weak (F' := [(1, .ref (eP p).cells), (4, eI p.c.length), (5, eI p.a.length), (6, .ptr 1 5 0 0), (7, .own 4 1 p.a.length), (8, eI i), (10, .own 5 2 (p.c.length + 2 * p.a.length)), (26, eL (eL eF) p.a), (27, eI p.a.length), (28, eI i)]) (σ' := [.row z.n z.cs, .row 5 [.agg [.own 2 1 i, .s (.slice none 0 0), .own 3 1 i, eI ((p.c.length : Int) + p.a.length), eI 0]], .row 1 (((begT p).rows.take i).map (eL eF)), .row 1 (((begT p).bas.take i).map eI), .row 1 ((tnL p i).map eB), .row 2 ((r1of p i).map eF)]) (kwk_st [0, 1, 2, 3, 4, 5] rfl (by decide) ⟨⟨_, rfl, .rowE z.lo rfl⟩, ⟨_, rfl, bg_ren rfl rfl (.s _)⟩, ⟨_, rfl, .rowE (zcq _) rfl⟩, ⟨_, rfl, .rowE (zc9 _) rfl⟩, ⟨_, rfl, .rowE (zar fun b c hc => by simp [eB, AV.cells] at hc; subst hc; exact .s _) rfl⟩, ⟨_, rfl, .rowE (by repeat' (first | exact Lo.s _ | exact za2 | refine zax ?_ ?_ | refine zar ?_ | refine Lo.cells ?_ | refine Lo.agg _ ?_ | exact zak | refine zag ?_ ?_ | intro _)) (by rw [hr1, List.map_set]; try rfl)⟩, trivial⟩ ⟨.lo _ (.ref _ (lo_P p).cells), .lo _ (.s _), .lo _ (.s _), .ptr 1 1 5 0 0 rfl, .own 4 4 1 _ _ rfl rfl, .lo _ (.s _), .own 5 5 2 _ _ rfl rfl, .lo _ (lo_FF _), .lo _ (.s _), .lo _ (.s _), trivial⟩) ?_
   have hl1 := r1of_len g1
   have hl1m : ((r1of p i).map eF).length = p.c.length + 2 * p.a.length := by rw [List.length_map, hl1]
   refine kw_region (kops_s rfl (kops_f tf47_3 rfl (kops_l ta30 rfl (kops_s rfl (kops_op rfl rfl (zaa rfl) (zal rfl ts30 ti51 rfl rfl rfl hxb rfl) (kops_w ta51 ti51 rfl (kops_op rfl rfl (zaa rfl) (zcr rfl ts30 ti51 rfl rfl (by decide) (by decide) rfl rfl rfl (.agg _ (zag (.s _) (zag (.s _) zak)))) ?_)))))))
   refine kops_op rfl rfl (zaa rfl) (zbm rfl ts30 ti51 rfl (by decide) rfl rfl (by first | rfl | (simp; done) | (simp; omega)) rfl (by first | exact .own _ _ _ rfl rfl _ (by first | rfl | simp) | exact .emp | exact .nil | exact .sl _ (by first | simp; done | intro e he; simp at he; obtain ⟨_, _, rfl⟩ := he; rfl)) (by first | omega | (simp; omega) | (unfold maxLen; simp; omega)) (by first | omega | (simp; omega) | (unfold maxLen; simp; omega))) ?_
   refine kops_s rfl (kops_nil (kw_seq (kw_seq ?_)))
   rw [hl1m]
   refine kw_region (kops_f tf47_3 rfl (kops_l ta30 rfl (kops_s rfl (kops_op rfl rfl (zaa rfl) (zal rfl ts30 ti51 rfl rfl rfl hxb rfl) (kops_f tf51_0 rfl (kops_l ta3 rfl ?_))))))
   refine kops_opP rfl rfl (zaa rfl) (za4 rfl rfl rfl) (fun h74 => ?_) (fun h74 => ?_)
   all_goals refine kops_nil (zai ?_)
   all_goals (first | refine kw_true rfl ?_ | refine kw_false rfl ?_)
   all_goals (repeat (first | refine kw_seq ?_ | refine kw_skip ?_))
   ·
    have hr2 : r2of p i = (r1of p i ++ [gti p.b i]).map fneg := by unfold r2of; rw [if_pos h74]
    have ht2 : tnL p (i + 1) = (tnL p i).set i true := by rw [tnL_step hb hlt, decide_eq_true h74]
    have htl := tnL_len (p := p) (i := i) hb (by omega)
    have hxt : ((tnL p i).map eB)[i]? = some (eB (gti (tnL p i) i)) := zbd (by omega)
    generalize hl : r1of p i ++ [gti p.b i] = l at hr2
    have hll : l.length = p.c.length + 2 * p.a.length + 1 := by rw [← hl, List.length_append, hl1]; rfl
    have hlok : ∀ x ∈ l, x.ok := hlo l hl
    refine kw_region (kops_s rfl (kops_s rfl (kops_op rfl rfl (zaa rfl) (zau rfl ts100 ti4 rfl rfl rfl (by omega)) (kops_eff rfl (zaa rfl) (zaj rfl ti4 rfl rfl rfl hxt rfl rfl (by decide) (by decide)) (kops_nil (kw_seq (kw_region (kops_s rfl (kops_op rfl rfl (zaa rfl) (zc6 rfl ts30 rfl) (kops_s rfl (kops_nil (zai (kw_block ?_)))))))))))))
    refine kw_loops (S := Nat) (fun j => [(1, .ref (eP p).cells), (4, eI p.c.length), (5, eI p.a.length), (6, .ptr 1 5 0 0), (7, .own 4 1 p.a.length), (8, eI i), (10, .own 5 2 (p.c.length + 2 * p.a.length + 1)), (26, eL (eL eF) p.a), (27, eI p.a.length), (28, eI i), (79, eI ((p.c.length + 2 * p.a.length + 1 : Nat) : Int)), (80, eI j)]) (fun j => [.row z.n z.cs, .row 5 [.agg [.own 2 1 i, .s (.slice none 0 0), .own 3 1 i, eI ((p.c.length : Int) + p.a.length), eI 0]], .row 1 (((begT p).rows.take i).map (eL eF)), .row 1 (((begT p).bas.take i).map eI), .row 1 ((tnL p (i + 1)).map eB), .row 2 ((ngL l j).map eF)]) (fun j => j ≤ p.c.length + 2 * p.a.length + 1) (fun j => p.c.length + 2 * p.a.length + 1 - j) 0
     (kwk_st [0, 1, 2, 3, 4, 6] rfl (by decide) ⟨⟨_, rfl, .rowE z.lo rfl⟩, ⟨_, rfl, bg_ren rfl rfl (.s _)⟩, ⟨_, rfl, .rowE (zcq _) rfl⟩, ⟨_, rfl, .rowE (zc9 _) rfl⟩, ⟨_, rfl, .rowE (zar fun b c hc => by simp [eB, AV.cells] at hc; subst hc; exact .s _) (by rw [ht2, List.map_set]; try rfl)⟩, ⟨_, rfl, .rowE (by repeat' (first | exact Lo.s _ | exact za2 | refine zax ?_ ?_ | refine zar ?_ | refine Lo.cells ?_ | refine Lo.agg _ ?_ | exact zak | refine zag ?_ ?_ | intro _)) (by rw [← hl]; simp [ngL]; try rfl)⟩, trivial⟩ ⟨.lo _ (.ref _ (lo_P p).cells), .lo _ (.s _), .lo _ (.s _), .ptr 1 1 5 0 0 rfl, .own 4 4 1 _ _ rfl rfl, .lo _ (.s _), .own 6 5 2 _ _ rfl rfl, .lo _ (lo_FF _), .lo _ (.s _), .lo _ (.s _), .lo _ (.s _), .lo _ (.s _), trivial⟩) (Nat.zero_le _) (fun j hj => ?_)
    refine kw_seq (kw_region ?_)
    refine kops_opP rfl rfl (zaa rfl) (za4 rfl rfl rfl) (fun h81 => ?_) (fun h81 => ?_)
    all_goals refine kops_nil (kw_seq ?_)
    all_goals (first | refine kw_true rfl ?_ | refine kw_false rfl ?_)
    all_goals (repeat (first | refine kw_seq ?_ | refine kw_skip ?_ | refine kw_block ?_))
    ·
     have hjl : j < l.length := by omega
     have hxj : ((ngL l j).map eF)[j]? = some (eF (gti l j)) := by rw [← ngL_get hjl]; exact zbd (by rw [ngL_len]; exact hjl)
     have hjo := hlok _ (zdm hjl)
     have hng := sneg_pf (P := P) (gti l j) ⟨hjo.1, hjo.2.1⟩
     refine kw_region (kops_s rfl (kops_s rfl (kops_nil (zai (kw_region (kops_s rfl (kops_s rfl (kops_s rfl (kops_s rfl (kops_op rfl rfl (zaa rfl) (zau rfl ts30 ti51 rfl rfl rfl (by omega)) (kops_op rfl rfl (zaa rfl) (zba rfl ta51 ti51 rfl rfl rfl hxj rfl) (kops_op rfl rfl (zaa rfl) (zam rfl rfl (hng) (zad rfl zaq)) (kops_op rfl rfl (zaa rfl) (zau rfl ts30 ti51 rfl rfl rfl (by omega)) (kops_eff rfl (zaa rfl) (zaj rfl ti51 rfl rfl rfl hxj rfl rfl (by decide) (by decide)) (kops_nil (zbu (zai (kw_region ?_))))))))))))))))))
     refine kops_op rfl rfl (zaa rfl) (zav rfl rfl rfl (IntWalk.i64_in _ (by omega))) (kops_s rfl (kops_nil (zai ?_)))
     exact ⟨j + 1, by omega, by omega, (kwk_st [0, 1, 2, 3, 4, 5] rfl (by decide) ⟨⟨_, rfl, .rowE z.lo rfl⟩, ⟨_, rfl, bg_ren rfl rfl (.s _)⟩, ⟨_, rfl, .rowE (zcq _) rfl⟩, ⟨_, rfl, .rowE (zc9 _) rfl⟩, ⟨_, rfl, .rowE (zar fun b c hc => by simp [eB, AV.cells] at hc; subst hc; exact .s _) rfl⟩, ⟨_, rfl, .rowE (by repeat' (first | exact Lo.s _ | exact za2 | refine zax ?_ ?_ | refine zar ?_ | refine Lo.cells ?_ | refine Lo.agg _ ?_ | exact zak | refine zag ?_ ?_ | intro _)) (by rw [ngL_step hjl, List.map_set]; try rfl)⟩, trivial⟩ ⟨.lo _ (.ref _ (lo_P p).cells), .lo _ (.s _), .lo _ (.s _), .ptr 1 1 5 0 0 rfl, .own 4 4 1 _ _ rfl rfl, .lo _ (.s _), .own 5 5 2 _ _ rfl rfl, .lo _ (lo_FF _), .lo _ (.s _), .lo _ (.s _), .lo _ (.s _), .lo _ (.s _), trivial⟩)⟩
    ·
     have ej : j = l.length := by omega
     have hng : ngL l j = r2of p i := by rw [hr2, ej]; simp [ngL]
     rw [hng]
     (refine kw_exit ?_; repeat (first | refine zc3 ?_ | refine zb2 ?_ | refine zbq rfl ?_ | refine zbu ?_ | refine zai ?_ | refine kw_seq ?_ | refine kw_skip ?_ | refine kw_block ?_))
     have hl2 := r2of_len (p := p) (i := i) g1
     have hk2 : (p.c.length : Int) + (p.a.length : Int) + (i : Int) = ((p.c.length + p.a.length + i : Nat) : Int) := by omega
     have hxq : ((r2of p i).map eF)[p.c.length + p.a.length + i]? = some (eF (gti (r2of p i) (p.c.length + p.a.length + i))) := zbd (by omega)
     have hrl := rows_len p
     have hbl := basB_len p
     refine kw_region (kops_s rfl (kops_s rfl (kops_s rfl (kops_op rfl rfl (zaa rfl) (zav rfl rfl rfl (IntWalk.i64_in _ (by omega))) (kops_s rfl (kops_op rfl rfl (zaa rfl) (zav rfl rfl rfl (IntWalk.i64_in _ (by omega))) (kops_op rfl rfl (zaa rfl) (zam rfl rfl (hw1) (zad rfl zaq)) (kops_op rfl rfl (zaa rfl) (zau rfl ts30 ti51 rfl rfl hk2 (by omega)) (kops_eff rfl (zaa rfl) (zaj rfl ti51 rfl rfl rfl hxq rfl rfl (by decide) (by decide)) (kops_nil (zai ?_)))))))))))
     have hlB : (begR p i).length = p.c.length + 2 * p.a.length + 1 := by rw [begR_eq, List.length_set, hl2]
     refine kw_weak (F' := [(1, .ref (eP p).cells), (4, eI p.c.length), (5, eI p.a.length), (6, .ptr 1 5 0 0), (7, .own 4 1 p.a.length), (8, eI i), (10, .own 5 2 (p.c.length + 2 * p.a.length + 1)), (26, eL (eL eF) p.a), (27, eI p.a.length), (28, eI i)]) (σ' := [.row z.n z.cs, .row 5 [.agg [.own 2 1 i, .s (.slice none 0 0), .own 3 1 i, eI ((p.c.length : Int) + p.a.length), eI 0]], .row 1 (((begT p).rows.take i).map (eL eF)), .row 1 (((begT p).bas.take i).map eI), .row 1 ((tnL p (i + 1)).map eB), .row 2 ((begR p i).map eF)]) (kwk_st [0, 1, 2, 3, 4, 5] rfl (by decide) ⟨⟨_, rfl, .rowE z.lo rfl⟩, ⟨_, rfl, bg_ren rfl rfl (.s _)⟩, ⟨_, rfl, .rowE (zcq _) rfl⟩, ⟨_, rfl, .rowE (zc9 _) rfl⟩, ⟨_, rfl, .rowE (zar fun b c hc => by simp [eB, AV.cells] at hc; subst hc; exact .s _) rfl⟩, ⟨_, rfl, .rowE (by repeat' (first | exact Lo.s _ | exact za2 | refine zax ?_ ?_ | refine zar ?_ | refine Lo.cells ?_ | refine Lo.agg _ ?_ | exact zak | refine zag ?_ ?_ | intro _)) (by rw [begR_eq, List.map_set]; try rfl)⟩, trivial⟩ ⟨.lo _ (.ref _ (lo_P p).cells), .lo _ (.s _), .lo _ (.s _), .ptr 1 1 5 0 0 rfl, .own 4 4 1 _ _ rfl rfl, .lo _ (.s _), .own 5 5 2 _ _ rfl rfl, .lo _ (lo_FF _), .lo _ (.s _), .lo _ (.s _), trivial⟩) ?_
     refine kw_weak (kwk_froz (id := 5) rfl) ?_
     refine kw_weak (kwk_sl (d := 10) rfl rfl (by simp [hlB])) ?_
     refine kw_draw hmix ?_
     refine kdraw_ex ?_
     refine ex_s rfl (ex_s rfl (ex_s rfl (ex_s rfl (ex_f zc4 rfl (zbt rfl rfl (zaa rfl) (zbn rfl ta45 rfl rfl rfl rfl rfl) (ex_s rfl ?_))))))
     refine zaz rfl rfl (zaa rfl) (fun _ => (lit1_slF rfl ts45 ti30 rfl rfl rfl rfl (by repeat' (first | exact Lo.s _ | exact zak | refine zag ?_ ?_ | refine zan ?_ | refine Lo.agg _ ?_ | refine Lo.sl _ ?_ | intro _)))) ?_
     refine zdh rfl rfl (zaa rfl) (zbm rfl ts45 ti30 rfl (by decide) rfl rfl (by simp [hrl]; omega) rfl (by first | exact .own _ _ _ rfl rfl _ (by first | rfl | simp) | exact .emp | exact .nil | exact .sl _ (by first | simp; done | intro e he; simp at he; obtain ⟨_, _, rfl⟩ := he; rfl)) (by first | omega | (simp; omega) | (unfold maxLen; simp; omega)) (by first | omega | (simp; omega) | (unfold maxLen; simp; omega))) (fun _ h => zcp h) ?_
     refine ex_s rfl (ex_s rfl (ex_f zdi rfl (zbt rfl rfl (zaa rfl) (zbn rfl ta22 rfl rfl rfl rfl rfl) (ex_s rfl (ex_s rfl (zaz rfl rfl (zaa rfl) (fun _ => (zav rfl rfl rfl (IntWalk.i64_in _ (by omega)))) (ex_s rfl (zaz rfl rfl (zaa rfl) (fun _ => (zav rfl rfl rfl (IntWalk.i64_in _ (by omega)))) (zaz rfl rfl (zaa rfl) (fun _ => (lit1_sF rfl ts22 ti3 rfl rfl rfl rfl)) ?_)))))))))
     refine zdh rfl rfl (zaa rfl) (zbm rfl ts22 ti3 rfl (by decide) rfl rfl (by simp [hbl]; omega) rfl (by first | exact .own _ _ _ rfl rfl _ (by first | rfl | simp) | exact .emp | exact .nil | exact .sl _ (by first | simp; done | intro e he; simp at he; obtain ⟨_, _, rfl⟩ := he; rfl)) (by first | omega | (simp; omega) | (unfold maxLen; simp; omega)) (by first | omega | (simp; omega) | (unfold maxLen; simp; omega))) (fun _ h => zcp h) ?_
     refine ex_s rfl (ex_f zc4 rfl ?_)
     refine zci rfl (zaa rfl) (zaj rfl ti45 rfl rfl rfl rfl rfl rfl (by decide) (by decide)) (fun _ h => zbr h) ?_
     refine ex_s rfl (ex_f zdi rfl ?_)
     refine zci rfl (zaa rfl) (zaj rfl ti22 rfl rfl rfl rfl rfl rfl (by decide) (by decide)) (fun _ h => zbr h) ?_
     refine zcc (by kernel_rfl) ?_
     refine zbu (zai (kw_region (kops_op rfl rfl (zaa rfl) (zav rfl rfl rfl (IntWalk.i64_in _ (by omega))) (kops_s rfl (kops_nil (zai ?_))))))
     exact ⟨i + 1, by omega, by omega, kwk_st [0, 1, 6, 7, 4] rfl (by decide) ⟨⟨_, rfl, .rowE z.lo rfl⟩, ⟨_, rfl, zc2 (.cons (.own _ _ _ _ _ rfl (by simp [hrl]; omega)) (.cons (.lo _ (.s _)) (.cons (.own _ _ _ _ _ rfl (by simp [hbl]; omega)) (.cons (.lo _ (.s _)) (.cons (.lo _ (.s _)) .nil)))))⟩, ⟨_, rfl, .rowE (zcq _) (by rw [zcw (by omega), rows_get hlt, List.map_append]; try rfl)⟩, ⟨_, rfl, .rowE (zc9 _) (by rw [zcw (by omega), basB_get hlt, List.map_append]; simp [eI]; try rfl)⟩, ⟨_, rfl, .rowE (zar fun b c hc => by simp [eB, AV.cells] at hc; subst hc; exact .s _) rfl⟩, trivial⟩ ⟨.lo _ (.ref _ (lo_P p).cells), .lo _ (.s _), .lo _ (.s _), .ptr 1 1 5 0 0 rfl, .own 4 4 1 _ _ rfl rfl, .lo _ (lo_FF _), .lo _ (.s _), .lo _ (.s _), trivial⟩⟩
   ·
    have hr2 : r2of p i = r1of p i ++ [gti p.b i] := by unfold r2of; rw [if_neg h74]
    have ht2 : tnL p (i + 1) = tnL p i := by
     rw [tnL_step hb hlt, decide_eq_false h74]
     have := tnL_get hb hlt
     exact set_gtiB (by rw [tnL_len hb (by omega)]; exact hlt) this
    refine kw_weak (F' := [(1, .ref (eP p).cells), (4, eI p.c.length), (5, eI p.a.length), (6, .ptr 1 5 0 0), (7, .own 4 1 p.a.length), (8, eI i), (10, .own 5 2 (p.c.length + 2 * p.a.length + 1)), (26, eL (eL eF) p.a), (27, eI p.a.length), (28, eI i)]) (σ' := [.row z.n z.cs, .row 5 [.agg [.own 2 1 i, .s (.slice none 0 0), .own 3 1 i, eI ((p.c.length : Int) + p.a.length), eI 0]], .row 1 (((begT p).rows.take i).map (eL eF)), .row 1 (((begT p).bas.take i).map eI), .row 1 ((tnL p (i + 1)).map eB), .row 2 ((r2of p i).map eF)]) (kwk_st [0, 1, 2, 3, 4, 6] rfl (by decide) ⟨⟨_, rfl, .rowE z.lo rfl⟩, ⟨_, rfl, bg_ren rfl rfl (.s _)⟩, ⟨_, rfl, .rowE (zcq _) rfl⟩, ⟨_, rfl, .rowE (zc9 _) rfl⟩, ⟨_, rfl, .rowE (zar fun b c hc => by simp [eB, AV.cells] at hc; subst hc; exact .s _) (by rw [ht2])⟩, ⟨_, rfl, .rowE (by repeat' (first | exact Lo.s _ | exact za2 | refine zax ?_ ?_ | refine zar ?_ | refine Lo.cells ?_ | refine Lo.agg _ ?_ | exact zak | refine zag ?_ ?_ | intro _)) (by rw [hr2, List.map_append]; try rfl)⟩, trivial⟩ ⟨.lo _ (.ref _ (lo_P p).cells), .lo _ (.s _), .lo _ (.s _), .ptr 1 1 5 0 0 rfl, .own 4 4 1 _ _ rfl rfl, .lo _ (.s _), .own 6 5 2 _ _ rfl rfl, .lo _ (lo_FF _), .lo _ (.s _), .lo _ (.s _), trivial⟩) ?_
    have hl2 := r2of_len (p := p) (i := i) g1
    have hk2 : (p.c.length : Int) + (p.a.length : Int) + (i : Int) = ((p.c.length + p.a.length + i : Nat) : Int) := by omega
    have hxq : ((r2of p i).map eF)[p.c.length + p.a.length + i]? = some (eF (gti (r2of p i) (p.c.length + p.a.length + i))) := zbd (by omega)
    have hrl := rows_len p
    have hbl := basB_len p
    refine kw_region (kops_s rfl (kops_s rfl (kops_s rfl (kops_op rfl rfl (zaa rfl) (zav rfl rfl rfl (IntWalk.i64_in _ (by omega))) (kops_s rfl (kops_op rfl rfl (zaa rfl) (zav rfl rfl rfl (IntWalk.i64_in _ (by omega))) (kops_op rfl rfl (zaa rfl) (zam rfl rfl (hw1) (zad rfl zaq)) (kops_op rfl rfl (zaa rfl) (zau rfl ts30 ti51 rfl rfl hk2 (by omega)) (kops_eff rfl (zaa rfl) (zaj rfl ti51 rfl rfl rfl hxq rfl rfl (by decide) (by decide)) (kops_nil (zai ?_)))))))))))
    have hlB : (begR p i).length = p.c.length + 2 * p.a.length + 1 := by rw [begR_eq, List.length_set, hl2]
    refine kw_weak (F' := [(1, .ref (eP p).cells), (4, eI p.c.length), (5, eI p.a.length), (6, .ptr 1 5 0 0), (7, .own 4 1 p.a.length), (8, eI i), (10, .own 5 2 (p.c.length + 2 * p.a.length + 1)), (26, eL (eL eF) p.a), (27, eI p.a.length), (28, eI i)]) (σ' := [.row z.n z.cs, .row 5 [.agg [.own 2 1 i, .s (.slice none 0 0), .own 3 1 i, eI ((p.c.length : Int) + p.a.length), eI 0]], .row 1 (((begT p).rows.take i).map (eL eF)), .row 1 (((begT p).bas.take i).map eI), .row 1 ((tnL p (i + 1)).map eB), .row 2 ((begR p i).map eF)]) (kwk_st [0, 1, 2, 3, 4, 5] rfl (by decide) ⟨⟨_, rfl, .rowE z.lo rfl⟩, ⟨_, rfl, bg_ren rfl rfl (.s _)⟩, ⟨_, rfl, .rowE (zcq _) rfl⟩, ⟨_, rfl, .rowE (zc9 _) rfl⟩, ⟨_, rfl, .rowE (zar fun b c hc => by simp [eB, AV.cells] at hc; subst hc; exact .s _) rfl⟩, ⟨_, rfl, .rowE (by repeat' (first | exact Lo.s _ | exact za2 | refine zax ?_ ?_ | refine zar ?_ | refine Lo.cells ?_ | refine Lo.agg _ ?_ | exact zak | refine zag ?_ ?_ | intro _)) (by rw [begR_eq, List.map_set]; try rfl)⟩, trivial⟩ ⟨.lo _ (.ref _ (lo_P p).cells), .lo _ (.s _), .lo _ (.s _), .ptr 1 1 5 0 0 rfl, .own 4 4 1 _ _ rfl rfl, .lo _ (.s _), .own 5 5 2 _ _ rfl rfl, .lo _ (lo_FF _), .lo _ (.s _), .lo _ (.s _), trivial⟩) ?_
    refine kw_weak (kwk_froz (id := 5) rfl) ?_
    refine kw_weak (kwk_sl (d := 10) rfl rfl (by simp [hlB])) ?_
    refine kw_draw hmix ?_
    refine kdraw_ex ?_
    refine ex_s rfl (ex_s rfl (ex_s rfl (ex_s rfl (ex_f zc4 rfl (zbt rfl rfl (zaa rfl) (zbn rfl ta45 rfl rfl rfl rfl rfl) (ex_s rfl ?_))))))
    refine zaz rfl rfl (zaa rfl) (fun _ => (lit1_slF rfl ts45 ti30 rfl rfl rfl rfl (by repeat' (first | exact Lo.s _ | exact zak | refine zag ?_ ?_ | refine zan ?_ | refine Lo.agg _ ?_ | refine Lo.sl _ ?_ | intro _)))) ?_
    refine zdh rfl rfl (zaa rfl) (zbm rfl ts45 ti30 rfl (by decide) rfl rfl (by simp [hrl]; omega) rfl (by first | exact .own _ _ _ rfl rfl _ (by first | rfl | simp) | exact .emp | exact .nil | exact .sl _ (by first | simp; done | intro e he; simp at he; obtain ⟨_, _, rfl⟩ := he; rfl)) (by first | omega | (simp; omega) | (unfold maxLen; simp; omega)) (by first | omega | (simp; omega) | (unfold maxLen; simp; omega))) (fun _ h => zcp h) ?_
    refine ex_s rfl (ex_s rfl (ex_f zdi rfl (zbt rfl rfl (zaa rfl) (zbn rfl ta22 rfl rfl rfl rfl rfl) (ex_s rfl (ex_s rfl (zaz rfl rfl (zaa rfl) (fun _ => (zav rfl rfl rfl (IntWalk.i64_in _ (by omega)))) (ex_s rfl (zaz rfl rfl (zaa rfl) (fun _ => (zav rfl rfl rfl (IntWalk.i64_in _ (by omega)))) (zaz rfl rfl (zaa rfl) (fun _ => (lit1_sF rfl ts22 ti3 rfl rfl rfl rfl)) ?_)))))))))
    refine zdh rfl rfl (zaa rfl) (zbm rfl ts22 ti3 rfl (by decide) rfl rfl (by simp [hbl]; omega) rfl (by first | exact .own _ _ _ rfl rfl _ (by first | rfl | simp) | exact .emp | exact .nil | exact .sl _ (by first | simp; done | intro e he; simp at he; obtain ⟨_, _, rfl⟩ := he; rfl)) (by first | omega | (simp; omega) | (unfold maxLen; simp; omega)) (by first | omega | (simp; omega) | (unfold maxLen; simp; omega))) (fun _ h => zcp h) ?_
    refine ex_s rfl (ex_f zc4 rfl ?_)
    refine zci rfl (zaa rfl) (zaj rfl ti45 rfl rfl rfl rfl rfl rfl (by decide) (by decide)) (fun _ h => zbr h) ?_
    refine ex_s rfl (ex_f zdi rfl ?_)
    refine zci rfl (zaa rfl) (zaj rfl ti22 rfl rfl rfl rfl rfl rfl (by decide) (by decide)) (fun _ h => zbr h) ?_
    refine zcc (by kernel_rfl) ?_
    refine zbu (zai (kw_region (kops_op rfl rfl (zaa rfl) (zav rfl rfl rfl (IntWalk.i64_in _ (by omega))) (kops_s rfl (kops_nil (zai ?_))))))
    exact ⟨i + 1, by omega, by omega, kwk_st [0, 1, 6, 7, 4] rfl (by decide) ⟨⟨_, rfl, .rowE z.lo rfl⟩, ⟨_, rfl, zc2 (.cons (.own _ _ _ _ _ rfl (by simp [hrl]; omega)) (.cons (.lo _ (.s _)) (.cons (.own _ _ _ _ _ rfl (by simp [hbl]; omega)) (.cons (.lo _ (.s _)) (.cons (.lo _ (.s _)) .nil)))))⟩, ⟨_, rfl, .rowE (zcq _) (by rw [zcw (by omega), rows_get hlt, List.map_append]; try rfl)⟩, ⟨_, rfl, .rowE (zc9 _) (by rw [zcw (by omega), basB_get hlt, List.map_append]; simp [eI]; try rfl)⟩, ⟨_, rfl, .rowE (zar fun b c hc => by simp [eB, AV.cells] at hc; subst hc; exact .s _) rfl⟩, trivial⟩ ⟨.lo _ (.ref _ (lo_P p).cells), .lo _ (.s _), .lo _ (.s _), .ptr 1 1 5 0 0 rfl, .own 4 4 1 _ _ rfl rfl, .lo _ (lo_FF _), .lo _ (.s _), .lo _ (.s _), trivial⟩⟩
  ·
   rw [if_neg h45] at hr1
   refine kw_region ?_
   refine kops_opP rfl rfl (zaa rfl) (zbk rfl rfl rfl) (fun h53 => ?_) (fun h53 => ?_)
   all_goals refine kops_s rfl (kops_nil (zai ?_))
   all_goals (first | refine kw_true rfl ?_ | refine kw_false rfl ?_)
   all_goals (repeat (first | refine kw_seq ?_ | refine kw_skip ?_))
   ·
    rw [if_pos h53] at hr1
    refine kw_region (kops_s rfl (kops_s rfl (kops_s rfl (kops_op rfl rfl (zaa rfl) (zav rfl rfl rfl (IntWalk.i64_in _ (by omega))) (kops_op rfl rfl (zaa rfl) (zam rfl rfl (hwm) (zad rfl zaq)) (kops_op rfl rfl (zaa rfl) (zau rfl ts30 ti51 rfl rfl hkn (by omega)) (kops_eff rfl (zaa rfl) (zaj rfl ti51 rfl rfl rfl hxn rfl rfl (by decide) (by decide)) (kops_nil (kw_seq ?_)))))))))
    refine kw_weak (F' := [(1, .ref (eP p).cells), (4, eI p.c.length), (5, eI p.a.length), (6, .ptr 1 5 0 0), (7, .own 4 1 p.a.length), (8, eI i), (10, .own 5 2 (p.c.length + 2 * p.a.length)), (26, eL (eL eF) p.a), (27, eI p.a.length), (28, eI i)]) (σ' := [.row z.n z.cs, .row 5 [.agg [.own 2 1 i, .s (.slice none 0 0), .own 3 1 i, eI ((p.c.length : Int) + p.a.length), eI 0]], .row 1 (((begT p).rows.take i).map (eL eF)), .row 1 (((begT p).bas.take i).map eI), .row 1 ((tnL p i).map eB), .row 2 ((r1of p i).map eF)]) (kwk_st [0, 1, 2, 3, 4, 5] rfl (by decide) ⟨⟨_, rfl, .rowE z.lo rfl⟩, ⟨_, rfl, bg_ren rfl rfl (.s _)⟩, ⟨_, rfl, .rowE (zcq _) rfl⟩, ⟨_, rfl, .rowE (zc9 _) rfl⟩, ⟨_, rfl, .rowE (zar fun b c hc => by simp [eB, AV.cells] at hc; subst hc; exact .s _) rfl⟩, ⟨_, rfl, .rowE (by repeat' (first | exact Lo.s _ | exact za2 | refine zax ?_ ?_ | refine zar ?_ | refine Lo.cells ?_ | refine Lo.agg _ ?_ | exact zak | refine zag ?_ ?_ | intro _)) (by rw [hr1, List.map_set]; try rfl)⟩, trivial⟩ ⟨.lo _ (.ref _ (lo_P p).cells), .lo _ (.s _), .lo _ (.s _), .ptr 1 1 5 0 0 rfl, .own 4 4 1 _ _ rfl rfl, .lo _ (.s _), .own 5 5 2 _ _ rfl rfl, .lo _ (lo_FF _), .lo _ (.s _), .lo _ (.s _), trivial⟩) ?_
    have hl1 := r1of_len g1
    have hl1m : ((r1of p i).map eF).length = p.c.length + 2 * p.a.length := by rw [List.length_map, hl1]
    refine kw_region (kops_s rfl (kops_f tf47_3 rfl (kops_l ta30 rfl (kops_s rfl (kops_op rfl rfl (zaa rfl) (zal rfl ts30 ti51 rfl rfl rfl hxb rfl) (kops_w ta51 ti51 rfl (kops_op rfl rfl (zaa rfl) (zcr rfl ts30 ti51 rfl rfl (by decide) (by decide) rfl rfl rfl (.agg _ (zag (.s _) (zag (.s _) zak)))) ?_)))))))
    refine kops_op rfl rfl (zaa rfl) (zbm rfl ts30 ti51 rfl (by decide) rfl rfl (by first | rfl | (simp; done) | (simp; omega)) rfl (by first | exact .own _ _ _ rfl rfl _ (by first | rfl | simp) | exact .emp | exact .nil | exact .sl _ (by first | simp; done | intro e he; simp at he; obtain ⟨_, _, rfl⟩ := he; rfl)) (by first | omega | (simp; omega) | (unfold maxLen; simp; omega)) (by first | omega | (simp; omega) | (unfold maxLen; simp; omega))) ?_
    refine kops_s rfl (kops_nil (kw_seq (kw_seq ?_)))
    rw [hl1m]
    refine kw_region (kops_f tf47_3 rfl (kops_l ta30 rfl (kops_s rfl (kops_op rfl rfl (zaa rfl) (zal rfl ts30 ti51 rfl rfl rfl hxb rfl) (kops_f tf51_0 rfl (kops_l ta3 rfl ?_))))))
    refine kops_opP rfl rfl (zaa rfl) (za4 rfl rfl rfl) (fun h74 => ?_) (fun h74 => ?_)
    all_goals refine kops_nil (zai ?_)
    all_goals (first | refine kw_true rfl ?_ | refine kw_false rfl ?_)
    all_goals (repeat (first | refine kw_seq ?_ | refine kw_skip ?_))
    ·
     have hr2 : r2of p i = (r1of p i ++ [gti p.b i]).map fneg := by unfold r2of; rw [if_pos h74]
     have ht2 : tnL p (i + 1) = (tnL p i).set i true := by rw [tnL_step hb hlt, decide_eq_true h74]
     have htl := tnL_len (p := p) (i := i) hb (by omega)
     have hxt : ((tnL p i).map eB)[i]? = some (eB (gti (tnL p i) i)) := zbd (by omega)
     generalize hl : r1of p i ++ [gti p.b i] = l at hr2
     have hll : l.length = p.c.length + 2 * p.a.length + 1 := by rw [← hl, List.length_append, hl1]; rfl
     have hlok : ∀ x ∈ l, x.ok := hlo l hl
     refine kw_region (kops_s rfl (kops_s rfl (kops_op rfl rfl (zaa rfl) (zau rfl ts100 ti4 rfl rfl rfl (by omega)) (kops_eff rfl (zaa rfl) (zaj rfl ti4 rfl rfl rfl hxt rfl rfl (by decide) (by decide)) (kops_nil (kw_seq (kw_region (kops_s rfl (kops_op rfl rfl (zaa rfl) (zc6 rfl ts30 rfl) (kops_s rfl (kops_nil (zai (kw_block ?_)))))))))))))
     refine kw_loops (S := Nat) (fun j => [(1, .ref (eP p).cells), (4, eI p.c.length), (5, eI p.a.length), (6, .ptr 1 5 0 0), (7, .own 4 1 p.a.length), (8, eI i), (10, .own 5 2 (p.c.length + 2 * p.a.length + 1)), (26, eL (eL eF) p.a), (27, eI p.a.length), (28, eI i), (79, eI ((p.c.length + 2 * p.a.length + 1 : Nat) : Int)), (80, eI j)]) (fun j => [.row z.n z.cs, .row 5 [.agg [.own 2 1 i, .s (.slice none 0 0), .own 3 1 i, eI ((p.c.length : Int) + p.a.length), eI 0]], .row 1 (((begT p).rows.take i).map (eL eF)), .row 1 (((begT p).bas.take i).map eI), .row 1 ((tnL p (i + 1)).map eB), .row 2 ((ngL l j).map eF)]) (fun j => j ≤ p.c.length + 2 * p.a.length + 1) (fun j => p.c.length + 2 * p.a.length + 1 - j) 0
      (kwk_st [0, 1, 2, 3, 4, 6] rfl (by decide) ⟨⟨_, rfl, .rowE z.lo rfl⟩, ⟨_, rfl, bg_ren rfl rfl (.s _)⟩, ⟨_, rfl, .rowE (zcq _) rfl⟩, ⟨_, rfl, .rowE (zc9 _) rfl⟩, ⟨_, rfl, .rowE (zar fun b c hc => by simp [eB, AV.cells] at hc; subst hc; exact .s _) (by rw [ht2, List.map_set]; try rfl)⟩, ⟨_, rfl, .rowE (by repeat' (first | exact Lo.s _ | exact za2 | refine zax ?_ ?_ | refine zar ?_ | refine Lo.cells ?_ | refine Lo.agg _ ?_ | exact zak | refine zag ?_ ?_ | intro _)) (by rw [← hl]; simp [ngL]; try rfl)⟩, trivial⟩ ⟨.lo _ (.ref _ (lo_P p).cells), .lo _ (.s _), .lo _ (.s _), .ptr 1 1 5 0 0 rfl, .own 4 4 1 _ _ rfl rfl, .lo _ (.s _), .own 6 5 2 _ _ rfl rfl, .lo _ (lo_FF _), .lo _ (.s _), .lo _ (.s _), .lo _ (.s _), .lo _ (.s _), trivial⟩) (Nat.zero_le _) (fun j hj => ?_)
     refine kw_seq (kw_region ?_)
     refine kops_opP rfl rfl (zaa rfl) (za4 rfl rfl rfl) (fun h81 => ?_) (fun h81 => ?_)
     all_goals refine kops_nil (kw_seq ?_)
     all_goals (first | refine kw_true rfl ?_ | refine kw_false rfl ?_)
     all_goals (repeat (first | refine kw_seq ?_ | refine kw_skip ?_ | refine kw_block ?_))
     ·
      have hjl : j < l.length := by omega
      have hxj : ((ngL l j).map eF)[j]? = some (eF (gti l j)) := by rw [← ngL_get hjl]; exact zbd (by rw [ngL_len]; exact hjl)
      have hjo := hlok _ (zdm hjl)
      have hng := sneg_pf (P := P) (gti l j) ⟨hjo.1, hjo.2.1⟩
      refine kw_region (kops_s rfl (kops_s rfl (kops_nil (zai (kw_region (kops_s rfl (kops_s rfl (kops_s rfl (kops_s rfl (kops_op rfl rfl (zaa rfl) (zau rfl ts30 ti51 rfl rfl rfl (by omega)) (kops_op rfl rfl (zaa rfl) (zba rfl ta51 ti51 rfl rfl rfl hxj rfl) (kops_op rfl rfl (zaa rfl) (zam rfl rfl (hng) (zad rfl zaq)) (kops_op rfl rfl (zaa rfl) (zau rfl ts30 ti51 rfl rfl rfl (by omega)) (kops_eff rfl (zaa rfl) (zaj rfl ti51 rfl rfl rfl hxj rfl rfl (by decide) (by decide)) (kops_nil (zbu (zai (kw_region ?_))))))))))))))))))
      refine kops_op rfl rfl (zaa rfl) (zav rfl rfl rfl (IntWalk.i64_in _ (by omega))) (kops_s rfl (kops_nil (zai ?_)))
      exact ⟨j + 1, by omega, by omega, (kwk_st [0, 1, 2, 3, 4, 5] rfl (by decide) ⟨⟨_, rfl, .rowE z.lo rfl⟩, ⟨_, rfl, bg_ren rfl rfl (.s _)⟩, ⟨_, rfl, .rowE (zcq _) rfl⟩, ⟨_, rfl, .rowE (zc9 _) rfl⟩, ⟨_, rfl, .rowE (zar fun b c hc => by simp [eB, AV.cells] at hc; subst hc; exact .s _) rfl⟩, ⟨_, rfl, .rowE (by repeat' (first | exact Lo.s _ | exact za2 | refine zax ?_ ?_ | refine zar ?_ | refine Lo.cells ?_ | refine Lo.agg _ ?_ | exact zak | refine zag ?_ ?_ | intro _)) (by rw [ngL_step hjl, List.map_set]; try rfl)⟩, trivial⟩ ⟨.lo _ (.ref _ (lo_P p).cells), .lo _ (.s _), .lo _ (.s _), .ptr 1 1 5 0 0 rfl, .own 4 4 1 _ _ rfl rfl, .lo _ (.s _), .own 5 5 2 _ _ rfl rfl, .lo _ (lo_FF _), .lo _ (.s _), .lo _ (.s _), .lo _ (.s _), .lo _ (.s _), trivial⟩)⟩
     ·
      have ej : j = l.length := by omega
      have hng : ngL l j = r2of p i := by rw [hr2, ej]; simp [ngL]
      rw [hng]
      (refine kw_exit ?_; repeat (first | refine zc3 ?_ | refine zb2 ?_ | refine zbq rfl ?_ | refine zbu ?_ | refine zai ?_ | refine kw_seq ?_ | refine kw_skip ?_ | refine kw_block ?_))
      have hl2 := r2of_len (p := p) (i := i) g1
      have hk2 : (p.c.length : Int) + (p.a.length : Int) + (i : Int) = ((p.c.length + p.a.length + i : Nat) : Int) := by omega
      have hxq : ((r2of p i).map eF)[p.c.length + p.a.length + i]? = some (eF (gti (r2of p i) (p.c.length + p.a.length + i))) := zbd (by omega)
      have hrl := rows_len p
      have hbl := basB_len p
      refine kw_region (kops_s rfl (kops_s rfl (kops_s rfl (kops_op rfl rfl (zaa rfl) (zav rfl rfl rfl (IntWalk.i64_in _ (by omega))) (kops_s rfl (kops_op rfl rfl (zaa rfl) (zav rfl rfl rfl (IntWalk.i64_in _ (by omega))) (kops_op rfl rfl (zaa rfl) (zam rfl rfl (hw1) (zad rfl zaq)) (kops_op rfl rfl (zaa rfl) (zau rfl ts30 ti51 rfl rfl hk2 (by omega)) (kops_eff rfl (zaa rfl) (zaj rfl ti51 rfl rfl rfl hxq rfl rfl (by decide) (by decide)) (kops_nil (zai ?_)))))))))))
      have hlB : (begR p i).length = p.c.length + 2 * p.a.length + 1 := by rw [begR_eq, List.length_set, hl2]
      refine kw_weak (F' := [(1, .ref (eP p).cells), (4, eI p.c.length), (5, eI p.a.length), (6, .ptr 1 5 0 0), (7, .own 4 1 p.a.length), (8, eI i), (10, .own 5 2 (p.c.length + 2 * p.a.length + 1)), (26, eL (eL eF) p.a), (27, eI p.a.length), (28, eI i)]) (σ' := [.row z.n z.cs, .row 5 [.agg [.own 2 1 i, .s (.slice none 0 0), .own 3 1 i, eI ((p.c.length : Int) + p.a.length), eI 0]], .row 1 (((begT p).rows.take i).map (eL eF)), .row 1 (((begT p).bas.take i).map eI), .row 1 ((tnL p (i + 1)).map eB), .row 2 ((begR p i).map eF)]) (kwk_st [0, 1, 2, 3, 4, 5] rfl (by decide) ⟨⟨_, rfl, .rowE z.lo rfl⟩, ⟨_, rfl, bg_ren rfl rfl (.s _)⟩, ⟨_, rfl, .rowE (zcq _) rfl⟩, ⟨_, rfl, .rowE (zc9 _) rfl⟩, ⟨_, rfl, .rowE (zar fun b c hc => by simp [eB, AV.cells] at hc; subst hc; exact .s _) rfl⟩, ⟨_, rfl, .rowE (by repeat' (first | exact Lo.s _ | exact za2 | refine zax ?_ ?_ | refine zar ?_ | refine Lo.cells ?_ | refine Lo.agg _ ?_ | exact zak | refine zag ?_ ?_ | intro _)) (by rw [begR_eq, List.map_set]; try rfl)⟩, trivial⟩ ⟨.lo _ (.ref _ (lo_P p).cells), .lo _ (.s _), .lo _ (.s _), .ptr 1 1 5 0 0 rfl, .own 4 4 1 _ _ rfl rfl, .lo _ (.s _), .own 5 5 2 _ _ rfl rfl, .lo _ (lo_FF _), .lo _ (.s _), .lo _ (.s _), trivial⟩) ?_
      refine kw_weak (kwk_froz (id := 5) rfl) ?_
      refine kw_weak (kwk_sl (d := 10) rfl rfl (by simp [hlB])) ?_
      refine kw_draw hmix ?_
      refine kdraw_ex ?_
      refine ex_s rfl (ex_s rfl (ex_s rfl (ex_s rfl (ex_f zc4 rfl (zbt rfl rfl (zaa rfl) (zbn rfl ta45 rfl rfl rfl rfl rfl) (ex_s rfl ?_))))))
      refine zaz rfl rfl (zaa rfl) (fun _ => (lit1_slF rfl ts45 ti30 rfl rfl rfl rfl (by repeat' (first | exact Lo.s _ | exact zak | refine zag ?_ ?_ | refine zan ?_ | refine Lo.agg _ ?_ | refine Lo.sl _ ?_ | intro _)))) ?_
      refine zdh rfl rfl (zaa rfl) (zbm rfl ts45 ti30 rfl (by decide) rfl rfl (by simp [hrl]; omega) rfl (by first | exact .own _ _ _ rfl rfl _ (by first | rfl | simp) | exact .emp | exact .nil | exact .sl _ (by first | simp; done | intro e he; simp at he; obtain ⟨_, _, rfl⟩ := he; rfl)) (by first | omega | (simp; omega) | (unfold maxLen; simp; omega)) (by first | omega | (simp; omega) | (unfold maxLen; simp; omega))) (fun _ h => zcp h) ?_
      refine ex_s rfl (ex_s rfl (ex_f zdi rfl (zbt rfl rfl (zaa rfl) (zbn rfl ta22 rfl rfl rfl rfl rfl) (ex_s rfl (ex_s rfl (zaz rfl rfl (zaa rfl) (fun _ => (zav rfl rfl rfl (IntWalk.i64_in _ (by omega)))) (ex_s rfl (zaz rfl rfl (zaa rfl) (fun _ => (zav rfl rfl rfl (IntWalk.i64_in _ (by omega)))) (zaz rfl rfl (zaa rfl) (fun _ => (lit1_sF rfl ts22 ti3 rfl rfl rfl rfl)) ?_)))))))))
      refine zdh rfl rfl (zaa rfl) (zbm rfl ts22 ti3 rfl (by decide) rfl rfl (by simp [hbl]; omega) rfl (by first | exact .own _ _ _ rfl rfl _ (by first | rfl | simp) | exact .emp | exact .nil | exact .sl _ (by first | simp; done | intro e he; simp at he; obtain ⟨_, _, rfl⟩ := he; rfl)) (by first | omega | (simp; omega) | (unfold maxLen; simp; omega)) (by first | omega | (simp; omega) | (unfold maxLen; simp; omega))) (fun _ h => zcp h) ?_
      refine ex_s rfl (ex_f zc4 rfl ?_)
      refine zci rfl (zaa rfl) (zaj rfl ti45 rfl rfl rfl rfl rfl rfl (by decide) (by decide)) (fun _ h => zbr h) ?_
      refine ex_s rfl (ex_f zdi rfl ?_)
      refine zci rfl (zaa rfl) (zaj rfl ti22 rfl rfl rfl rfl rfl rfl (by decide) (by decide)) (fun _ h => zbr h) ?_
      refine zcc (by kernel_rfl) ?_
      refine zbu (zai (kw_region (kops_op rfl rfl (zaa rfl) (zav rfl rfl rfl (IntWalk.i64_in _ (by omega))) (kops_s rfl (kops_nil (zai ?_))))))
      exact ⟨i + 1, by omega, by omega, kwk_st [0, 1, 6, 7, 4] rfl (by decide) ⟨⟨_, rfl, .rowE z.lo rfl⟩, ⟨_, rfl, zc2 (.cons (.own _ _ _ _ _ rfl (by simp [hrl]; omega)) (.cons (.lo _ (.s _)) (.cons (.own _ _ _ _ _ rfl (by simp [hbl]; omega)) (.cons (.lo _ (.s _)) (.cons (.lo _ (.s _)) .nil)))))⟩, ⟨_, rfl, .rowE (zcq _) (by rw [zcw (by omega), rows_get hlt, List.map_append]; try rfl)⟩, ⟨_, rfl, .rowE (zc9 _) (by rw [zcw (by omega), basB_get hlt, List.map_append]; simp [eI]; try rfl)⟩, ⟨_, rfl, .rowE (zar fun b c hc => by simp [eB, AV.cells] at hc; subst hc; exact .s _) rfl⟩, trivial⟩ ⟨.lo _ (.ref _ (lo_P p).cells), .lo _ (.s _), .lo _ (.s _), .ptr 1 1 5 0 0 rfl, .own 4 4 1 _ _ rfl rfl, .lo _ (lo_FF _), .lo _ (.s _), .lo _ (.s _), trivial⟩⟩
    ·
     have hr2 : r2of p i = r1of p i ++ [gti p.b i] := by unfold r2of; rw [if_neg h74]
     have ht2 : tnL p (i + 1) = tnL p i := by
      rw [tnL_step hb hlt, decide_eq_false h74]
      have := tnL_get hb hlt
      exact set_gtiB (by rw [tnL_len hb (by omega)]; exact hlt) this
     refine kw_weak (F' := [(1, .ref (eP p).cells), (4, eI p.c.length), (5, eI p.a.length), (6, .ptr 1 5 0 0), (7, .own 4 1 p.a.length), (8, eI i), (10, .own 5 2 (p.c.length + 2 * p.a.length + 1)), (26, eL (eL eF) p.a), (27, eI p.a.length), (28, eI i)]) (σ' := [.row z.n z.cs, .row 5 [.agg [.own 2 1 i, .s (.slice none 0 0), .own 3 1 i, eI ((p.c.length : Int) + p.a.length), eI 0]], .row 1 (((begT p).rows.take i).map (eL eF)), .row 1 (((begT p).bas.take i).map eI), .row 1 ((tnL p (i + 1)).map eB), .row 2 ((r2of p i).map eF)]) (kwk_st [0, 1, 2, 3, 4, 6] rfl (by decide) ⟨⟨_, rfl, .rowE z.lo rfl⟩, ⟨_, rfl, bg_ren rfl rfl (.s _)⟩, ⟨_, rfl, .rowE (zcq _) rfl⟩, ⟨_, rfl, .rowE (zc9 _) rfl⟩, ⟨_, rfl, .rowE (zar fun b c hc => by simp [eB, AV.cells] at hc; subst hc; exact .s _) (by rw [ht2])⟩, ⟨_, rfl, .rowE (by repeat' (first | exact Lo.s _ | exact za2 | refine zax ?_ ?_ | refine zar ?_ | refine Lo.cells ?_ | refine Lo.agg _ ?_ | exact zak | refine zag ?_ ?_ | intro _)) (by rw [hr2, List.map_append]; try rfl)⟩, trivial⟩ ⟨.lo _ (.ref _ (lo_P p).cells), .lo _ (.s _), .lo _ (.s _), .ptr 1 1 5 0 0 rfl, .own 4 4 1 _ _ rfl rfl, .lo _ (.s _), .own 6 5 2 _ _ rfl rfl, .lo _ (lo_FF _), .lo _ (.s _), .lo _ (.s _), trivial⟩) ?_
     have hl2 := r2of_len (p := p) (i := i) g1
     have hk2 : (p.c.length : Int) + (p.a.length : Int) + (i : Int) = ((p.c.length + p.a.length + i : Nat) : Int) := by omega
     have hxq : ((r2of p i).map eF)[p.c.length + p.a.length + i]? = some (eF (gti (r2of p i) (p.c.length + p.a.length + i))) := zbd (by omega)
     have hrl := rows_len p
     have hbl := basB_len p
     refine kw_region (kops_s rfl (kops_s rfl (kops_s rfl (kops_op rfl rfl (zaa rfl) (zav rfl rfl rfl (IntWalk.i64_in _ (by omega))) (kops_s rfl (kops_op rfl rfl (zaa rfl) (zav rfl rfl rfl (IntWalk.i64_in _ (by omega))) (kops_op rfl rfl (zaa rfl) (zam rfl rfl (hw1) (zad rfl zaq)) (kops_op rfl rfl (zaa rfl) (zau rfl ts30 ti51 rfl rfl hk2 (by omega)) (kops_eff rfl (zaa rfl) (zaj rfl ti51 rfl rfl rfl hxq rfl rfl (by decide) (by decide)) (kops_nil (zai ?_)))))))))))
     have hlB : (begR p i).length = p.c.length + 2 * p.a.length + 1 := by rw [begR_eq, List.length_set, hl2]
     refine kw_weak (F' := [(1, .ref (eP p).cells), (4, eI p.c.length), (5, eI p.a.length), (6, .ptr 1 5 0 0), (7, .own 4 1 p.a.length), (8, eI i), (10, .own 5 2 (p.c.length + 2 * p.a.length + 1)), (26, eL (eL eF) p.a), (27, eI p.a.length), (28, eI i)]) (σ' := [.row z.n z.cs, .row 5 [.agg [.own 2 1 i, .s (.slice none 0 0), .own 3 1 i, eI ((p.c.length : Int) + p.a.length), eI 0]], .row 1 (((begT p).rows.take i).map (eL eF)), .row 1 (((begT p).bas.take i).map eI), .row 1 ((tnL p (i + 1)).map eB), .row 2 ((begR p i).map eF)]) (kwk_st [0, 1, 2, 3, 4, 5] rfl (by decide) ⟨⟨_, rfl, .rowE z.lo rfl⟩, ⟨_, rfl, bg_ren rfl rfl (.s _)⟩, ⟨_, rfl, .rowE (zcq _) rfl⟩, ⟨_, rfl, .rowE (zc9 _) rfl⟩, ⟨_, rfl, .rowE (zar fun b c hc => by simp [eB, AV.cells] at hc; subst hc; exact .s _) rfl⟩, ⟨_, rfl, .rowE (by repeat' (first | exact Lo.s _ | exact za2 | refine zax ?_ ?_ | refine zar ?_ | refine Lo.cells ?_ | refine Lo.agg _ ?_ | exact zak | refine zag ?_ ?_ | intro _)) (by rw [begR_eq, List.map_set]; try rfl)⟩, trivial⟩ ⟨.lo _ (.ref _ (lo_P p).cells), .lo _ (.s _), .lo _ (.s _), .ptr 1 1 5 0 0 rfl, .own 4 4 1 _ _ rfl rfl, .lo _ (.s _), .own 5 5 2 _ _ rfl rfl, .lo _ (lo_FF _), .lo _ (.s _), .lo _ (.s _), trivial⟩) ?_
     refine kw_weak (kwk_froz (id := 5) rfl) ?_
     refine kw_weak (kwk_sl (d := 10) rfl rfl (by simp [hlB])) ?_
     refine kw_draw hmix ?_
     refine kdraw_ex ?_
     refine ex_s rfl (ex_s rfl (ex_s rfl (ex_s rfl (ex_f zc4 rfl (zbt rfl rfl (zaa rfl) (zbn rfl ta45 rfl rfl rfl rfl rfl) (ex_s rfl ?_))))))
     refine zaz rfl rfl (zaa rfl) (fun _ => (lit1_slF rfl ts45 ti30 rfl rfl rfl rfl (by repeat' (first | exact Lo.s _ | exact zak | refine zag ?_ ?_ | refine zan ?_ | refine Lo.agg _ ?_ | refine Lo.sl _ ?_ | intro _)))) ?_
     refine zdh rfl rfl (zaa rfl) (zbm rfl ts45 ti30 rfl (by decide) rfl rfl (by simp [hrl]; omega) rfl (by first | exact .own _ _ _ rfl rfl _ (by first | rfl | simp) | exact .emp | exact .nil | exact .sl _ (by first | simp; done | intro e he; simp at he; obtain ⟨_, _, rfl⟩ := he; rfl)) (by first | omega | (simp; omega) | (unfold maxLen; simp; omega)) (by first | omega | (simp; omega) | (unfold maxLen; simp; omega))) (fun _ h => zcp h) ?_
     refine ex_s rfl (ex_s rfl (ex_f zdi rfl (zbt rfl rfl (zaa rfl) (zbn rfl ta22 rfl rfl rfl rfl rfl) (ex_s rfl (ex_s rfl (zaz rfl rfl (zaa rfl) (fun _ => (zav rfl rfl rfl (IntWalk.i64_in _ (by omega)))) (ex_s rfl (zaz rfl rfl (zaa rfl) (fun _ => (zav rfl rfl rfl (IntWalk.i64_in _ (by omega)))) (zaz rfl rfl (zaa rfl) (fun _ => (lit1_sF rfl ts22 ti3 rfl rfl rfl rfl)) ?_)))))))))
     refine zdh rfl rfl (zaa rfl) (zbm rfl ts22 ti3 rfl (by decide) rfl rfl (by simp [hbl]; omega) rfl (by first | exact .own _ _ _ rfl rfl _ (by first | rfl | simp) | exact .emp | exact .nil | exact .sl _ (by first | simp; done | intro e he; simp at he; obtain ⟨_, _, rfl⟩ := he; rfl)) (by first | omega | (simp; omega) | (unfold maxLen; simp; omega)) (by first | omega | (simp; omega) | (unfold maxLen; simp; omega))) (fun _ h => zcp h) ?_
     refine ex_s rfl (ex_f zc4 rfl ?_)
     refine zci rfl (zaa rfl) (zaj rfl ti45 rfl rfl rfl rfl rfl rfl (by decide) (by decide)) (fun _ h => zbr h) ?_
     refine ex_s rfl (ex_f zdi rfl ?_)
     refine zci rfl (zaa rfl) (zaj rfl ti22 rfl rfl rfl rfl rfl rfl (by decide) (by decide)) (fun _ h => zbr h) ?_
     refine zcc (by kernel_rfl) ?_
     refine zbu (zai (kw_region (kops_op rfl rfl (zaa rfl) (zav rfl rfl rfl (IntWalk.i64_in _ (by omega))) (kops_s rfl (kops_nil (zai ?_))))))
     exact ⟨i + 1, by omega, by omega, kwk_st [0, 1, 6, 7, 4] rfl (by decide) ⟨⟨_, rfl, .rowE z.lo rfl⟩, ⟨_, rfl, zc2 (.cons (.own _ _ _ _ _ rfl (by simp [hrl]; omega)) (.cons (.lo _ (.s _)) (.cons (.own _ _ _ _ _ rfl (by simp [hbl]; omega)) (.cons (.lo _ (.s _)) (.cons (.lo _ (.s _)) .nil)))))⟩, ⟨_, rfl, .rowE (zcq _) (by rw [zcw (by omega), rows_get hlt, List.map_append]; try rfl)⟩, ⟨_, rfl, .rowE (zc9 _) (by rw [zcw (by omega), basB_get hlt, List.map_append]; simp [eI]; try rfl)⟩, ⟨_, rfl, .rowE (zar fun b c hc => by simp [eB, AV.cells] at hc; subst hc; exact .s _) rfl⟩, trivial⟩ ⟨.lo _ (.ref _ (lo_P p).cells), .lo _ (.s _), .lo _ (.s _), .ptr 1 1 5 0 0 rfl, .own 4 4 1 _ _ rfl rfl, .lo _ (lo_FF _), .lo _ (.s _), .lo _ (.s _), trivial⟩⟩
   ·
    rw [if_neg h53] at hr1
    refine kw_weak (F' := [(1, .ref (eP p).cells), (4, eI p.c.length), (5, eI p.a.length), (6, .ptr 1 5 0 0), (7, .own 4 1 p.a.length), (8, eI i), (10, .own 5 2 (p.c.length + 2 * p.a.length)), (26, eL (eL eF) p.a), (27, eI p.a.length), (28, eI i)]) (σ' := [.row z.n z.cs, .row 5 [.agg [.own 2 1 i, .s (.slice none 0 0), .own 3 1 i, eI ((p.c.length : Int) + p.a.length), eI 0]], .row 1 (((begT p).rows.take i).map (eL eF)), .row 1 (((begT p).bas.take i).map eI), .row 1 ((tnL p i).map eB), .row 2 ((r1of p i).map eF)]) (kwk_st [0, 1, 2, 3, 4, 5] rfl (by decide) ⟨⟨_, rfl, .rowE z.lo rfl⟩, ⟨_, rfl, bg_ren rfl rfl (.s _)⟩, ⟨_, rfl, .rowE (zcq _) rfl⟩, ⟨_, rfl, .rowE (zc9 _) rfl⟩, ⟨_, rfl, .rowE (zar fun b c hc => by simp [eB, AV.cells] at hc; subst hc; exact .s _) rfl⟩, ⟨_, rfl, .rowE (by repeat' (first | exact Lo.s _ | exact za2 | refine zax ?_ ?_ | refine zar ?_ | refine Lo.cells ?_ | refine Lo.agg _ ?_ | exact zak | refine zag ?_ ?_ | intro _)) (by rw [hr1])⟩, trivial⟩ ⟨.lo _ (.ref _ (lo_P p).cells), .lo _ (.s _), .lo _ (.s _), .ptr 1 1 5 0 0 rfl, .own 4 4 1 _ _ rfl rfl, .lo _ (.s _), .own 5 5 2 _ _ rfl rfl, .lo _ (lo_FF _), .lo _ (.s _), .lo _ (.s _), trivial⟩) ?_
    have hl1 := r1of_len g1
    have hl1m : ((r1of p i).map eF).length = p.c.length + 2 * p.a.length := by rw [List.length_map, hl1]
    refine kw_region (kops_s rfl (kops_f tf47_3 rfl (kops_l ta30 rfl (kops_s rfl (kops_op rfl rfl (zaa rfl) (zal rfl ts30 ti51 rfl rfl rfl hxb rfl) (kops_w ta51 ti51 rfl (kops_op rfl rfl (zaa rfl) (zcr rfl ts30 ti51 rfl rfl (by decide) (by decide) rfl rfl rfl (.agg _ (zag (.s _) (zag (.s _) zak)))) ?_)))))))
    refine kops_op rfl rfl (zaa rfl) (zbm rfl ts30 ti51 rfl (by decide) rfl rfl (by first | rfl | (simp; done) | (simp; omega)) rfl (by first | exact .own _ _ _ rfl rfl _ (by first | rfl | simp) | exact .emp | exact .nil | exact .sl _ (by first | simp; done | intro e he; simp at he; obtain ⟨_, _, rfl⟩ := he; rfl)) (by first | omega | (simp; omega) | (unfold maxLen; simp; omega)) (by first | omega | (simp; omega) | (unfold maxLen; simp; omega))) ?_
    refine kops_s rfl (kops_nil (kw_seq (kw_seq ?_)))
    rw [hl1m]
    refine kw_region (kops_f tf47_3 rfl (kops_l ta30 rfl (kops_s rfl (kops_op rfl rfl (zaa rfl) (zal rfl ts30 ti51 rfl rfl rfl hxb rfl) (kops_f tf51_0 rfl (kops_l ta3 rfl ?_))))))
    refine kops_opP rfl rfl (zaa rfl) (za4 rfl rfl rfl) (fun h74 => ?_) (fun h74 => ?_)
    all_goals refine kops_nil (zai ?_)
    all_goals (first | refine kw_true rfl ?_ | refine kw_false rfl ?_)
    all_goals (repeat (first | refine kw_seq ?_ | refine kw_skip ?_))
    ·
     have hr2 : r2of p i = (r1of p i ++ [gti p.b i]).map fneg := by unfold r2of; rw [if_pos h74]
     have ht2 : tnL p (i + 1) = (tnL p i).set i true := by rw [tnL_step hb hlt, decide_eq_true h74]
     have htl := tnL_len (p := p) (i := i) hb (by omega)
     have hxt : ((tnL p i).map eB)[i]? = some (eB (gti (tnL p i) i)) := zbd (by omega)
     generalize hl : r1of p i ++ [gti p.b i] = l at hr2
     have hll : l.length = p.c.length + 2 * p.a.length + 1 := by rw [← hl, List.length_append, hl1]; rfl
     have hlok : ∀ x ∈ l, x.ok := hlo l hl
     refine kw_region (kops_s rfl (kops_s rfl (kops_op rfl rfl (zaa rfl) (zau rfl ts100 ti4 rfl rfl rfl (by omega)) (kops_eff rfl (zaa rfl) (zaj rfl ti4 rfl rfl rfl hxt rfl rfl (by decide) (by decide)) (kops_nil (kw_seq (kw_region (kops_s rfl (kops_op rfl rfl (zaa rfl) (zc6 rfl ts30 rfl) (kops_s rfl (kops_nil (zai (kw_block ?_)))))))))))))
     refine kw_loops (S := Nat) (fun j => [(1, .ref (eP p).cells), (4, eI p.c.length), (5, eI p.a.length), (6, .ptr 1 5 0 0), (7, .own 4 1 p.a.length), (8, eI i), (10, .own 5 2 (p.c.length + 2 * p.a.length + 1)), (26, eL (eL eF) p.a), (27, eI p.a.length), (28, eI i), (79, eI ((p.c.length + 2 * p.a.length + 1 : Nat) : Int)), (80, eI j)]) (fun j => [.row z.n z.cs, .row 5 [.agg [.own 2 1 i, .s (.slice none 0 0), .own 3 1 i, eI ((p.c.length : Int) + p.a.length), eI 0]], .row 1 (((begT p).rows.take i).map (eL eF)), .row 1 (((begT p).bas.take i).map eI), .row 1 ((tnL p (i + 1)).map eB), .row 2 ((ngL l j).map eF)]) (fun j => j ≤ p.c.length + 2 * p.a.length + 1) (fun j => p.c.length + 2 * p.a.length + 1 - j) 0
      (kwk_st [0, 1, 2, 3, 4, 6] rfl (by decide) ⟨⟨_, rfl, .rowE z.lo rfl⟩, ⟨_, rfl, bg_ren rfl rfl (.s _)⟩, ⟨_, rfl, .rowE (zcq _) rfl⟩, ⟨_, rfl, .rowE (zc9 _) rfl⟩, ⟨_, rfl, .rowE (zar fun b c hc => by simp [eB, AV.cells] at hc; subst hc; exact .s _) (by rw [ht2, List.map_set]; try rfl)⟩, ⟨_, rfl, .rowE (by repeat' (first | exact Lo.s _ | exact za2 | refine zax ?_ ?_ | refine zar ?_ | refine Lo.cells ?_ | refine Lo.agg _ ?_ | exact zak | refine zag ?_ ?_ | intro _)) (by rw [← hl]; simp [ngL]; try rfl)⟩, trivial⟩ ⟨.lo _ (.ref _ (lo_P p).cells), .lo _ (.s _), .lo _ (.s _), .ptr 1 1 5 0 0 rfl, .own 4 4 1 _ _ rfl rfl, .lo _ (.s _), .own 6 5 2 _ _ rfl rfl, .lo _ (lo_FF _), .lo _ (.s _), .lo _ (.s _), .lo _ (.s _), .lo _ (.s _), trivial⟩) (Nat.zero_le _) (fun j hj => ?_)
     refine kw_seq (kw_region ?_)
     refine kops_opP rfl rfl (zaa rfl) (za4 rfl rfl rfl) (fun h81 => ?_) (fun h81 => ?_)
     all_goals refine kops_nil (kw_seq ?_)
     all_goals (first | refine kw_true rfl ?_ | refine kw_false rfl ?_)
     all_goals (repeat (first | refine kw_seq ?_ | refine kw_skip ?_ | refine kw_block ?_))
     ·
      have hjl : j < l.length := by omega
      have hxj : ((ngL l j).map eF)[j]? = some (eF (gti l j)) := by rw [← ngL_get hjl]; exact zbd (by rw [ngL_len]; exact hjl)
      have hjo := hlok _ (zdm hjl)
      have hng := sneg_pf (P := P) (gti l j) ⟨hjo.1, hjo.2.1⟩
      refine kw_region (kops_s rfl (kops_s rfl (kops_nil (zai (kw_region (kops_s rfl (kops_s rfl (kops_s rfl (kops_s rfl (kops_op rfl rfl (zaa rfl) (zau rfl ts30 ti51 rfl rfl rfl (by omega)) (kops_op rfl rfl (zaa rfl) (zba rfl ta51 ti51 rfl rfl rfl hxj rfl) (kops_op rfl rfl (zaa rfl) (zam rfl rfl (hng) (zad rfl zaq)) (kops_op rfl rfl (zaa rfl) (zau rfl ts30 ti51 rfl rfl rfl (by omega)) (kops_eff rfl (zaa rfl) (zaj rfl ti51 rfl rfl rfl hxj rfl rfl (by decide) (by decide)) (kops_nil (zbu (zai (kw_region ?_))))))))))))))))))
      refine kops_op rfl rfl (zaa rfl) (zav rfl rfl rfl (IntWalk.i64_in _ (by omega))) (kops_s rfl (kops_nil (zai ?_)))
      exact ⟨j + 1, by omega, by omega, (kwk_st [0, 1, 2, 3, 4, 5] rfl (by decide) ⟨⟨_, rfl, .rowE z.lo rfl⟩, ⟨_, rfl, bg_ren rfl rfl (.s _)⟩, ⟨_, rfl, .rowE (zcq _) rfl⟩, ⟨_, rfl, .rowE (zc9 _) rfl⟩, ⟨_, rfl, .rowE (zar fun b c hc => by simp [eB, AV.cells] at hc; subst hc; exact .s _) rfl⟩, ⟨_, rfl, .rowE (by repeat' (first | exact Lo.s _ | exact za2 | refine zax ?_ ?_ | refine zar ?_ | refine Lo.cells ?_ | refine Lo.agg _ ?_ | exact zak | refine zag ?_ ?_ | intro _)) (by rw [ngL_step hjl, List.map_set]; try rfl)⟩, trivial⟩ ⟨.lo _ (.ref _ (lo_P p).cells), .lo _ (.s _), .lo _ (.s _), .ptr 1 1 5 0 0 rfl, .own 4 4 1 _ _ rfl rfl, .lo _ (.s _), .own 5 5 2 _ _ rfl rfl, .lo _ (lo_FF _), .lo _ (.s _), .lo _ (.s _), .lo _ (.s _), .lo _ (.s _), trivial⟩)⟩
     ·
      have ej : j = l.length := by omega
      have hng : ngL l j = r2of p i := by rw [hr2, ej]; simp [ngL]
      rw [hng]
      (refine kw_exit ?_; repeat (first | refine zc3 ?_ | refine zb2 ?_ | refine zbq rfl ?_ | refine zbu ?_ | refine zai ?_ | refine kw_seq ?_ | refine kw_skip ?_ | refine kw_block ?_))
      have hl2 := r2of_len (p := p) (i := i) g1
      have hk2 : (p.c.length : Int) + (p.a.length : Int) + (i : Int) = ((p.c.length + p.a.length + i : Nat) : Int) := by omega
      have hxq : ((r2of p i).map eF)[p.c.length + p.a.length + i]? = some (eF (gti (r2of p i) (p.c.length + p.a.length + i))) := zbd (by omega)
      have hrl := rows_len p
      have hbl := basB_len p
      refine kw_region (kops_s rfl (kops_s rfl (kops_s rfl (kops_op rfl rfl (zaa rfl) (zav rfl rfl rfl (IntWalk.i64_in _ (by omega))) (kops_s rfl (kops_op rfl rfl (zaa rfl) (zav rfl rfl rfl (IntWalk.i64_in _ (by omega))) (kops_op rfl rfl (zaa rfl) (zam rfl rfl (hw1) (zad rfl zaq)) (kops_op rfl rfl (zaa rfl) (zau rfl ts30 ti51 rfl rfl hk2 (by omega)) (kops_eff rfl (zaa rfl) (zaj rfl ti51 rfl rfl rfl hxq rfl rfl (by decide) (by decide)) (kops_nil (zai ?_)))))))))))
      have hlB : (begR p i).length = p.c.length + 2 * p.a.length + 1 := by rw [begR_eq, List.length_set, hl2]
      refine kw_weak (F' := [(1, .ref (eP p).cells), (4, eI p.c.length), (5, eI p.a.length), (6, .ptr 1 5 0 0), (7, .own 4 1 p.a.length), (8, eI i), (10, .own 5 2 (p.c.length + 2 * p.a.length + 1)), (26, eL (eL eF) p.a), (27, eI p.a.length), (28, eI i)]) (σ' := [.row z.n z.cs, .row 5 [.agg [.own 2 1 i, .s (.slice none 0 0), .own 3 1 i, eI ((p.c.length : Int) + p.a.length), eI 0]], .row 1 (((begT p).rows.take i).map (eL eF)), .row 1 (((begT p).bas.take i).map eI), .row 1 ((tnL p (i + 1)).map eB), .row 2 ((begR p i).map eF)]) (kwk_st [0, 1, 2, 3, 4, 5] rfl (by decide) ⟨⟨_, rfl, .rowE z.lo rfl⟩, ⟨_, rfl, bg_ren rfl rfl (.s _)⟩, ⟨_, rfl, .rowE (zcq _) rfl⟩, ⟨_, rfl, .rowE (zc9 _) rfl⟩, ⟨_, rfl, .rowE (zar fun b c hc => by simp [eB, AV.cells] at hc; subst hc; exact .s _) rfl⟩, ⟨_, rfl, .rowE (by repeat' (first | exact Lo.s _ | exact za2 | refine zax ?_ ?_ | refine zar ?_ | refine Lo.cells ?_ | refine Lo.agg _ ?_ | exact zak | refine zag ?_ ?_ | intro _)) (by rw [begR_eq, List.map_set]; try rfl)⟩, trivial⟩ ⟨.lo _ (.ref _ (lo_P p).cells), .lo _ (.s _), .lo _ (.s _), .ptr 1 1 5 0 0 rfl, .own 4 4 1 _ _ rfl rfl, .lo _ (.s _), .own 5 5 2 _ _ rfl rfl, .lo _ (lo_FF _), .lo _ (.s _), .lo _ (.s _), trivial⟩) ?_
      refine kw_weak (kwk_froz (id := 5) rfl) ?_
      refine kw_weak (kwk_sl (d := 10) rfl rfl (by simp [hlB])) ?_
      refine kw_draw hmix ?_
      refine kdraw_ex ?_
      refine ex_s rfl (ex_s rfl (ex_s rfl (ex_s rfl (ex_f zc4 rfl (zbt rfl rfl (zaa rfl) (zbn rfl ta45 rfl rfl rfl rfl rfl) (ex_s rfl ?_))))))
      refine zaz rfl rfl (zaa rfl) (fun _ => (lit1_slF rfl ts45 ti30 rfl rfl rfl rfl (by repeat' (first | exact Lo.s _ | exact zak | refine zag ?_ ?_ | refine zan ?_ | refine Lo.agg _ ?_ | refine Lo.sl _ ?_ | intro _)))) ?_
      refine zdh rfl rfl (zaa rfl) (zbm rfl ts45 ti30 rfl (by decide) rfl rfl (by simp [hrl]; omega) rfl (by first | exact .own _ _ _ rfl rfl _ (by first | rfl | simp) | exact .emp | exact .nil | exact .sl _ (by first | simp; done | intro e he; simp at he; obtain ⟨_, _, rfl⟩ := he; rfl)) (by first | omega | (simp; omega) | (unfold maxLen; simp; omega)) (by first | omega | (simp; omega) | (unfold maxLen; simp; omega))) (fun _ h => zcp h) ?_
      refine ex_s rfl (ex_s rfl (ex_f zdi rfl (zbt rfl rfl (zaa rfl) (zbn rfl ta22 rfl rfl rfl rfl rfl) (ex_s rfl (ex_s rfl (zaz rfl rfl (zaa rfl) (fun _ => (zav rfl rfl rfl (IntWalk.i64_in _ (by omega)))) (ex_s rfl (zaz rfl rfl (zaa rfl) (fun _ => (zav rfl rfl rfl (IntWalk.i64_in _ (by omega)))) (zaz rfl rfl (zaa rfl) (fun _ => (lit1_sF rfl ts22 ti3 rfl rfl rfl rfl)) ?_)))))))))
      refine zdh rfl rfl (zaa rfl) (zbm rfl ts22 ti3 rfl (by decide) rfl rfl (by simp [hbl]; omega) rfl (by first | exact .own _ _ _ rfl rfl _ (by first | rfl | simp) | exact .emp | exact .nil | exact .sl _ (by first | simp; done | intro e he; simp at he; obtain ⟨_, _, rfl⟩ := he; rfl)) (by first | omega | (simp; omega) | (unfold maxLen; simp; omega)) (by first | omega | (simp; omega) | (unfold maxLen; simp; omega))) (fun _ h => zcp h) ?_
      refine ex_s rfl (ex_f zc4 rfl ?_)
      refine zci rfl (zaa rfl) (zaj rfl ti45 rfl rfl rfl rfl rfl rfl (by decide) (by decide)) (fun _ h => zbr h) ?_
      refine ex_s rfl (ex_f zdi rfl ?_)
      refine zci rfl (zaa rfl) (zaj rfl ti22 rfl rfl rfl rfl rfl rfl (by decide) (by decide)) (fun _ h => zbr h) ?_
      refine zcc (by kernel_rfl) ?_
      refine zbu (zai (kw_region (kops_op rfl rfl (zaa rfl) (zav rfl rfl rfl (IntWalk.i64_in _ (by omega))) (kops_s rfl (kops_nil (zai ?_))))))
      exact ⟨i + 1, by omega, by omega, kwk_st [0, 1, 6, 7, 4] rfl (by decide) ⟨⟨_, rfl, .rowE z.lo rfl⟩, ⟨_, rfl, zc2 (.cons (.own _ _ _ _ _ rfl (by simp [hrl]; omega)) (.cons (.lo _ (.s _)) (.cons (.own _ _ _ _ _ rfl (by simp [hbl]; omega)) (.cons (.lo _ (.s _)) (.cons (.lo _ (.s _)) .nil)))))⟩, ⟨_, rfl, .rowE (zcq _) (by rw [zcw (by omega), rows_get hlt, List.map_append]; try rfl)⟩, ⟨_, rfl, .rowE (zc9 _) (by rw [zcw (by omega), basB_get hlt, List.map_append]; simp [eI]; try rfl)⟩, ⟨_, rfl, .rowE (zar fun b c hc => by simp [eB, AV.cells] at hc; subst hc; exact .s _) rfl⟩, trivial⟩ ⟨.lo _ (.ref _ (lo_P p).cells), .lo _ (.s _), .lo _ (.s _), .ptr 1 1 5 0 0 rfl, .own 4 4 1 _ _ rfl rfl, .lo _ (lo_FF _), .lo _ (.s _), .lo _ (.s _), trivial⟩⟩
    ·
     have hr2 : r2of p i = r1of p i ++ [gti p.b i] := by unfold r2of; rw [if_neg h74]
     have ht2 : tnL p (i + 1) = tnL p i := by
      rw [tnL_step hb hlt, decide_eq_false h74]
      have := tnL_get hb hlt
      exact set_gtiB (by rw [tnL_len hb (by omega)]; exact hlt) this
     refine kw_weak (F' := [(1, .ref (eP p).cells), (4, eI p.c.length), (5, eI p.a.length), (6, .ptr 1 5 0 0), (7, .own 4 1 p.a.length), (8, eI i), (10, .own 5 2 (p.c.length + 2 * p.a.length + 1)), (26, eL (eL eF) p.a), (27, eI p.a.length), (28, eI i)]) (σ' := [.row z.n z.cs, .row 5 [.agg [.own 2 1 i, .s (.slice none 0 0), .own 3 1 i, eI ((p.c.length : Int) + p.a.length), eI 0]], .row 1 (((begT p).rows.take i).map (eL eF)), .row 1 (((begT p).bas.take i).map eI), .row 1 ((tnL p (i + 1)).map eB), .row 2 ((r2of p i).map eF)]) (kwk_st [0, 1, 2, 3, 4, 6] rfl (by decide) ⟨⟨_, rfl, .rowE z.lo rfl⟩, ⟨_, rfl, bg_ren rfl rfl (.s _)⟩, ⟨_, rfl, .rowE (zcq _) rfl⟩, ⟨_, rfl, .rowE (zc9 _) rfl⟩, ⟨_, rfl, .rowE (zar fun b c hc => by simp [eB, AV.cells] at hc; subst hc; exact .s _) (by rw [ht2])⟩, ⟨_, rfl, .rowE (by repeat' (first | exact Lo.s _ | exact za2 | refine zax ?_ ?_ | refine zar ?_ | refine Lo.cells ?_ | refine Lo.agg _ ?_ | exact zak | refine zag ?_ ?_ | intro _)) (by rw [hr2, List.map_append]; try rfl)⟩, trivial⟩ ⟨.lo _ (.ref _ (lo_P p).cells), .lo _ (.s _), .lo _ (.s _), .ptr 1 1 5 0 0 rfl, .own 4 4 1 _ _ rfl rfl, .lo _ (.s _), .own 6 5 2 _ _ rfl rfl, .lo _ (lo_FF _), .lo _ (.s _), .lo _ (.s _), trivial⟩) ?_
     have hl2 := r2of_len (p := p) (i := i) g1
     have hk2 : (p.c.length : Int) + (p.a.length : Int) + (i : Int) = ((p.c.length + p.a.length + i : Nat) : Int) := by omega
     have hxq : ((r2of p i).map eF)[p.c.length + p.a.length + i]? = some (eF (gti (r2of p i) (p.c.length + p.a.length + i))) := zbd (by omega)
     have hrl := rows_len p
     have hbl := basB_len p
     refine kw_region (kops_s rfl (kops_s rfl (kops_s rfl (kops_op rfl rfl (zaa rfl) (zav rfl rfl rfl (IntWalk.i64_in _ (by omega))) (kops_s rfl (kops_op rfl rfl (zaa rfl) (zav rfl rfl rfl (IntWalk.i64_in _ (by omega))) (kops_op rfl rfl (zaa rfl) (zam rfl rfl (hw1) (zad rfl zaq)) (kops_op rfl rfl (zaa rfl) (zau rfl ts30 ti51 rfl rfl hk2 (by omega)) (kops_eff rfl (zaa rfl) (zaj rfl ti51 rfl rfl rfl hxq rfl rfl (by decide) (by decide)) (kops_nil (zai ?_)))))))))))
     have hlB : (begR p i).length = p.c.length + 2 * p.a.length + 1 := by rw [begR_eq, List.length_set, hl2]
     refine kw_weak (F' := [(1, .ref (eP p).cells), (4, eI p.c.length), (5, eI p.a.length), (6, .ptr 1 5 0 0), (7, .own 4 1 p.a.length), (8, eI i), (10, .own 5 2 (p.c.length + 2 * p.a.length + 1)), (26, eL (eL eF) p.a), (27, eI p.a.length), (28, eI i)]) (σ' := [.row z.n z.cs, .row 5 [.agg [.own 2 1 i, .s (.slice none 0 0), .own 3 1 i, eI ((p.c.length : Int) + p.a.length), eI 0]], .row 1 (((begT p).rows.take i).map (eL eF)), .row 1 (((begT p).bas.take i).map eI), .row 1 ((tnL p (i + 1)).map eB), .row 2 ((begR p i).map eF)]) (kwk_st [0, 1, 2, 3, 4, 5] rfl (by decide) ⟨⟨_, rfl, .rowE z.lo rfl⟩, ⟨_, rfl, bg_ren rfl rfl (.s _)⟩, ⟨_, rfl, .rowE (zcq _) rfl⟩, ⟨_, rfl, .rowE (zc9 _) rfl⟩, ⟨_, rfl, .rowE (zar fun b c hc => by simp [eB, AV.cells] at hc; subst hc; exact .s _) rfl⟩, ⟨_, rfl, .rowE (by repeat' (first | exact Lo.s _ | exact za2 | refine zax ?_ ?_ | refine zar ?_ | refine Lo.cells ?_ | refine Lo.agg _ ?_ | exact zak | refine zag ?_ ?_ | intro _)) (by rw [begR_eq, List.map_set]; try rfl)⟩, trivial⟩ ⟨.lo _ (.ref _ (lo_P p).cells), .lo _ (.s _), .lo _ (.s _), .ptr 1 1 5 0 0 rfl, .own 4 4 1 _ _ rfl rfl, .lo _ (.s _), .own 5 5 2 _ _ rfl rfl, .lo _ (lo_FF _), .lo _ (.s _), .lo _ (.s _), trivial⟩) ?_
     refine kw_weak (kwk_froz (id := 5) rfl) ?_
     refine kw_weak (kwk_sl (d := 10) rfl rfl (by simp [hlB])) ?_
     refine kw_draw hmix ?_
     refine kdraw_ex ?_
     refine ex_s rfl (ex_s rfl (ex_s rfl (ex_s rfl (ex_f zc4 rfl (zbt rfl rfl (zaa rfl) (zbn rfl ta45 rfl rfl rfl rfl rfl) (ex_s rfl ?_))))))
     refine zaz rfl rfl (zaa rfl) (fun _ => (lit1_slF rfl ts45 ti30 rfl rfl rfl rfl (by repeat' (first | exact Lo.s _ | exact zak | refine zag ?_ ?_ | refine zan ?_ | refine Lo.agg _ ?_ | refine Lo.sl _ ?_ | intro _)))) ?_
     refine zdh rfl rfl (zaa rfl) (zbm rfl ts45 ti30 rfl (by decide) rfl rfl (by simp [hrl]; omega) rfl (by first | exact .own _ _ _ rfl rfl _ (by first | rfl | simp) | exact .emp | exact .nil | exact .sl _ (by first | simp; done | intro e he; simp at he; obtain ⟨_, _, rfl⟩ := he; rfl)) (by first | omega | (simp; omega) | (unfold maxLen; simp; omega)) (by first | omega | (simp; omega) | (unfold maxLen; simp; omega))) (fun _ h => zcp h) ?_
     refine ex_s rfl (ex_s rfl (ex_f zdi rfl (zbt rfl rfl (zaa rfl) (zbn rfl ta22 rfl rfl rfl rfl rfl) (ex_s rfl (ex_s rfl (zaz rfl rfl (zaa rfl) (fun _ => (zav rfl rfl rfl (IntWalk.i64_in _ (by omega)))) (ex_s rfl (zaz rfl rfl (zaa rfl) (fun _ => (zav rfl rfl rfl (IntWalk.i64_in _ (by omega)))) (zaz rfl rfl (zaa rfl) (fun _ => (lit1_sF rfl ts22 ti3 rfl rfl rfl rfl)) ?_)))))))))
     refine zdh rfl rfl (zaa rfl) (zbm rfl ts22 ti3 rfl (by decide) rfl rfl (by simp [hbl]; omega) rfl (by first | exact .own _ _ _ rfl rfl _ (by first | rfl | simp) | exact .emp | exact .nil | exact .sl _ (by first | simp; done | intro e he; simp at he; obtain ⟨_, _, rfl⟩ := he; rfl)) (by first | omega | (simp; omega) | (unfold maxLen; simp; omega)) (by first | omega | (simp; omega) | (unfold maxLen; simp; omega))) (fun _ h => zcp h) ?_
     refine ex_s rfl (ex_f zc4 rfl ?_)
     refine zci rfl (zaa rfl) (zaj rfl ti45 rfl rfl rfl rfl rfl rfl (by decide) (by decide)) (fun _ h => zbr h) ?_
     refine ex_s rfl (ex_f zdi rfl ?_)
     refine zci rfl (zaa rfl) (zaj rfl ti22 rfl rfl rfl rfl rfl rfl (by decide) (by decide)) (fun _ h => zbr h) ?_
     refine zcc (by kernel_rfl) ?_
     refine zbu (zai (kw_region (kops_op rfl rfl (zaa rfl) (zav rfl rfl rfl (IntWalk.i64_in _ (by omega))) (kops_s rfl (kops_nil (zai ?_))))))
     exact ⟨i + 1, by omega, by omega, kwk_st [0, 1, 6, 7, 4] rfl (by decide) ⟨⟨_, rfl, .rowE z.lo rfl⟩, ⟨_, rfl, zc2 (.cons (.own _ _ _ _ _ rfl (by simp [hrl]; omega)) (.cons (.lo _ (.s _)) (.cons (.own _ _ _ _ _ rfl (by simp [hbl]; omega)) (.cons (.lo _ (.s _)) (.cons (.lo _ (.s _)) .nil)))))⟩, ⟨_, rfl, .rowE (zcq _) (by rw [zcw (by omega), rows_get hlt, List.map_append]; try rfl)⟩, ⟨_, rfl, .rowE (zc9 _) (by rw [zcw (by omega), basB_get hlt, List.map_append]; simp [eI]; try rfl)⟩, ⟨_, rfl, .rowE (zar fun b c hc => by simp [eB, AV.cells] at hc; subst hc; exact .s _) rfl⟩, trivial⟩ ⟨.lo _ (.ref _ (lo_P p).cells), .lo _ (.s _), .lo _ (.s _), .ptr 1 1 5 0 0 rfl, .own 4 4 1 _ _ rfl rfl, .lo _ (lo_FF _), .lo _ (.s _), .lo _ (.s _), trivial⟩⟩
 ·
  have ei : i = p.a.length := by omega
  subst ei
  (refine kw_exit ?_; repeat (first | refine zc3 ?_ | refine zb2 ?_ | refine zbq rfl ?_ | refine zbu ?_ | refine zai ?_ | refine kw_seq ?_ | refine kw_skip ?_ | refine kw_block ?_))
  refine kw_region (kops_s rfl (kops_s rfl (kops_s rfl (kops_s rfl (kops_nil (zai ?_))))))
  (refine kw_ret ?_; repeat (first | refine zbg ?_ | refine zbh ?_))
  have hrl := rows_len p
  have hbl := basB_len p
  refine ⟨.inr rfl, ?_, _, .cons _ _ _ _ (.tmp 2 _ rfl) (.cons _ _ _ _ (.tmp 3 _ rfl) .nil), rfl⟩
  simp only [stB, tnL, hrl, hbl, Nat.sub_self, List.replicate_zero, List.append_nil, List.cons_append, List.nil_append]
  rw [List.take_of_length_le (by omega), List.take_of_length_le (by omega), List.take_of_length_le (by rw [turnL_len]; omega)]
  rfl
end K1
end Go.Proofs.Ytllkbjcemecmjaa.Aw
end
