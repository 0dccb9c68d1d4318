import Derived.Test.YtjhdcgaiccnmeaaGreatDoorJG33
import Derived.Test.YtjhdcgaiccnmeaaGreatDoorJG34
set_option linter.unusedSimpArgs false
set_option linter.unusedVariables false
set_option linter.unusedSectionVars false
section
namespace Go.Proofs.YtjhdcgaiccnmeaaGreatDoor.Aw
open Go Go.RowKit Go.Proofs Go.Maps Go.WideMaps Dl
variable {P : Program} [IsP P]
def stP (P : Program) (g : Gr) : List Ob := [.row 3 [zPA], .row 1 (g.st.map (eL eI)), .mp (atX P g.st), .row 3 (g.ed.map eEd)]
set_option maxHeartbeats 4000000 in
theorem prove_pf (n : Net) (w : List ByteArray) (c : Cst) (most : Int) : Pure P 19 [eN n, eL eS w, eC c, eI most] (eKP (proveE n w c most)) := by
 have HI : proveE n w c most = if (zb7 n w).2 ≠ 0 ∨ vcB c = false then (0, zPf, 1) else if most < 1 ∨ 2000 < most then (0, zPf, 2) else match bfsD (nxD n w c) most (most.toNat + 1) 0 ⟨[(zb7 n w).1], []⟩ with
  | none => (0, zPf, 13)
  | some g => finD n w g := rfl
 generalize proveE n w c most = R at HI ⊢
 have hS0 := start_pf (P := P) n w
 have hV0 := validCosts_pf (P := P) c
 have hso := start_ok (n := n) (w := w)
 generalize hs0 : zb7 n w = s0 at hS0 HI hso
 generalize hvc : vcB c = vb at hV0 HI
 have hln : Lo 0 (.ref (eN n).cells) := .ref _ (lo_N n).cells
 have hlc : Lo 0 (.ref (eC c).cells) := .ref _ (lo_C c).cells
 refine aw_fnM (by rw [IsP.eq (P := P)]; exact Tryz.func19) rfl rfl rfl rfl rfl (zah (lo_N n) (zah (lo_W w) (zah (lo_C c) (zah (.s _) zap)))) (.tup _ (zah (.s _) (zah (lo_Pf _) (zah (.s _) zap)))) (by simp only [argF]; rfl) ?_
 refine zby (zci ?_)
 intro mkI
 refine zae (zab rfl rfl (zaa rfl) (zb1 rfl rfl rfl rfl) ?_)
 refine za5 (zbv (id := 0) rfl) (za5 (zcf (d := 4) rfl rfl rfl) ?_)
 refine zab rfl rfl (zaa rfl) (zb1 rfl rfl rfl rfl) ?_
 refine za5 (zbv (id := 1) rfl) (za5 (zcf (d := 6) rfl rfl rfl) ?_)
 refine zbe rfl (zab rfl rfl (zaa rfl) (zbi rfl ti32 rfl rfl) (zbe rfl (zaj (zby ?_))))
 clear mkI
 refine zci ?_
 intro mkI
 refine zae (zb2 ta24 ti24 rfl (zbe rfl (zab rfl rfl (zaa rfl) (zav rfl rfl (hS0) (zar rfl (zar rfl za0))) (zbe rfl (zbe rfl (zbe rfl (zbe rfl (zbe rfl (zaj (zby (zby ?_)))))))))))
 clear mkI
 refine zci ?_
 intro mkI
 refine zae (zbe rfl ?_)
 refine zbw rfl rfl (zaa rfl) (zb0 rfl rfl rfl) (fun h45 => ?_) (fun h45 => ?_)
 all_goals refine zbe rfl ?_
 all_goals (first | refine zb2 ta27 ti27 rfl ?_ | refine zbf rfl ?_)
 all_goals (first | refine ops_opB rfl rfl (zau rfl rfl rfl) (zav rfl rfl (hV0) (zar rfl za0)) (fun h48 => ?_) (fun h48 => ?_) | refine zbf rfl ?_)
 all_goals (first | refine zab rfl rfl (zau rfl rfl rfl) (zbh rfl rfl) ?_ | refine zbf rfl ?_)
 all_goals refine zbe rfl (zaj (zak ?_))
 all_goals (first | refine mw_true rfl ?_ | refine mw_false rfl ?_)
 all_goals (repeat (first | refine zby ?_ | refine mw_skip ?_))
 all_goals clear mkI
 all_goals first
  |
   refine zci ?_
   intro mkI
   refine zae (zab rfl rfl (zaa rfl) (zbp rfl ti32 tp32 rfl rfl) (zbe rfl (zbx rfl (zaa rfl) (za7 rfl ti32 rfl rfl rfl rfl rfl rfl (by decide) (by decide)) (zbe rfl (zaj (zak ?_))))))
   all_goals clear mkI
   (refine mw_ret ?_; repeat (first | refine zbn ?_ | refine zbo ?_))
   refine post_zp3 (.inr rfl) rfl ta32 ti32 rfl rfl rfl rfl rfl rfl (HI.trans (if_pos ?_))
   first | (left; assumption) | (right; assumption)
  | skip
 rw [if_neg (by rintro (h | h); exact h45 h; rw [h48] at h; cases h)] at HI
 refine zci ?_
 intro mkI
 refine zae (zbe rfl ?_)
 refine zbw rfl rfl (zaa rfl) (zb3 rfl rfl rfl) (fun h53 => ?_) (fun h53 => ?_)
 all_goals refine zbe rfl ?_
 all_goals (first | refine zbe rfl ?_ | refine zbf rfl ?_)
 all_goals (first | refine zbw rfl rfl (zau rfl rfl rfl) (zb6 rfl rfl rfl) (fun h56 => ?_) (fun h56 => ?_) | refine zbf rfl ?_)
 all_goals refine zbe rfl (zaj (zak ?_))
 all_goals (first | refine mw_true rfl ?_ | refine mw_false rfl ?_)
 all_goals (repeat (first | refine zby ?_ | refine mw_skip ?_))
 all_goals clear mkI
 all_goals first
  |
   refine zci ?_
   intro mkI
   refine zae (zab rfl rfl (zaa rfl) (zbp rfl ti32 tp32 rfl rfl) (zbe rfl (zbx rfl (zaa rfl) (za7 rfl ti32 rfl rfl rfl rfl rfl rfl (by decide) (by decide)) (zbe rfl (zaj (zak ?_))))))
   all_goals clear mkI
   (refine mw_ret ?_; repeat (first | refine zbn ?_ | refine zbo ?_))
   exact post_zp3 (.inr rfl) rfl ta32 ti32 rfl rfl rfl rfl rfl rfl (HI.trans (if_pos (by omega)))
  | skip
 rw [if_neg (by omega)] at HI
 have hs2 : s0.2 = 0 := Classical.byContradiction h45
 obtain ⟨hvn, hww, hse, hee, hsk, hek⟩ := hso hs2
 subst h48
 have hk := dKey_ok (P := P) hsk
 have hks := keyZ_ok hsk
 have hN := nxD_ok (n := n) (w := w) hvc
 obtain ⟨R0, hR0⟩ : ∃ R0, bfsD (nxD n w c) most (most.toNat + 1) 0 ⟨[s0.1], []⟩ = R0 := ⟨_, rfl⟩
 rw [hR0] at HI
 refine zci ?_
 intro mkI
 refine zae (zbe rfl (zaj (zby ?_)))
 clear mkI
 refine zci ?_
 intro mkI
 refine zae (zbe rfl (zab rfl rfl (zaa rfl) (lit1_sl rfl ts28 ti29 rfl rfl rfl rfl) (zbe rfl (zaj (zby ?_)))))
 clear mkI
 refine zci ?_
 intro mkI
 refine zae (zab rfl rfl (zaa rfl) (does_mkmap rfl tm113) (zbe rfl (zab rfl rfl (zaa rfl) (zav rfl rfl (hk) (zar rfl za0)) ?_)))
 refine zbx rfl (zaa rfl) (does_mapput (.inr rfl) tm113 tK9 rfl rfl ⟨rfl, rfl, rfl⟩ (by (try dsimp only); unfold maxLen; omega) rfl rfl (keyOf_string_mk tn9 (by first | assumption | (unfold maxLen; omega))) (plainElem_int tn3 (by first | rfl | assumption))) ?_
 refine zbe rfl (zbe rfl (zaj (zby (zby ?_))))
 clear mkI
 refine zci ?_
 intro mkI
 refine zae (zbe rfl (zaj (zak (zc4 ?_))))
 clear mkI
 refine mw_weak (fun [_] => wk_own (d := 13) (x := .s (.slice none 0 0)) 3 rfl (.inr rfl)) ?_
 have hI0 : BI (nxD n w c) s0.1 most (okS n w) ⟨[s0.1], []⟩ := .init hsk (by omega)
 refine mw_loops (S := Nat × Gr) (fun p => [(1, eL eS w), (3, eI most), (4, .ref (eN n).cells), (6, .ref (eC c).cells), (9, .ptr 0 3 0 0), (13, .own 3 3 p.2.ed.length), (14, .own 1 1 p.2.st.length), (15, .mp 2), (16, eI p.1)]) (fun p => stP P p.2) (fun p => BI (nxD n w c) s0.1 most (okS n w) p.2 ∧ p.1 ≤ p.2.st.length ∧ (∀ i', i' < p.1 → Dl.Clo (nxD n w c) p.2 i' (nxD n w c (gti p.2.st i')).length) ∧ p.2.ed.length ≤ 4000 * p.1 ∧ bfsD (nxD n w c) most (most.toNat + 1 - p.1) p.1 p.2 = R0) (fun p => most.toNat + 1 - p.1) (0, ⟨[s0.1], []⟩)
  (fun [_] => zc9 [2, 3, 4, 5] (by decide) ⟨⟨_, rfl, .rowE zPA_lo rfl⟩, ⟨_, rfl, .rowE (rows_lo _) rfl⟩, ⟨_, rfl, ob_mp rfl⟩, ⟨_, rfl, .rowE (by simp) rfl⟩, trivial⟩ ⟨.lo _ (lo_W w), .lo _ (.s _), .lo _ hln, .lo _ hlc, .ptr 2 0 3 0 0 rfl, .own 5 3 3 _ _ rfl rfl, .own 3 1 1 _ _ rfl rfl, .mp 4 2 rfl, .lo _ (.s _), trivial⟩) ⟨hI0, by simp, fun i' h => by omega, by simp, hR0⟩ (fun p hp => ?_)
 obtain ⟨i, g⟩ := p
 obtain ⟨hB, hi, hC, hEl, hE⟩ := hp
 replace hi : i ≤ g.st.length := hi
 replace hE : bfsD (nxD n w c) most (most.toNat + 1 - i) i g = R0 := hE
 replace hB : BI (nxD n w c) s0.1 most (okS n w) g := hB
 replace hEl : g.ed.length ≤ 4000 * i := hEl
 have hle : (g.st.length : Int) ≤ most := hB.le
 refine zby (zby (zci ?_))
 intro mkI
 refine zae (zbe rfl (zbe rfl (zab rfl rfl (zaa rfl) (does_len_own rfl ts28 rfl) ?_)))
 refine zbw rfl rfl (zaa rfl) (zb3 rfl rfl rfl) (fun h68 => ?_) (fun h68 => ?_)
 all_goals refine zaj (zak ?_)
 all_goals (first | refine mw_true rfl ?_ | refine mw_false rfl ?_)
 all_goals (repeat (first | refine zby ?_ | refine mw_skip ?_ | refine zc4 ?_))
 all_goals clear mkI
 all_goals dsimp only at h68
 rotate_left 1
 ·
  have e : i = g.st.length := by omega
  subst e
  have hf0 : most.toNat + 1 - g.st.length = most.toNat - g.st.length + 1 := by omega
  rw [hf0] at hE
  unfold bfsD at hE
  rw [if_neg (by omega)] at hE
  rw [← hE] at HI
  replace HI : R = finD n w g := HI
  have hen := end_pf (P := P) n w
  rw [finD] at HI
  have hee2 : (endE n w).2 = 0 := by rw [hee]
  generalize endE n w = e0 at hen hek HI hee2
  have hke := dKey_ok (P := P) hek
  have hkes := keyZ_ok hek
  have hsms : ∀ z ∈ g.st, Small z := fun z hz => (hB.ok z hz).small
  have hpos : 0 < g.st.length := by have := (List.getElem?_eq_some_iff.1 hB.h0).1; exact this
  (refine mw_exit ?_; repeat (first | refine ath_x ?_ | refine zco ?_ | refine zce rfl ?_ | refine zal ?_ | refine zak ?_ | refine zby ?_ | refine mw_skip ?_ | refine zc4 ?_))
  refine zci ?_
  intro mkI
  refine zae (zb2 ta24 ti24 rfl (zbe rfl (zab rfl rfl (zaa rfl) (zav rfl rfl (hen) (zar rfl (zar rfl za0))) (zbe rfl (zbe rfl (zbe rfl (zbe rfl (zbe rfl (zaj (zby ?_))))))))))
  clear mkI
  by_cases hf : zc2 g.st e0.1 < 0
  ·
   have hno := atD_no hek.small _ g.st rfl hsms (findI_neg.1 hf)
   rw [if_pos hf] at HI
   refine zci ?_
   intro mkI
   refine zae (zbe rfl (zbe rfl (zab rfl rfl (zaa rfl) (zav rfl rfl (hke) (zar rfl za0)) ?_)))
   refine zab rfl rfl (zaa rfl) (does_lookupC rfl tm113 tK9 rfl rfl ⟨rfl, rfl, rfl⟩ rfl (keyOf_string_mk tn9 hkes) ti3 (plainElem_int tn3 rfl) (by exact atKey_of_not_has hno _) hno) ?_
   refine zbe rfl (zbe rfl (zbe rfl (zbe rfl (zbe rfl (zaj (zby (zby ?_)))))))
   clear mkI
   refine zci ?_
   intro mkI
   refine zae (zbe rfl (zab rfl rfl (zaa rfl) (zbh rfl rfl) (zaj (zak (mw_true rfl (zby ?_))))))
   clear mkI
   refine zci ?_
   intro mkI
   refine zae (zab rfl rfl (zaa rfl) (zbp rfl ti32 tp32 rfl rfl) (zbe rfl (zbx rfl (zaa rfl) (za7 rfl ti32 rfl rfl rfl rfl rfl rfl (by decide) (by decide)) (zbe rfl (zaj (zak ?_))))))
   clear mkI
   (refine mw_ret ?_; repeat (first | refine zbn ?_ | refine zbo ?_))
   exact post_zp3 (.inr rfl) rfl ta32 ti32 rfl rfl rfl rfl rfl rfl HI
  rw [if_neg hf] at HI
  obtain ⟨p1, p2, p3⟩ := idx_old hf
  have hmem : e0.1 ∈ g.st := List.mem_of_getElem? p1
  obtain ⟨hyes, hat⟩ := atD_yes hek.small _ g.st rfl hsms hB.nd hmem
  have hat2 : ∀ z, (atD g.st).atKey (.string (keyD e0.1)) z = .lit (.int .i64 (idx g.st e0.1 : Nat)) := fun z => by rw [hat z, p3]
  generalize idx g.st e0.1 = last at HI p1 p2 p3 hat2
  have hrep := repI_po (P := P) (a := 1073741824) (n := g.st.length) ⟨by omega, by omega⟩
  have hEO : EOk g.st.length g.ed := fun e he => ⟨(hB.eok e he).1, (hB.eok e he).2.1, (hB.eok e he).2.2.1⟩
  have hce : ∀ e ∈ g.ed, e.c ≤ 1000 := fun e he => (hB.eok e he).2.2.2.1
  obtain ⟨RF, hRF⟩ : ∃ RF, farD g last = RF := ⟨_, rfl⟩
  have hFk0 : Dl.FOk g.st.length g.ed 1073741824 last (Dl.Way g.ed last) RF := hRF ▸ farD_len (n := 0) hEO p2
  rw [hRF] at HI
  unfold farD at hRF
  have hF0 : Dl.FOk g.st.length g.ed 1073741824 last (Dl.Way g.ed last) ((List.replicate g.st.length 1073741824).set last 0) := far0_ok (by omega) p2
  have hsl : (g.st.map (eL eI)).length = g.st.length := by simp
  have hml9 : g.ed.length ≤ 1000000000 := by omega
  refine zci ?_
  intro mkI
  refine zae (zbe rfl (zbe rfl (zab rfl rfl (zaa rfl) (zav rfl rfl (hke) (zar rfl za0)) ?_)))
  refine zab rfl rfl (zaa rfl) (does_lookupC rfl tm113 tK9 rfl rfl ⟨rfl, rfl, rfl⟩ rfl (keyOf_string_mk tn9 hkes) ti3 (plainElem_int tn3 rfl) (by exact hat2 _) hyes) ?_
  refine zbe rfl (zbe rfl (zbe rfl (zbe rfl (zbe rfl (zaj (zby (zby ?_)))))))
  clear mkI
  refine zci ?_
  intro mkI
  refine zae (zbe rfl (zab rfl rfl (zaa rfl) (zbh rfl rfl) (zaj (zak (mw_false rfl (mw_skip (zby ?_)))))))
  clear mkI
  refine mw_weak (fun [_] => zbv (id := 3) rfl) ?_
  refine mw_weak (fun [_] => wk_sl (d := 13) rfl rfl (by simp)) ?_
  refine zci ?_
  intro mkI
  refine zae (zab rfl rfl (zaa rfl) (lit1_sF rfl ts29 ti3 rfl rfl rfl rfl) (zbe rfl (zab rfl rfl (zaa rfl) (does_len_own rfl ts28 rfl) (zab rfl rfl (zaa rfl) (does_callO rfl rfl (hrep) (zar rfl (zar rfl za0))) (zab rfl rfl (zaa rfl) (zbi rfl ti29 rfl rfl) (zbx rfl (zaa rfl) (za7 rfl ti29 rfl rfl rfl rfl rfl rfl (by decide) (by decide)) (zaj (zby ?_))))))))
  clear mkI
  have hr0 : (List.replicate g.st.length (eI 1073741824))[last]? = some (eI 1073741824) := by rw [List.getElem?_replicate, if_pos p2]
  refine zci ?_
  intro mkI
  refine zae (zab rfl rfl (zaa rfl) (za3 rfl ta29 rfl rfl rfl rfl rfl) (zbe rfl ?_))
  refine zab rfl rfl (zaa rfl) (zca rfl ts29 ti3 rfl rfl rfl (by simpa using p2)) ?_
  refine zbx rfl (zaa rfl) (za7 rfl ti3 rfl rfl rfl hr0 rfl rfl (by decide) (by decide)) (zaj (zby (zby ?_)))
  clear mkI
  refine zci ?_
  intro mkI
  refine zae (zab rfl rfl (zaa rfl) (zbi rfl ti4 rfl rfl) (zbx rfl (zaa rfl) (za7 rfl ti4 rfl rfl rfl rfl rfl rfl (by decide) (by decide)) (zaj (zak (zc4 ?_)))))
  clear mkI
  have hset : (List.replicate g.st.length (eI 1073741824)).set last (eI 0) = ((List.replicate g.st.length 1073741824).set last 0).map eI := by rw [List.map_set, List.map_replicate]
  have hBX : ∀ far : List Int, Dl.FOk g.st.length g.ed 1073741824 last (Dl.Way g.ed last) far → ∀ k, k < g.st.length → (far.map eI)[k]? = some (eI (gti far k)) ∧ 0 ≤ gti far k ∧ gti far k ≤ 1073741824 := fun far h k hk => ⟨zcw (by rw [h.len]; exact hk), gnn h.nn k, h.le k hk⟩
  refine mw_loops (S := List Int × Bool) (fun p => [(1, eL eS w), (4, .ref (eN n).cells), (9, .ptr 0 3 0 0), (13, eL eEd g.ed), (14, .own 1 1 g.st.length), (31, .ptr 3 1 0 0), (32, .ptr 4 1 0 0)]) (fun p => stF g p.1 p.2) (fun p => Dl.FOk g.st.length g.ed 1073741824 last (Dl.Way g.ed last) p.1 ∧ (if p.2 = true then relW g.ed p.1 = RF else p.1 = RF)) (fun p => p.1.sum.toNat * 2 + (if p.2 = true then 1 else 0)) ((List.replicate g.st.length 1073741824).set last 0, true)
   (fun [_] => zc9 [0, 1, 4, 5, 6] (by decide) ⟨⟨_, rfl, .rowE zPA_lo rfl⟩, ⟨_, rfl, .rowE (rows_lo _) rfl⟩, ⟨_, rfl, .rowE (ints_lo _) hset⟩, ⟨_, rfl, obRn_own (.own _ _ _ _ _ rfl (by simp))⟩, ⟨_, rfl, .rowE (by intro e he c hc; simp at he; subst he; simp [eB, AV.cells] at hc; subst hc; exact .s _) rfl⟩, trivial⟩ ⟨.lo _ (lo_W w), .lo _ hln, .ptr 0 0 3 0 0 rfl, .lo _ (zaq fun e => lo_Ed e), .own 1 1 1 _ _ rfl rfl, .ptr 5 3 1 0 0 rfl, .ptr 6 4 1 0 0 rfl, trivial⟩) ⟨hF0, by rw [if_pos rfl]; exact hRF⟩ (fun p hp => ?_)
  obtain ⟨far, ch⟩ := p
  obtain ⟨hfar, hrl⟩ := hp
  replace hfar : Dl.FOk g.st.length g.ed 1073741824 last (Dl.Way g.ed last) far := hfar
  replace hrl : if ch = true then relW g.ed far = RF else far = RF := hrl
  refine zby (zby (zci ?_))
  intro mkI
  refine zae (zab rfl rfl (zaa rfl) (za3 rfl ta4 rfl rfl rfl rfl rfl) (zaj (zak ?_)))
  clear mkI
  cases ch with
  | true =>
   rw [if_pos rfl] at hrl
   refine mw_true rfl (mw_skip (zby (zc4 (zby ?_))))
   have hbp := back_pf (P := P) g.ed
   refine zci ?_
   intro mkI
   refine zae (zbx rfl (zaa rfl) (za7 rfl ti4 rfl rfl rfl rfl rfl rfl (by decide) (by decide)) (zaj (zby ?_)))
   clear mkI
   refine zci ?_
   intro mkI
   refine zae (zbe rfl (zab rfl rfl (zaa rfl) (zav rfl rfl (hbp) (zar rfl za0)) (zaj (zak (zc4 ?_)))))
   clear mkI
   refine mw_weak (fun [_] => zdk [(1, eL eS w), (4, .ref (eN n).cells), (9, .ptr 0 3 0 0), (13, eL eEd g.ed), (14, .own 1 1 g.st.length), (31, .ptr 3 1 0 0), (32, .ptr 4 1 0 0), (161, .fn 120 [.ref [eL eEd g.ed]])] ⟨rfl, rfl, rfl, rfl, rfl, rfl, rfl, rfl, trivial⟩) ?_
   refine mw_range (fun k => [(163, eEd (gti g.ed (g.ed.length - 1 - k))), (162, eI ((g.ed.length : Int) - 1 - k)), (1, eL eS w), (4, .ref (eN n).cells), (9, .ptr 0 3 0 0), (13, eL eEd g.ed), (14, .own 1 1 g.st.length), (31, .ptr 3 1 0 0), (32, .ptr 4 1 0 0), (161, .fn 120 [.ref [eL eEd g.ed]])])
    (fun k σ' => σ' = stF g (bkK g.ed k far).1 (bkK g.ed k far).2) (encs := encB g.ed) (len := g.ed.length) rfl
    (enters_of (by rw [IsP.eq (P := P)]; exact Tryz.func120) rfl rfl)
    (fun G lb _ hsz hrp => back_turns g.ed hml9 G lb hsz hrp) (fun k => rfl)
    (frLo_get (frLo_cons (lo_W w) (frLo_cons (.ref _ (lo_N n).cells) (frLo_cons (.ptr _ _ _ _ (by show _ < 5; decide)) (frLo_cons (zaq fun e => lo_Ed e) (frLo_cons (.own _ _ _ (by show _ < 5; decide)) (frLo_cons (.ptr _ _ _ _ (by show _ < 5; decide)) (frLo_cons (.ptr _ _ _ _ (by show _ < 5; decide)) (frLo_cons (.fn _ _ (zah (.ref _ (zah (zaq fun e => lo_Ed e) zap)) zap)) frLo_nil)))))))))
    (fun k G a hk hf hn => ps2_ok hf hn (by decide) (by decide) (.s _) (rep_3i _ _ _)) (by rw [bkK_zero]; rfl) (fun k σ' hk hl hI r m => ?_) (fun σ' hl hI => ?_)
   ·
    subst hI
    have hEm := gti_mem (l := g.ed) (k := g.ed.length - 1 - k) (by omega)
    have hfk := bkK_ok hEO hfar k
    have hsu := bkK_succ hk far
    obtain ⟨ha, hb, hc0⟩ := hEO _ hEm
    have hc1 := hce _ hEm
    generalize gti g.ed (g.ed.length - 1 - k) = ed at hEm ha hb hc0 hc1 hsu
    generalize bkK g.ed k far = s at hfk hsu
    obtain ⟨fk, ck⟩ := s
    replace hfk : Dl.FOk g.st.length g.ed 1073741824 last (Dl.Way g.ed last) fk := hfk
    obtain ⟨ra, ra0, ra1⟩ := hBX fk hfk ed.a ha
    obtain ⟨rb, rb0, rb1⟩ := hBX fk hfk ed.b hb
    have hsu2 : bkK g.ed (k + 1) far = if gti fk ed.b + ed.c < gti fk ed.a then (fk.set ed.a (gti fk ed.b + ed.c), true) else (fk, ck) := hsu
    rw [hsu2]
    refine rw_region rfl (fun _ _ h => h) ?_
    refine eops_op rfl rfl (zaa rfl) (zbi rfl ti119 rfl rfl) (eops_eff rfl (zaa rfl) (za7 rfl ti119 rfl rfl rfl rfl rfl rfl (by decide) (by decide)) (eops_nil (zak (rw_block (rw_seq ?_)))))
    refine rw_draw hmix rfl (fun _ _ h => h) ?_
    refine edraw_ex ?_
    refine zcj rfl rfl (zaa rfl) (zcg rfl ta29 rfl rfl rfl rfl rfl) (ex_f tf119_1 rfl (zcj rfl rfl (zaa rfl) (zcg rfl ta3 rfl rfl rfl rfl rfl) (zaz rfl rfl (zaa rfl) (fun _ => (zca rfl ts29 ti3 rfl rfl rfl hb)) (zcj rfl rfl (zaa rfl) (zcg rfl ta3 rfl rfl rfl rb rfl) (ex_f tf119_2 rfl (zcj rfl rfl (zaa rfl) (zcg rfl ta3 rfl rfl rfl rfl rfl) (zaz rfl rfl (zaa rfl) (fun _ => (zbj rfl rfl rfl (IntWalk.i64_in _ (by omega)))) (zcj rfl rfl (zaa rfl) (zcg rfl ta29 rfl rfl rfl rfl rfl) (ex_f tf119_0 rfl ?_)))))))))
    refine zcj rfl rfl (zaa rfl) (zcg rfl ta3 rfl rfl rfl rfl rfl) (zaz rfl rfl (zaa rfl) (fun _ => (zca rfl ts29 ti3 rfl rfl rfl ha)) (zcj rfl rfl (zaa rfl) (zcg rfl ta3 rfl rfl rfl ra rfl) (zaz rfl rfl (zaa rfl) (fun _ => (zb3 rfl rfl rfl)) ?_)))
    refine ex_nil (by kernel_rfl) ?_
    refine zak ?_
    refine rw_if rfl (fun hlt => ?_) (fun hlt => ?_)
    ·
     replace hlt : gti fk ed.b + ed.c < gti fk ed.a := hlt
     refine rw_seq ?_
     refine rw_draw hmix rfl (fun _ _ h => h) ?_
     refine edraw_ex ?_
     refine zcj rfl rfl (zaa rfl) (zcg rfl ta29 rfl rfl rfl rfl rfl) (ex_f tf119_0 rfl (zcj rfl rfl (zaa rfl) (zcg rfl ta3 rfl rfl rfl rfl rfl) (zcj rfl rfl (zaa rfl) (zcg rfl ta29 rfl rfl rfl rfl rfl) (ex_f tf119_1 rfl (zcj rfl rfl (zaa rfl) (zcg rfl ta3 rfl rfl rfl rfl rfl) (zaz rfl rfl (zaa rfl) (fun _ => (zca rfl ts29 ti3 rfl rfl rfl hb)) (zcj rfl rfl (zaa rfl) (zcg rfl ta3 rfl rfl rfl rb rfl) (ex_f tf119_2 rfl (zcj rfl rfl (zaa rfl) (zcg rfl ta3 rfl rfl rfl rfl rfl) (zaz rfl rfl (zaa rfl) (fun _ => (zbj rfl rfl rfl (IntWalk.i64_in _ (by omega)))) ?_))))))))))
     refine zaz rfl rfl (zaa rfl) (fun _ => (zca rfl ts29 ti3 rfl rfl rfl ha)) ?_
     refine ex_eff0 rfl (zaa rfl) (za7 rfl ti3 rfl rfl rfl ra rfl rfl (by decide) (by decide)) (fun _ h => zdn h) ?_
     refine ex_nil (by kernel_rfl) ?_
     refine zak ?_
     refine rw_region rfl (fun _ _ h => h) ?_
     refine eops_eff rfl (zaa rfl) (za7 rfl ti4 rfl rfl rfl rfl rfl rfl (by decide) (by decide)) (eops_nil (zal ?_))
     rw [if_pos hlt]
     have hm : (fk.map eI).set ed.a (eI (gti fk ed.b + ed.c)) = (fk.set ed.a (gti fk ed.b + ed.c)).map eI := by rw [List.map_set]
     refine ⟨stF g (fk.set ed.a (gti fk ed.b + ed.c)) true, [.row 3 [eEd ed]], ?_, rfl, stF_lo (by show _ < 5; decide), rfl⟩
     unfold stF
     rw [← hm]
     rfl
    ·
     replace hlt : ¬ gti fk ed.b + ed.c < gti fk ed.a := hlt
     refine rw_skip (zal ?_)
     rw [if_neg hlt]
     exact ⟨stF g fk ck, [.row 3 [eEd ed]], rfl, rfl, stF_lo (by show _ < 5; decide), rfl⟩
   ·
    subst hI
    rw [bkK_all]
    obtain ⟨b1, b2, b3, b4, b5⟩ := bkR_ok g.ed hEO (Dl.way_W) far hfar
    have hst2 := fun hc => relW_step hEO Dl.way_W hfar hc
    have hsp := fun hc => relW_stop (M := g.ed) (far := far) hc
    generalize bkR g.ed far = s at b1 b2 b3 b4 b5 hst2 hsp
    obtain ⟨f2, c2⟩ := s
    refine zby (zci ?_)
    intro mkI
    refine zae (zab rfl rfl (zaa rfl) (za3 rfl ta4 rfl rfl rfl rfl rfl) (zaj (zak ?_)))
    clear mkI
    refine zci ?_
    intro mkI
    refine zae (zab rfl rfl (zaa rfl) (zbi rfl ti4 rfl rfl) (zbx rfl (zaa rfl) (za7 rfl ti4 rfl rfl rfl rfl rfl rfl (by decide) (by decide)) (zaj (zak ?_))))
    clear mkI
    refine ⟨(f2, c2), ⟨b1, ?_⟩, ?_, fun [_] => zc9 [0, 1, 2, 3, 5] (by decide) ⟨⟨_, rfl, .rowE zPA_lo rfl⟩, ⟨_, rfl, .rowE (rows_lo _) rfl⟩, ⟨_, rfl, .rowE (ints_lo _) rfl⟩, ⟨_, rfl, obRn_own (.own _ _ _ _ _ rfl rfl)⟩, ⟨_, rfl, .rowE (by intro e he c hc; simp at he; subst he; simp [eB, AV.cells] at hc; subst hc; exact .s _) rfl⟩, trivial⟩ ⟨.lo _ (lo_W w), .lo _ hln, .ptr 0 0 3 0 0 rfl, .lo _ (zaq fun e => lo_Ed e), .own 1 1 1 _ _ rfl rfl, .ptr 3 3 1 0 0 rfl, .ptr 5 4 1 0 0 rfl, trivial⟩⟩
    ·
     show if c2 = true then relW g.ed f2 = RF else f2 = RF
     cases c2 with
     | true => rw [if_pos rfl, ← (hst2 rfl).1]; exact hrl
     | false => rw [if_neg (by decide)]; rw [hsp rfl] at hrl; exact (b5 rfl).1.trans hrl
    ·
     show f2.sum.toNat * 2 + (if c2 = true then 1 else 0) < far.sum.toNat * 2 + 1
     cases c2 with
     | true => have := (hst2 rfl).2; simp at this ⊢; omega
     | false => have h1 : f2 = far := (b5 rfl).1; rw [h1]; simp
  | false =>
   rw [if_neg (by decide)] at hrl
   subst hrl
   refine mw_false rfl ?_
   have hpl := za8 hvn
   have hwl : w.length ≤ 200 := by unfold zdh at hww; simp only [Bool.and_eq_true, decide_eq_true_eq] at hww; exact hww.1
   (refine mw_exit ?_; repeat (first | refine ath_x ?_ | refine zco ?_ | refine zce rfl ?_ | refine zal ?_ | refine zak ?_ | refine zby ?_ | refine mw_skip ?_ | refine zc4 ?_))
   refine zci ?_
   intro mkI
   refine zae (zbe rfl (zab rfl rfl (zaa rfl) (za3 rfl ta29 rfl rfl rfl rfl rfl) (zab rfl rfl (zaa rfl) (zbp rfl ti32 tp32 rfl rfl) (zab rfl rfl (zaa rfl) (zbi rfl ti32 rfl rfl) (zbx rfl (zaa rfl) (za7 rfl ti32 rfl rfl rfl rfl rfl rfl (by decide) (by decide)) (zaj (zby (zby ?_))))))))
   clear mkI
   refine zci ?_
   intro mkI
   refine zae (zbq zdo rfl (zbk ta3 rfl (zbe rfl (zab rfl rfl (zaa rfl) (za2 rfl ts25 rfl) (zab rfl rfl (zaa rfl) (zbj rfl rfl rfl (IntWalk.i64_in _ (by omega))) (zbe rfl (zaj (zak (zc4 ?_)))))))))
   clear mkI
   refine mw_weak (fun [_] => wk_ownC (id := 5) (sz2 := 2) (e' := .agg [.own 1 1 g.st.length, .own 2 1 g.st.length, .own 6 2 0]) (pre := [.own 1 1 g.st.length, .own 2 1 g.st.length]) (post := []) rfl rfl rfl) ?_
   refine mw_loops (S := Nat) (fun k => [(9, .ptr 0 3 0 0), (31, .ptr 3 1 0 0), (35, .ptr 4 3 0 0), (198, eI (n.places + w.length)), (199, eI k)]) (fun k => stU g far k) (fun k => (k : Int) ≤ n.places + w.length) (fun k => n.places.toNat + w.length - k) 0
    (fun [_] => zc9 [0, 1, 2, 3, 5, 6] (by decide) ⟨⟨_, rfl, .rowE zPA_lo rfl⟩, ⟨_, rfl, .rowE (rows_lo _) rfl⟩, ⟨_, rfl, .rowE (ints_lo _) rfl⟩, ⟨_, rfl, obRn_own (.own _ _ _ _ _ rfl rfl)⟩, ⟨_, rfl, obRn_agg (.cons (.own _ _ _ _ _ rfl rfl) (.cons (.own _ _ _ _ _ rfl rfl) (.cons (.own _ _ _ _ _ rfl rfl) .nil)))⟩, ⟨_, rfl, .rowE (by simp) rfl⟩, trivial⟩ ⟨.ptr 0 0 3 0 0 rfl, .ptr 3 3 1 0 0 rfl, .ptr 5 4 3 0 0 rfl, .lo _ (.s _), .lo _ (.s _), trivial⟩) (by show ((0 : Nat) : Int) ≤ _; omega) (fun k hk => ?_)
   replace hk : (k : Int) ≤ n.places + w.length := hk
   refine zby (zci ?_)
   intro mkI
   refine zae ?_
   refine zbw rfl rfl (zaa rfl) (zb3 rfl rfl rfl) (fun h200 => ?_) (fun h200 => ?_)
   all_goals refine zaj (zby ?_)
   all_goals (first | refine mw_true rfl ?_ | refine mw_false rfl ?_)
   all_goals (repeat (first | refine zby ?_ | refine mw_skip ?_ | refine zc4 ?_))
   all_goals clear mkI
   ·
    have hwh := zc3 (P := P) 0
    have hrl : (List.replicate k (eF (Fr.of 0))).length = k := by simp
    refine zci ?_
    intro mkI
    refine zdj hmix ?_
    refine adraw_lastT rfl (by kernel_rfl) ?_
    refine adraw_gen ?_
    simp only [List.dropLast]
    refine gx_free rfl rfl (zaa rfl) (fun _ => (zat rfl tf32_2 (by decide) rfl)) ?_
    refine gx_look rfl rfl (zaa rfl) (za3 rfl ta30 rfl rfl rfl rfl rfl) ?_
    refine gx_free rfl rfl (zaa rfl) (fun _ => (zav rfl rfl (hwh) (zar rfl za0))) ?_
    refine gx_free rfl rfl (zaa rfl) (fun _ => (zcp rfl ts30 ti56 rfl rfl (by decide) (by decide) rfl rfl rfl (.agg _ (zah (.s _) (zah (.s _) zap))))) ?_
    refine gx_eff rfl rfl (zaa rfl) (zcr rfl ts30 ti56 rfl (by decide) rfl rfl (by first | rfl | (simp; done) | (simp; omega)) rfl (by first | exact .own _ _ _ rfl rfl _ (by first | rfl | simp) | exact .emp | exact .nil | exact .sl _ (by first | simp; done | intro e he; simp at he; obtain ⟨_, _, rfl⟩ := he; rfl)) (by first | omega | (simp; omega) | (unfold maxLen; simp; omega)) (by first | omega | (simp; omega) | (unfold maxLen; simp; omega))) ?_
    refine gx_free rfl rfl (zaa rfl) (fun _ => (zat rfl tf32_2 (by decide) rfl)) ?_
    refine gx_nil (by kernel_rfl) ?_
    refine zak (zbx rfl (zaa rfl) (za7 rfl ti30 rfl rfl rfl rfl rfl rfl (by decide) (by decide)) (zaj (zal (zak ?_))))
    clear mkI
    refine zci ?_
    intro mkI
    refine zae (zab rfl rfl (zaa rfl) (zbj rfl rfl rfl (IntWalk.i64_in _ (by omega))) (zbe rfl (zaj (zak ?_))))
    clear mkI
    have hrow : List.replicate (k + 1) (eF (Fr.of 0)) = List.replicate k (eF (Fr.of 0)) ++ [eF (Fr.of 0)] := by rw [List.replicate_succ']
    exact ⟨k + 1, by show ((k + 1 : Nat) : Int) ≤ _; omega, by show n.places.toNat + w.length - (k + 1) < n.places.toNat + w.length - k; omega, fun [_] => zc9 [0, 1, 2, 3, 4, 6] (by decide) ⟨⟨_, rfl, .rowE zPA_lo rfl⟩, ⟨_, rfl, .rowE (rows_lo _) rfl⟩, ⟨_, rfl, .rowE (ints_lo _) rfl⟩, ⟨_, rfl, obRn_own (.own _ _ _ _ _ rfl rfl)⟩, ⟨_, rfl, obRn_agg (.cons (.own _ _ _ _ _ rfl rfl) (.cons (.own _ _ _ _ _ rfl rfl) (.cons (.own _ _ _ _ _ rfl (by simp)) .nil)))⟩, ⟨_, rfl, .rowE (by intro e he c hc; rw [List.eq_of_mem_replicate he] at hc; exact (lo_Fr _).cells c hc) hrow.symm⟩, trivial⟩ ⟨.ptr 0 0 3 0 0 rfl, .ptr 3 3 1 0 0 rfl, .ptr 4 4 3 0 0 rfl, .lo _ (.s _), .lo _ (.s _), trivial⟩⟩
   ·
    have hke2 : k = n.places.toNat + w.length := by omega
    subst hke2
    (refine mw_exit ?_; repeat (first | refine ath_x ?_ | refine zco ?_ | refine zce rfl ?_ | refine zal ?_ | refine zak ?_ | refine zby ?_ | refine mw_skip ?_ | refine zc4 ?_))
    refine zci ?_
    intro mkI
    refine zae (zab rfl rfl (zaa rfl) (za3 rfl ta29 rfl rfl rfl rfl rfl) (zab rfl rfl (zaa rfl) (does_len_own rfl ts29 rfl) (zbe rfl (zaj (zak (zc4 ?_))))))
    clear mkI
    have hfl := hfar.len
    have h0g : 0 < far.length := by omega
    refine mw_loops (S := Nat) (fun m => [(9, .ptr 0 3 0 0), (31, .ptr 3 1 0 0), (35, .ptr 4 3 0 0), (208, .own 2 1 g.st.length), (209, eI g.st.length), (210, eI m)]) (fun m => stU g (capM far m) (n.places.toNat + w.length)) (fun m => m ≤ g.st.length) (fun m => g.st.length - m) 0
     (fun [_] => by rw [capM_zero]; exact zdk _ ⟨rfl, rfl, rfl, rfl, rfl, rfl, trivial⟩) (Nat.zero_le _) (fun m hm => ?_)
    replace hm : m ≤ g.st.length := hm
    refine zby (zci ?_)
    intro mkI
    refine zae ?_
    refine zbw rfl rfl (zaa rfl) (zb3 rfl rfl rfl) (fun h211 => ?_) (fun h211 => ?_)
    all_goals refine zaj (zby ?_)
    all_goals (first | refine mw_true rfl ?_ | refine mw_false rfl ?_)
    all_goals (repeat (first | refine zby ?_ | refine mw_skip ?_ | refine zc4 ?_))
    all_goals clear mkI
    ·
     have hmt : m < g.st.length := by omega
     have hcl := capM_len far m
     have e1 : ((capM far m).map eI)[m]? = some (eI (gti far m)) := by rw [zcw (by omega), capM_at far (Nat.le_refl _)]
     have e2 : ((capM far m).map eI)[0]? = some (eI (gti far 0)) := by rw [zcw (by omega), capM_first far m h0g]
     have hsu := capM_succ (R := far) (m := m) (by omega)
     refine zci ?_
     intro mkI
     refine zae (zbe rfl (zab rfl rfl (zaa rfl) (zca rfl ts29 ti3 rfl rfl rfl hmt) (zab rfl rfl (zaa rfl) (za3 rfl ta3 rfl rfl rfl e1 rfl) (zbe rfl (zbe rfl (zaj (zby ?_)))))))
     clear mkI
     refine zci ?_
     intro mkI
     refine zae (zbe rfl (zab rfl rfl (zaa rfl) (za3 rfl ta29 rfl rfl rfl rfl rfl) (zab rfl rfl (zaa rfl) (zca rfl ts29 ti3 rfl rfl (k := 0) rfl hpos) (zab rfl rfl (zaa rfl) (za3 rfl ta3 rfl rfl rfl e2 rfl) ?_))))
     refine zbw rfl rfl (zaa rfl) (zb6 rfl rfl rfl) (fun h219 => ?_) (fun h219 => ?_)
     all_goals refine zaj (zak ?_)
     all_goals (first | refine mw_true rfl ?_ | refine mw_false rfl ?_)
     all_goals (repeat (first | refine zak ?_ | refine mw_skip ?_ | refine zal ?_))
     all_goals clear mkI
     ·
      replace h219 : gti far 0 < gti far m := h219
      rw [if_pos h219] at hsu
      have hsu2 : ((capM far m).map eI).set m (eI (gti far 0)) = (capM far (m + 1)).map eI := by rw [hsu, List.map_set]
      refine zci ?_
      intro mkI
      refine zdj hmix ?_
      refine adraw_ex ?_
      refine zcj rfl rfl (zaa rfl) (zcg rfl ta29 rfl rfl rfl rfl rfl) (ex_s rfl (zcj rfl rfl (zaa rfl) (zcg rfl ta29 rfl rfl rfl rfl rfl) (zaz rfl rfl (zaa rfl) (fun _ => (zca rfl ts29 ti3 rfl rfl (k := 0) rfl hpos)) (zcj rfl rfl (zaa rfl) (zcg rfl ta3 rfl rfl rfl e2 rfl) (zaz rfl rfl (zaa rfl) (fun _ => (zca rfl ts29 ti3 rfl rfl rfl hmt)) ?_)))))
      refine ex_eff0 rfl (zaa rfl) (za7 rfl ti3 rfl rfl rfl e1 rfl rfl (by decide) (by decide)) (fun _ h => zdn h) ?_
      refine ex_nil (by kernel_rfl) ?_
      refine zal (zak ?_)
      clear mkI
      refine zci ?_
      intro mkI
      refine zae (zab rfl rfl (zaa rfl) (zbj rfl rfl rfl (IntWalk.i64_in _ (by omega))) (zbe rfl (zaj (zak ?_))))
      clear mkI
      exact ⟨m + 1, by show m + 1 ≤ g.st.length; omega, by show g.st.length - (m + 1) < g.st.length - m; omega, fun [_] => zc9 [0, 1, 2, 3, 4, 5] (by decide) ⟨⟨_, rfl, .rowE zPA_lo rfl⟩, ⟨_, rfl, .rowE (rows_lo _) rfl⟩, ⟨_, rfl, .rowE (ints_lo _) hsu2⟩, ⟨_, rfl, obRn_own (.own _ _ _ _ _ rfl rfl)⟩, ⟨_, rfl, obRn_agg (.cons (.own _ _ _ _ _ rfl rfl) (.cons (.own _ _ _ _ _ rfl rfl) (.cons (.own _ _ _ _ _ rfl rfl) .nil)))⟩, ⟨_, rfl, .rowE (by intro e he c hc; rw [List.eq_of_mem_replicate he] at hc; exact (lo_Fr _).cells c hc) rfl⟩, trivial⟩ ⟨.ptr 0 0 3 0 0 rfl, .ptr 3 3 1 0 0 rfl, .ptr 4 4 3 0 0 rfl, .own 2 2 1 _ _ rfl rfl, .lo _ (.s _), .lo _ (.s _), trivial⟩⟩
     ·
      replace h219 : ¬ gti far 0 < gti far m := h219
      rw [if_neg h219] at hsu
      refine zci ?_
      intro mkI
      refine zae (zab rfl rfl (zaa rfl) (zbj rfl rfl rfl (IntWalk.i64_in _ (by omega))) (zbe rfl (zaj (zak ?_))))
      clear mkI
      exact ⟨m + 1, by show m + 1 ≤ g.st.length; omega, by show g.st.length - (m + 1) < g.st.length - m; omega, fun [_] => by rw [hsu]; exact zdk _ ⟨rfl, rfl, rfl, rfl, rfl, rfl, trivial⟩⟩
    ·
     have hme : m = far.length := by omega
     subst hme
     rw [capM_all]
     have e2 : ((capD far).map eI)[0]? = some (eI (gti far 0)) := by rw [← capM_all, zcw (by rw [capM_len]; omega), capM_first far _ h0g]
     (refine mw_exit ?_; repeat (first | refine ath_x ?_ | refine zco ?_ | refine zce rfl ?_ | refine zal ?_ | refine zak ?_ | refine zby ?_ | refine mw_skip ?_ | refine zc4 ?_))
     refine zci ?_
     intro mkI
     refine zdj hmix ?_
     refine adraw_ex ?_
     refine zcj rfl rfl (zaa rfl) (zcg rfl ta29 rfl rfl rfl rfl rfl) (zaz rfl rfl (zaa rfl) (fun _ => (zca rfl ts29 ti3 rfl rfl (k := 0) rfl hpos)) (zcj rfl rfl (zaa rfl) (zcg rfl ta3 rfl rfl rfl e2 rfl) (zcj rfl rfl (zaa rfl) (look_whole rfl ta32 ti32 rfl rfl rfl rfl rfl) (ex_s rfl ?_))))
     refine ex_eff0 rfl (zaa rfl) (za7 rfl ti32 rfl rfl rfl rfl rfl rfl (by decide) (by decide)) (fun _ h => zdn h) ?_
     refine ex_s rfl ?_
     refine ex_nil (by kernel_rfl) ?_
     refine zak ?_
     clear mkI
     (refine mw_ret ?_; repeat (first | refine zbn ?_ | refine zbo ?_))
     rw [HI]
     exact post_tct (.inr rfl) rfl ta32 ti32 rfl rfl rfl rfl rfl rfl (.refl _) (.agg _ _ rfl (zb9.cons (.own _ _ _ _ _ rfl rfl (by simp)) (zb9.cons (.own _ _ _ _ _ rfl rfl (by simp [capD]; omega)) (zb9.cons (by rw [show eL eF (List.replicate (n.places.toNat + w.length) (Fr.of 0)) = .sl (List.replicate (n.places.toNat + w.length) (eF (Fr.of 0))) from by unfold eL; rw [List.map_replicate]]; exact .own _ _ _ _ _ rfl rfl (by simp)) zb9.nil))).2) (.refl _)
 have hlt : i < g.st.length := by omega
 have hf : most.toNat + 1 - i = most.toNat - i + 1 := by omega
 rw [hf] at hE
 unfold bfsD at hE
 rw [if_pos hlt] at hE
 have hx0 := hB.ok _ (gti_mem hlt)
 have hxi : g.st[i]? = some (gti g.st i) := zbu hlt
 have hCi : Dl.Clo (nxD n w c) g i 0 := fun k r hk => by omega
 generalize gti g.st i = x at hE hx0 hxi
 have hix : (g.st.map (eL eI))[i]? = some (eL eI x) := by rw [List.getElem?_map, hxi]; rfl
 have hM := moves_pf (P := P) n w x
 have hMe : MovesE n w x = (movesL n w x, 0) := by unfold MovesE; rw [if_pos (show zct n w x = true from hx0)]
 have hml := fun m hm => moves_mem (m := m) hx0 hm
 have hmlen := moves_len hx0
 have hnx : nxD n w c x = (movesL n w x).map fun m => ((zb4 n w x m).1, zbm c m.kind) := rfl
 rw [hMe] at hM
 rw [hnx] at hE
 generalize movesL n w x = ml at hM hE hml hmlen hnx
 replace hM : Pure P 69 [eN n, eL eS w, eL eI x] (.tup [eL eSt ml, eI 0]) := hM
 generalize hK : bfsD (nxD n w c) most (most.toNat - i) (i + 1) = K at hE
 refine zci ?_
 intro mkI
 refine zdj hmix ?_
 refine zde (by kernel_rfl) ?_
 refine qx_w ta24 ti24 rfl (qx_s rfl (qx_s rfl (qx_s rfl (zba rfl rfl (zaa rfl) (zca rfl ts28 ti29 rfl rfl rfl hlt) (zba rfl rfl (zaa rfl) (za3 rfl ta29 rfl rfl rfl hix rfl) (zba rfl rfl (zaa rfl) (zav rfl rfl (hM) (zar rfl (zar rfl (zar rfl za0)))) (qx_s rfl (qx_s rfl (qx_s rfl (qx_s rfl (qx_s rfl ?_)))))))))))
 refine qx_nil ?_
 refine zby ?_
 clear mkI
 refine zci ?_
 intro mkI
 refine zae (zbe rfl (zab rfl rfl (zaa rfl) (za2 rfl ts68 rfl) (zbe rfl (zaj (zak (zc4 ?_))))))
 clear mkI
 refine mw_loops (S := Nat × Gr) (fun p => [(1, eL eS w), (3, eI most), (4, .ref (eN n).cells), (6, .ref (eC c).cells), (9, .ptr 0 3 0 0), (13, .own 3 3 p.2.ed.length), (14, .own 1 1 p.2.st.length), (15, .mp 2), (16, eI i), (81, eL eSt ml), (82, eI ml.length), (83, eI p.1)]) (fun p => stP P p.2)
  (fun p => p.1 ≤ ml.length ∧ BI (nxD n w c) s0.1 most (okS n w) p.2 ∧ p.2.st[i]? = some x ∧ (∀ i', i' < i → Dl.Clo (nxD n w c) p.2 i' (nxD n w c (gti p.2.st i')).length) ∧ Dl.Clo (nxD n w c) p.2 i p.1 ∧ p.2.ed.length ≤ 4000 * i + p.1 ∧ (rowD most i ((ml.map fun m => ((zb4 n w x m).1, zbm c m.kind)).drop p.1) p.2).bind K = R0) (fun p => ml.length - p.1) (0, g)
  (fun [_] => zdk _ ⟨rfl, rfl, rfl, rfl, rfl, rfl, rfl, rfl, rfl, rfl, rfl, rfl, trivial⟩) ⟨Nat.zero_le _, hB, hxi, hC, hCi, by simpa using hEl, hE⟩ (fun p hp => ?_)
 clear hE hB hle hxi hix hlt hi hf hC hCi hEl
 obtain ⟨q, g⟩ := p
 obtain ⟨hq, hB, hxi, hC, hCi, hEl, hE⟩ := hp
 replace hq : q ≤ ml.length := hq
 replace hB : BI (nxD n w c) s0.1 most (okS n w) g := hB
 replace hxi : g.st[i]? = some x := hxi
 replace hEl : g.ed.length ≤ 4000 * i + q := hEl
 replace hE : (rowD most i ((ml.map fun m => ((zb4 n w x m).1, zbm c m.kind)).drop q) g).bind K = R0 := hE
 have hlt : i < g.st.length := (List.getElem?_eq_some_iff.1 hxi).1
 have hle : (g.st.length : Int) ≤ most := hB.le
 have hix : (g.st.map (eL eI))[i]? = some (eL eI x) := by rw [List.getElem?_map, hxi]; rfl
 have hgx : gti g.st i = x := zdm hxi
 have hsl : (g.st.map (eL eI)).length = g.st.length := by simp
 have hsm : (g.ed.map eEd).length = g.ed.length := by simp
 refine zby (zci ?_)
 intro mkI
 refine zae ?_
 refine zbw rfl rfl (zaa rfl) (zb3 rfl rfl rfl) (fun h84 => ?_) (fun h84 => ?_)
 all_goals refine zaj (zby ?_)
 all_goals (first | refine mw_true rfl ?_ | refine mw_false rfl ?_)
 all_goals (repeat (first | refine zby ?_ | refine mw_skip ?_ | refine zc4 ?_))
 all_goals clear mkI
 all_goals dsimp only at h84
 rotate_left 1
 ·
  have e : q = ml.length := by omega
  subst e
  rw [List.drop_of_length_le (by simp)] at hE
  (refine mw_exit ?_; repeat (first | refine ath_x ?_ | refine zco ?_ | refine zce rfl ?_ | refine zal ?_ | refine zak ?_ | refine zby ?_ | refine mw_skip ?_ | refine zc4 ?_))
  refine zci ?_
  intro mkI
  refine zae (zbe rfl (zab rfl rfl (zaa rfl) (zbj rfl rfl rfl (IntWalk.i64_in _ (by omega))) (zbe rfl (zaj (zak ?_)))))
  clear mkI
  refine ⟨(i + 1, g), ⟨hB, by show i + 1 ≤ g.st.length; omega, fun i' hi' => ?_, by show g.ed.length ≤ 4000 * (i + 1); omega, ?_⟩, by show most.toNat + 1 - (i + 1) < most.toNat + 1 - i; omega, fun [_] => zdk _ ⟨rfl, rfl, rfl, rfl, rfl, rfl, rfl, rfl, rfl, trivial⟩⟩
  ·
   by_cases e : i' < i
   ·
    exact hC i' e
   ·
    have : i' = i := by omega
    subst this
    show Dl.Clo (nxD n w c) g i' (nxD n w c (gti g.st i')).length
    rw [hgx, hnx, List.length_map]; exact hCi
  ·
   show bfsD (nxD n w c) most (most.toNat + 1 - (i + 1)) (i + 1) g = R0
   rw [show most.toNat + 1 - (i + 1) = most.toNat - i by omega, hK]
   exact hE
 have hqt : q < ml.length := by omega
 have hdr : (ml.map fun m => ((zb4 n w x m).1, zbm c m.kind)).drop q = ((zb4 n w x (gti ml q)).1, zbm c (gti ml q).kind) :: (ml.map fun m => ((zb4 n w x m).1, zbm c m.kind)).drop (q + 1) := by
  rw [← List.map_drop, zda hqt, List.map_cons, List.map_drop]
 have hiq : (ml.map eSt)[q]? = some (eSt (gti ml q)) := zcw hqt
 obtain ⟨hap, hkd, hoy⟩ := hml _ (gti_mem hqt)
 have hrm : (nxD n w c (gti g.st i))[q]? = some ((zb4 n w x (gti ml q)).1, zbm c (gti ml q).kind) := by rw [hgx, hnx, List.getElem?_map, zbu hqt]; rfl
 rw [hdr] at hE
 have hA := apply_pf (P := P) n w x (gti ml q)
 have hco := cost_pf (P := P) c [gti ml q]
 rw [cost_one hvc hkd] at hco
 have hstep := fun g' h => hB.step hN hlt (List.mem_of_getElem? hrm) (g' := g') h
 have hAe : (zb4 n w x (gti ml q)).2 = 0 := hap
 generalize hm0 : gti ml q = m at hiq hA hco hstep hrm hE hoy hkd hap hAe
 generalize hy0 : zb4 n w x m = ya at hA hstep hrm hE hoy hAe
 obtain ⟨y, ye⟩ := ya
 replace hAe : ye = 0 := hAe
 subst hAe
 replace hoy : okS n w y := hoy
 have hrd : rowD most i ((y, zbm c m.kind) :: (ml.map fun m => ((zb4 n w x m).1, zbm c m.kind)).drop (q + 1)) g = (oneD most i (y, zbm c m.kind) g).bind (rowD most i ((ml.map fun m => ((zb4 n w x m).1, zbm c m.kind)).drop (q + 1))) := rfl
 replace hE : (rowD most i ((y, zbm c m.kind) :: (ml.map fun m => ((zb4 n w x m).1, zbm c m.kind)).drop (q + 1)) g).bind K = R0 := hE
 rw [hrd] at hE
 have hk2 := dKey_ok (P := P) hoy
 have hks2 := keyZ_ok hoy
 have hsms : ∀ z ∈ g.st, Small z := fun z hz => (hB.ok z hz).small
 have key : ∀ g', oneD most i (y, zbm c m.kind) g = some g' → BI (nxD n w c) s0.1 most (okS n w) g' ∧ g'.st[i]? = some x ∧ (∀ i', i' < i → Dl.Clo (nxD n w c) g' i' (nxD n w c (gti g'.st i')).length) ∧ Dl.Clo (nxD n w c) g' i (q + 1) ∧ g'.ed.length ≤ 4000 * i + (q + 1) ∧ (rowD most i ((ml.map fun m => ((zb4 n w x m).1, zbm c m.kind)).drop (q + 1)) g').bind K = R0 := fun g' h => by
  obtain ⟨b1, b2, b3, b4⟩ := hstep g' h
  have hst : gti g'.st i = gti g.st i := by obtain ⟨T, hT⟩ := b2; rw [hT, gti_app0 hlt]
  refine ⟨b1, ?_, fun i' hi' => ?_, fun k r hk hr => ?_, ?_, by rw [h] at hE; exact hE⟩
  ·
   obtain ⟨T, hT⟩ := b2; rw [hT, List.getElem?_append_left hlt]; exact hxi
  ·
   have := (hC i' hi').grow (by show i' < g.st.length; omega) b2 ⟨_, b3⟩
   have e : gti g'.st i' = gti g.st i' := by obtain ⟨T, hT⟩ := b2; rw [hT, gti_app0 (by omega)]
   rw [e]; exact this
  ·
   by_cases hkq : k < q
   ·
    exact (Dl.Clo.grow hlt (show Dl.Clo (nxD n w c) g i q from hCi) b2 ⟨_, b3⟩) k r hkq hr
   ·
    have : k = q := by omega
    subst this
    rw [hst, hrm] at hr
    cases hr
    exact ⟨_, b4, by rw [b3]; simp⟩
  ·
   rw [b3]; simp; omega
 refine zci ?_
 intro mkI
 refine zae (zab rfl rfl (zaa rfl) (za1 rfl ts68 ti37 rfl rfl rfl hiq rfl) (zb2 ta37 ti37 rfl (zab rfl rfl (zaa rfl) (zbi rfl ti37 rfl rfl) (zbx rfl (zaa rfl) (za7 rfl ti37 rfl rfl rfl rfl rfl rfl (by decide) (by decide)) (zaj (zby ?_))))))
 clear mkI
 refine mw_weak (fun [_] => zbv (id := 4) rfl) ?_
 refine mw_weak (fun [_] => zcf (d := 20) rfl rfl rfl) ?_
 refine zci ?_
 intro mkI
 refine zdj hmix ?_
 refine zde (by kernel_rfl) ?_
 refine qx_w ta24 ti24 rfl (qx_s rfl (qx_s rfl (qx_s rfl (zba rfl rfl (zaa rfl) (zca rfl ts28 ti29 rfl rfl rfl hlt) (zba rfl rfl (zaa rfl) (za3 rfl ta29 rfl rfl rfl hix rfl) (qx_w ta37 ti37 rfl (zba rfl rfl (zaa rfl) (zav rfl rfl (hA) (zar rfl (zar rfl (zar rfl (zar rfl za0))))) (qx_s rfl (qx_s rfl (qx_s rfl (qx_s rfl (qx_s rfl ?_))))))))))))
 refine qx_nil ?_
 refine zby ?_
 clear mkI
 by_cases hf : zc2 g.st y < 0
 ·
  have hno := atD_no hoy.small _ g.st rfl hsms (findI_neg.1 hf)
  refine zci ?_
  intro mkI
  refine zae (zbe rfl (zbe rfl (zab rfl rfl (zaa rfl) (zav rfl rfl (hk2) (zar rfl za0)) ?_)))
  refine zab rfl rfl (zaa rfl) (does_lookupC rfl tm113 tK9 rfl rfl ⟨rfl, rfl, rfl⟩ rfl (keyOf_string_mk tn9 hks2) ti3 (plainElem_int tn3 rfl) (by exact atKey_of_not_has hno _) hno) ?_
  refine zbe rfl (zbe rfl (zbe rfl (zbe rfl (zbe rfl (zaj (zby (zby ?_)))))))
  clear mkI
  refine zci ?_
  intro mkI
  refine zae (zbe rfl (zab rfl rfl (zaa rfl) (zbh rfl rfl) (zaj (zak (mw_true rfl (zby (zby ?_)))))))
  clear mkI
  refine zci ?_
  intro mkI
  refine zae (zbe rfl (zab rfl rfl (zaa rfl) (does_len_own rfl ts28 rfl) (zbe rfl (zaj (zby ?_)))))
  clear mkI
  refine zci ?_
  intro mkI
  refine zae (zbe rfl (zbe rfl ?_))
  refine zbw rfl rfl (zaa rfl) (does_eql rfl rfl rfl) (fun h111 => ?_) (fun h111 => ?_)
  all_goals refine zaj (zak ?_)
  all_goals (first | refine mw_true rfl ?_ | refine mw_false rfl ?_)
  all_goals (repeat (first | refine zby ?_ | refine mw_skip ?_))
  all_goals clear mkI
  all_goals dsimp only at h111
  ·
   have hstep2 : oneD most i (y, zbm c m.kind) g = none := by unfold oneD; rw [if_pos ⟨hf, by omega⟩]
   rw [hstep2] at hE
   replace hE : none = R0 := hE
   rw [← hE] at HI
   refine zci ?_
   intro mkI
   refine zae (zab rfl rfl (zaa rfl) (zbp rfl ti32 tp32 rfl rfl) (zbe rfl (zbx rfl (zaa rfl) (za7 rfl ti32 rfl rfl rfl rfl rfl rfl (by decide) (by decide)) (zbe rfl (zaj (zak ?_))))))
   clear mkI
   (refine mw_ret ?_; repeat (first | refine zbn ?_ | refine zbo ?_))
   exact post_zp3 (.inr rfl) rfl ta32 ti32 rfl rfl rfl rfl rfl rfl HI
  ·
   have hstep2 : oneD most i (y, zbm c m.kind) g = some ⟨g.st ++ [y], g.ed ++ [⟨i, g.st.length, zbm c m.kind⟩]⟩ := by unfold oneD; rw [if_neg (by rintro ⟨_, h⟩; omega), if_pos hf, idx_new hf]
   obtain ⟨g1, g2, g3, g4, g5, g6⟩ := key _ hstep2
   have hwf := wf_len (k := g.st.length) (by omega)
   refine zci ?_
   intro mkI
   refine zae (zbe rfl (zbe rfl (zab rfl rfl (zaa rfl) (zav rfl rfl (hk2) (zar rfl za0)) (zbe rfl ?_))))
   refine zbx rfl (zaa rfl) (does_mapput (.inl rfl) tm113 tK9 rfl rfl ⟨rfl, rfl, rfl⟩ (by show g.st.length < maxLen; unfold maxLen; omega) rfl rfl (keyOf_string_mk tn9 (by first | assumption | (unfold maxLen; omega))) (plainElem_int tn3 (by first | rfl | assumption))) ?_
   refine zaj (zak ?_)
   clear mkI
   refine zci ?_
   intro mkI
   refine zae (zbe rfl (zbe rfl ?_))
   refine zab rfl rfl (zaa rfl) (lit1_slF rfl ts28 ti29 rfl rfl rfl rfl (zaq fun _ => .s _)) ?_
   refine zab rfl rfl (zaa rfl) (zcr rfl ts28 ti29 rfl (by decide) rfl rfl (by first | rfl | (simp; done) | (simp; omega)) rfl (by first | exact .own _ _ _ rfl rfl _ (by first | rfl | simp) | exact .emp | exact .nil | exact .sl _ (by first | simp; done | intro e he; simp at he; obtain ⟨_, _, rfl⟩ := he; rfl)) (by first | omega | (simp; omega) | (unfold maxLen; simp; omega)) (by first | omega | (simp; omega) | (unfold maxLen; simp; omega))) ?_
   refine zbe rfl (zaj (zby ?_))
   clear mkI
   refine zci ?_
   intro mkI
   refine zae (zb2 ta27 ti27 rfl (zb2 ta37 ti37 rfl ?_))
   refine zab rfl rfl (zaa rfl) (zcp rfl ts68 ti37 rfl rfl (by decide) (by decide) rfl rfl rfl (by repeat' (first | exact Lo.s _ | exact zap | refine zah ?_ ?_ | refine zaq ?_ | refine Lo.agg _ ?_ | refine Lo.sl _ ?_ | intro _))) ?_
   refine zab rfl rfl (zaa rfl) (zav rfl rfl (hco) (zar rfl (zar rfl za0))) (zbe rfl (zbe rfl (zbe rfl (zbe rfl (zbe rfl (zaj (zak ?_)))))))
   clear mkI
   refine zci ?_
   intro mkI
   refine zae (zbe rfl (zbe rfl (zbe rfl (zbe rfl (zab rfl rfl (zaa rfl) (zbp rfl ti119 tp119 rfl rfl) ?_)))))
   refine zab rfl rfl (zaa rfl) (zcp rfl ts111 ti119 rfl rfl (by decide) (by decide) rfl rfl rfl (by repeat' (first | exact Lo.s _ | exact zap | refine zah ?_ ?_ | refine zaq ?_ | refine Lo.agg _ ?_ | refine Lo.sl _ ?_ | intro _))) ?_
   refine zab rfl rfl (zaa rfl) (zcr rfl ts111 ti119 rfl (by decide) rfl rfl (by first | rfl | (simp; done) | (simp; omega)) rfl (by first | exact .own _ _ _ rfl rfl _ (by first | rfl | simp) | exact .emp | exact .nil | exact .sl _ (by first | simp; done | intro e he; simp at he; obtain ⟨_, _, rfl⟩ := he; rfl)) (by first | omega | (simp; omega) | (unfold maxLen; simp; omega)) (by first | omega | (simp; omega) | (unfold maxLen; simp; omega))) ?_
   refine zbe rfl (zaj (zal (zak ?_)))
   clear mkI
   refine zci ?_
   intro mkI
   refine zae (zab rfl rfl (zaa rfl) (zbj rfl rfl rfl (IntWalk.i64_in _ (by omega))) (zbe rfl (zaj (zak ?_))))
   clear mkI
   have hrow : (g.st ++ [y]).map (eL eI) = g.st.map (eL eI) ++ [eL eI y] := by simp
   have hmrow : (g.ed ++ [(⟨i, g.st.length, zbm c m.kind⟩ : Edg)]).map eEd = g.ed.map eEd ++ [eEd ⟨i, g.st.length, zbm c m.kind⟩] := by simp
   exact ⟨(q + 1, ⟨g.st ++ [y], g.ed ++ [⟨i, g.st.length, zbm c m.kind⟩]⟩), ⟨by show q + 1 ≤ ml.length; omega, g1, g2, g3, g4, g5, g6⟩, by show ml.length - (q + 1) < ml.length - q; omega,
    fun [_] => zc9 [0, 5, 2, 6] (by decide) ⟨⟨_, rfl, .rowE zPA_lo rfl⟩, ⟨_, rfl, .rowE (rows_lo _) hrow.symm⟩, ⟨_, rfl, ob_mp (atX_snoc P g.st y).symm⟩, ⟨_, rfl, .rowE (eds_lo _) (by show _ = List.map eEd (_ ++ _); rw [List.map_append]; rfl)⟩, trivial⟩ ⟨.lo _ (lo_W w), .lo _ (by repeat' (first | exact Lo.s _ | exact zap | refine zah ?_ ?_ | refine zaq ?_ | refine Lo.cells ?_ | refine Lo.agg _ ?_ | refine Lo.ref _ ?_ | refine Lo.tup _ ?_ | refine Lo.fn _ _ ?_ | refine Lo.sl _ ?_ | intro _)), .lo _ hln, .lo _ hlc, .ptr 0 0 3 0 0 rfl, .own 6 3 3 _ _ rfl (by simp), .own 5 1 1 _ _ rfl (by simp), .mp 2 2 rfl, .lo _ (by repeat' (first | exact Lo.s _ | exact zap | refine zah ?_ ?_ | refine zaq ?_ | refine Lo.cells ?_ | refine Lo.agg _ ?_ | refine Lo.ref _ ?_ | refine Lo.tup _ ?_ | refine Lo.fn _ _ ?_ | refine Lo.sl _ ?_ | intro _)), .lo _ (lo_Sts _), .lo _ (by repeat' (first | exact Lo.s _ | exact zap | refine zah ?_ ?_ | refine zaq ?_ | refine Lo.cells ?_ | refine Lo.agg _ ?_ | refine Lo.ref _ ?_ | refine Lo.tup _ ?_ | refine Lo.fn _ _ ?_ | refine Lo.sl _ ?_ | intro _)), .lo _ (by repeat' (first | exact Lo.s _ | exact zap | refine zah ?_ ?_ | refine zaq ?_ | refine Lo.cells ?_ | refine Lo.agg _ ?_ | refine Lo.ref _ ?_ | refine Lo.tup _ ?_ | refine Lo.fn _ _ ?_ | refine Lo.sl _ ?_ | intro _)), trivial⟩⟩
 ·
  obtain ⟨p1, p2, p3⟩ := idx_old hf
  have hmem : y ∈ g.st := List.mem_of_getElem? p1
  obtain ⟨hyes, hat⟩ := atD_yes hoy.small _ g.st rfl hsms hB.nd hmem
  have hat2 : ∀ z, (atD g.st).atKey (.string (keyD y)) z = .lit (.int .i64 (idx g.st y : Nat)) := fun z => by rw [hat z, p3]
  have hstep2 : oneD most i (y, zbm c m.kind) g = some ⟨g.st, g.ed ++ [⟨i, idx g.st y, zbm c m.kind⟩]⟩ := by unfold oneD; rw [if_neg (by rintro ⟨h, _⟩; exact hf h), if_neg hf]
  obtain ⟨g1, g2, g3, g4, g5, g6⟩ := key _ hstep2
  refine zci ?_
  intro mkI
  refine zae (zbe rfl (zbe rfl (zab rfl rfl (zaa rfl) (zav rfl rfl (hk2) (zar rfl za0)) ?_)))
  refine zab rfl rfl (zaa rfl) (does_lookupC rfl tm113 tK9 rfl rfl ⟨rfl, rfl, rfl⟩ rfl (keyOf_string_mk tn9 hks2) ti3 (plainElem_int tn3 rfl) (by exact hat2 _) hyes) ?_
  refine zbe rfl (zbe rfl (zbe rfl (zbe rfl (zbe rfl (zaj (zby (zby ?_)))))))
  clear mkI
  refine zci ?_
  intro mkI
  refine zae (zbe rfl (zab rfl rfl (zaa rfl) (zbh rfl rfl) (zaj (zak (mw_false rfl (mw_skip (zby ?_)))))))
  clear mkI
  refine zci ?_
  intro mkI
  refine zae (zb2 ta27 ti27 rfl (zb2 ta37 ti37 rfl ?_))
  refine zab rfl rfl (zaa rfl) (zcp rfl ts68 ti37 rfl rfl (by decide) (by decide) rfl rfl rfl (by repeat' (first | exact Lo.s _ | exact zap | refine zah ?_ ?_ | refine zaq ?_ | refine Lo.agg _ ?_ | refine Lo.sl _ ?_ | intro _))) ?_
  refine zab rfl rfl (zaa rfl) (zav rfl rfl (hco) (zar rfl (zar rfl za0))) (zbe rfl (zbe rfl (zbe rfl (zbe rfl (zbe rfl (zaj (zak ?_)))))))
  clear mkI
  refine zci ?_
  intro mkI
  refine zae (zbe rfl (zbe rfl (zbe rfl (zbe rfl (zab rfl rfl (zaa rfl) (zbp rfl ti119 tp119 rfl rfl) ?_)))))
  refine zab rfl rfl (zaa rfl) (zcp rfl ts111 ti119 rfl rfl (by decide) (by decide) rfl rfl rfl (by repeat' (first | exact Lo.s _ | exact zap | refine zah ?_ ?_ | refine zaq ?_ | refine Lo.agg _ ?_ | refine Lo.sl _ ?_ | intro _))) ?_
  refine zab rfl rfl (zaa rfl) (zcr rfl ts111 ti119 rfl (by decide) rfl rfl (by first | rfl | (simp; done) | (simp; omega)) rfl (by first | exact .own _ _ _ rfl rfl _ (by first | rfl | simp) | exact .emp | exact .nil | exact .sl _ (by first | simp; done | intro e he; simp at he; obtain ⟨_, _, rfl⟩ := he; rfl)) (by first | omega | (simp; omega) | (unfold maxLen; simp; omega)) (by first | omega | (simp; omega) | (unfold maxLen; simp; omega))) ?_
  refine zbe rfl (zaj (zal (zak ?_)))
  clear mkI
  refine zci ?_
  intro mkI
  refine zae (zab rfl rfl (zaa rfl) (zbj rfl rfl rfl (IntWalk.i64_in _ (by omega))) (zbe rfl (zaj (zak ?_))))
  clear mkI
  have hmrow : (g.ed ++ [(⟨i, idx g.st y, zbm c m.kind⟩ : Edg)]).map eEd = g.ed.map eEd ++ [eEd ⟨i, idx g.st y, zbm c m.kind⟩] := by simp
  exact ⟨(q + 1, ⟨g.st, g.ed ++ [⟨i, idx g.st y, zbm c m.kind⟩]⟩), ⟨by show q + 1 ≤ ml.length; omega, g1, g2, g3, g4, g5, g6⟩, by show ml.length - (q + 1) < ml.length - q; omega,
   fun [_] => zc9 [0, 1, 2, 5] (by decide) ⟨⟨_, rfl, .rowE zPA_lo rfl⟩, ⟨_, rfl, .rowE (rows_lo _) rfl⟩, ⟨_, rfl, ob_mp rfl⟩, ⟨_, rfl, .rowE (eds_lo _) (by show _ = List.map eEd (_ ++ _); rw [List.map_append]; rfl)⟩, trivial⟩ ⟨.lo _ (lo_W w), .lo _ (by repeat' (first | exact Lo.s _ | exact zap | refine zah ?_ ?_ | refine zaq ?_ | refine Lo.cells ?_ | refine Lo.agg _ ?_ | refine Lo.ref _ ?_ | refine Lo.tup _ ?_ | refine Lo.fn _ _ ?_ | refine Lo.sl _ ?_ | intro _)), .lo _ hln, .lo _ hlc, .ptr 0 0 3 0 0 rfl, .own 5 3 3 _ _ rfl (by simp), .own 1 1 1 _ _ rfl rfl, .mp 2 2 rfl, .lo _ (by repeat' (first | exact Lo.s _ | exact zap | refine zah ?_ ?_ | refine zaq ?_ | refine Lo.cells ?_ | refine Lo.agg _ ?_ | refine Lo.ref _ ?_ | refine Lo.tup _ ?_ | refine Lo.fn _ _ ?_ | refine Lo.sl _ ?_ | intro _)), .lo _ (lo_Sts _), .lo _ (by repeat' (first | exact Lo.s _ | exact zap | refine zah ?_ ?_ | refine zaq ?_ | refine Lo.cells ?_ | refine Lo.agg _ ?_ | refine Lo.ref _ ?_ | refine Lo.tup _ ?_ | refine Lo.fn _ _ ?_ | refine Lo.sl _ ?_ | intro _)), .lo _ (by repeat' (first | exact Lo.s _ | exact zap | refine zah ?_ ?_ | refine zaq ?_ | refine Lo.cells ?_ | refine Lo.agg _ ?_ | refine Lo.ref _ ?_ | refine Lo.tup _ ?_ | refine Lo.fn _ _ ?_ | refine Lo.sl _ ?_ | intro _)), trivial⟩⟩
end Go.Proofs.YtjhdcgaiccnmeaaGreatDoor.Aw
end
section
namespace Go.Proofs.YtjhdcgaiccnmeaaGreatDoor.Dl
open Go.RowKit
def exD : Net := ⟨2, [⟨⟨#[97]⟩, [0], [1]⟩], 0, 1⟩
def exW : List ByteArray := [⟨#[98]⟩]
def exC : Cst := ⟨1, 1, 0⟩
def exP : Prf := ⟨[], [], [⟨1, 1⟩, ⟨0, 1⟩, ⟨1, 1⟩]⟩
def exG : Gr := ⟨[[0, 1, 0], [1, 1, 0], [0, 0, 1], [1, 0, 1]], [⟨0, 1, 1⟩, ⟨0, 2, 1⟩, ⟨1, 3, 1⟩, ⟨2, 3, 1⟩]⟩
theorem relW_go {M : List Edg} {far far' : List Int} (hc : bkR M far = (far', true)) (hs : far'.sum.toNat < far.sum.toNat) : relW M far = relW M far' := by
 conv => lhs; unfold relW
 rw [hc]
 exact dif_pos ⟨rfl, hs⟩
theorem ex_far : farD exG 3 = [2, 1, 1, 0] := by
 show relW exG.ed [1073741824, 1073741824, 1073741824, 0] = _
 rw [relW_go (far' := [2, 1, 1, 0]) (by kernel_rfl) (by decide +kernel)]
 exact relW_stop (by kernel_rfl)
theorem ex_prove : ∃ p, proveE exD exW exC 10 = (2, p, 0) := by
 have h1 : bfsD (nxD exD exW exC) 10 11 0 ⟨[(zb7 exD exW).1], []⟩ = some exG := by kernel_rfl
 have h2 : proveE exD exW exC 10 = finD exD exW exG := by
  unfold proveE
  rw [if_neg (by decide +kernel), if_neg (by decide)]
  show (match bfsD (nxD exD exW exC) 10 11 0 ⟨[(zb7 exD exW).1], []⟩ with | none => _ | some g => finD exD exW g) = _
  rw [h1]
 have h3 : idx exG.st (endE exD exW).1 = 3 := by kernel_rfl
 refine ⟨⟨exG.st, capD [2, 1, 1, 0], List.replicate (exD.places.toNat + exW.length) (Fr.of 0)⟩, ?_⟩
 rw [h2]
 unfold finD
 rw [if_neg (by decide +kernel), h3, ex_far]
 rfl
theorem ex_chk2 : Aw.checkE exD exW exC 2 exP = true := by kernel_rfl
theorem ex_chk3 : Aw.checkE exD exW exC 3 exP = false := by kernel_rfl
end Go.Proofs.YtjhdcgaiccnmeaaGreatDoor.Dl
namespace Go.Proofs.YtjhdcgaiccnmeaaGreatDoor.Aw
open Go Go.RowKit Go.Proofs Go.Maps Go.WideMaps Dl
variable {P : Program} [IsP P]
theorem indexFIs_pf (f : FuncId) (caps : List AV) (p : (List Int) → Bool) (l : List (List Int)) (hlo : ∀ a : (List Int), Lo 0 ((eL eI) a)) (hlc : Lo 0 (.fn f caps)) (hf : ∀ a ∈ l, Pure P f ([(eL eI) a] ++ caps) (eB (p a))) :
  Pure P 96 [eL (eL eI) l, .fn f caps] (eI (zc1 p l)) := by
 refine zbb (by rw [IsP.eq (P := P)]; exact Tryz.func96) rfl rfl rfl rfl rfl (zah (zaq hlo) (zah hlc zap)) (.s _) (by simp only [argF]; rfl) ?_
 refine aw_bdm (d := 0) rfl (fun hmx => ?_)
 unfold maxLen at hmx
 refine zaf (zae (zbe rfl (zaj (zaf (zaf (zae (zbe rfl (zab rfl rfl (zaa rfl) (za2 rfl ts28 rfl) (zbe rfl (zaj (zak (zac ?_))))))))))))
 refine zdc (S := Nat) (fun k => [(0, eL (eL eI) l), (1, .fn f caps), (7, eI l.length), (8, eI k)]) (fun _ => []) (fun k => k ≤ l.length ∧ ∀ j a, j < k → l[j]? = some a → p a = false) (fun k => l.length - k) 0 (zdk _ ⟨rfl, rfl, rfl, rfl, trivial⟩) ⟨by omega, fun j a hj => by omega⟩ (fun k hk => ?_)
 refine zaf (zae (zab rfl rfl (zaa rfl) (zb3 rfl rfl rfl) (zaj (zaf ?_))))
 refine aw_if rfl (fun h => ?_) (fun h => ?_)
 ·
  have hlt : k < l.length := by omega
  refine zad (zaf (zac (zaf (zae (zbe rfl (zbe rfl (zaj (zaf ?_))))))))
  have hp := hf (gti l k) (gti_mem hlt)
  refine zae (zbe rfl (zbe rfl (zbe rfl (zab rfl rfl (zaa rfl) (za1 rfl ts28 ti29 rfl rfl rfl (zcw (by omega)) rfl) (zbk ta29 rfl (zab rfl rfl (zaa rfl) (zav rfl rfl (hp) (zar rfl za0)) (zaj (zak ?_))))))))
  refine aw_cond rfl (fun h => ?_) (fun h => ?_)
  ·
   refine zaf (zae (zbe rfl (zbe rfl (zaj (zak ?_)))))
   (refine zbd ?_; repeat (first | refine zbn ?_ | refine zbo ?_))
   exact zcb (.inr rfl) rfl (congrArg eI (zcs (zbu hlt) h hk.2).symm)
  ·
   refine zad (zal (zak (zae (zab rfl rfl (zaa rfl) (zbj rfl rfl rfl (IntWalk.i64_in _ (by omega))) (zbe rfl (zaj (zak ?_)))))))
   refine ⟨k + 1, ⟨by omega, fun j a hj ha => ?_⟩, by omega, zdk _ ⟨rfl, rfl, rfl, rfl, trivial⟩⟩
   by_cases e : j = k
   ·
    subst e
    rw [zbu hlt] at ha
    cases ha
    exact h
   ·
    exact hk.2 j a (by omega) ha
 ·
  (refine zdd ?_; repeat (first | refine ath_x ?_ | refine zco ?_ | refine zce rfl ?_ | refine zal ?_ | refine zak ?_ | refine zaf ?_ | refine zad ?_ | refine zac ?_))
  refine zae (zbe rfl (zaj (zak ?_)))
  (refine zbd ?_; repeat (first | refine zbn ?_ | refine zbo ?_))
  exact zcb (.inr rfl) rfl (congrArg eI (zcz (fun j a hj ha => hk.2 j a (by omega) ha)).symm)
theorem containsFIs_pf (f : FuncId) (caps : List AV) (p : (List Int) → Bool) (l : List (List Int)) (hlo : ∀ a : (List Int), Lo 0 ((eL eI) a)) (hlc : Lo 0 (.fn f caps)) (hf : ∀ a ∈ l, Pure P f ([(eL eI) a] ++ caps) (eB (p a))) :
  Pure P 45 [eL (eL eI) l, .fn f caps] (eB (l.any p)) := by
 refine zbb (by rw [IsP.eq (P := P)]; exact Tryz.func45) rfl rfl rfl rfl rfl (zah (zaq hlo) (zah hlc zap)) (.s _) (by simp only [argF]; rfl) ?_
 have hi := indexFIs_pf f caps p l hlo hlc hf
 refine zaf (zae (zbe rfl (zaj (zaf (zae (zbe rfl (zbe rfl (zab rfl rfl (zaa rfl) (zav rfl rfl (hi) (zar rfl (zar rfl za0))) (zab rfl rfl (zaa rfl) (does_geq rfl rfl rfl) (zbe rfl (zaj (zak ?_))))))))))))
 (refine zbd ?_; repeat (first | refine zbn ?_ | refine zbo ?_))
 exact zcb (.inr rfl) rfl (congrArg eB (zc0 p l))
theorem indexFT_pf (f : FuncId) (caps : List AV) (p : Tr → Bool) (l : List Tr) (hlo : ∀ a : Tr, Lo 0 (eT a)) (hlc : Lo 0 (.fn f caps)) (hf : ∀ a ∈ l, Pure P f ([eT a] ++ caps) (eB (p a))) :
  Pure P 94 [eL eT l, .fn f caps] (eI (zc1 p l)) := by
 refine zbb (by rw [IsP.eq (P := P)]; exact Tryz.func94) rfl rfl rfl rfl rfl (zah (zaq hlo) (zah hlc zap)) (.s _) (by simp only [argF]; rfl) ?_
 refine aw_bdm (d := 0) rfl (fun hmx => ?_)
 unfold maxLen at hmx
 refine zaf (zae (zbe rfl (zaj (zaf (zaf (zae (zbe rfl (zab rfl rfl (zaa rfl) (za2 rfl ts22 rfl) (zbe rfl (zaj (zak (zac ?_))))))))))))
 refine zdc (S := Nat) (fun k => [(0, eL eT l), (1, .fn f caps), (7, eI l.length), (8, eI k)]) (fun _ => []) (fun k => k ≤ l.length ∧ ∀ j a, j < k → l[j]? = some a → p a = false) (fun k => l.length - k) 0 (zdk _ ⟨rfl, rfl, rfl, rfl, trivial⟩) ⟨by omega, fun j a hj => by omega⟩ (fun k hk => ?_)
 refine zaf (zae (zab rfl rfl (zaa rfl) (zb3 rfl rfl rfl) (zaj (zaf ?_))))
 refine aw_if rfl (fun h => ?_) (fun h => ?_)
 ·
  have hlt : k < l.length := by omega
  refine zad (zaf (zac (zaf (zae (zbe rfl (zbe rfl (zaj (zaf ?_))))))))
  have hp := hf (gti l k) (gti_mem hlt)
  refine zae (zbe rfl (zbe rfl (zbe rfl (zab rfl rfl (zaa rfl) (za1 rfl ts22 ti86 rfl rfl rfl (zcw (by omega)) rfl) (zb2 ta86 ti86 rfl (zab rfl rfl (zaa rfl) (zav rfl rfl (hp) (zar rfl za0)) (zaj (zak ?_))))))))
  refine aw_cond rfl (fun h => ?_) (fun h => ?_)
  ·
   refine zaf (zae (zbe rfl (zbe rfl (zaj (zak ?_)))))
   (refine zbd ?_; repeat (first | refine zbn ?_ | refine zbo ?_))
   exact zcb (.inr rfl) rfl (congrArg eI (zcs (zbu hlt) h hk.2).symm)
  ·
   refine zad (zal (zak (zae (zab rfl rfl (zaa rfl) (zbj rfl rfl rfl (IntWalk.i64_in _ (by omega))) (zbe rfl (zaj (zak ?_)))))))
   refine ⟨k + 1, ⟨by omega, fun j a hj ha => ?_⟩, by omega, zdk _ ⟨rfl, rfl, rfl, rfl, trivial⟩⟩
   by_cases e : j = k
   ·
    subst e
    rw [zbu hlt] at ha
    cases ha
    exact h
   ·
    exact hk.2 j a (by omega) ha
 ·
  (refine zdd ?_; repeat (first | refine ath_x ?_ | refine zco ?_ | refine zce rfl ?_ | refine zal ?_ | refine zak ?_ | refine zaf ?_ | refine zad ?_ | refine zac ?_))
  refine zae (zbe rfl (zaj (zak ?_)))
  (refine zbd ?_; repeat (first | refine zbn ?_ | refine zbo ?_))
  exact zcb (.inr rfl) rfl (congrArg eI (zcz (fun j a hj ha => hk.2 j a (by omega) ha)).symm)
theorem containsFT_pf (f : FuncId) (caps : List AV) (p : Tr → Bool) (l : List Tr) (hlo : ∀ a : Tr, Lo 0 (eT a)) (hlc : Lo 0 (.fn f caps)) (hf : ∀ a ∈ l, Pure P f ([eT a] ++ caps) (eB (p a))) :
  Pure P 41 [eL eT l, .fn f caps] (eB (l.any p)) := by
 refine zbb (by rw [IsP.eq (P := P)]; exact Tryz.func41) rfl rfl rfl rfl rfl (zah (zaq hlo) (zah hlc zap)) (.s _) (by simp only [argF]; rfl) ?_
 have hi := indexFT_pf f caps p l hlo hlc hf
 refine zaf (zae (zbe rfl (zaj (zaf (zae (zbe rfl (zbe rfl (zab rfl rfl (zaa rfl) (zav rfl rfl (hi) (zar rfl (zar rfl za0))) (zab rfl rfl (zaa rfl) (does_geq rfl rfl rfl) (zbe rfl (zaj (zak ?_))))))))))))
 (refine zbd ?_; repeat (first | refine zbn ?_ | refine zbo ?_))
 exact zcb (.inr rfl) rfl (congrArg eB (zc0 p l))
theorem awake44 : Pure P 9 [] (eB true) := by
 obtain ⟨pf, hpf⟩ := ex_prove
 have hpr := prove_pf (P := P) exD exW exC 10
 rw [hpf] at hpr
 have hc2 := dCheck_pf (P := P) exD exW exC 2 exP
 rw [ex_chk2] at hc2
 have hc3 := dCheck_pf (P := P) exD exW exC 3 exP
 rw [ex_chk3] at hc3
 refine zbb (by rw [IsP.eq (P := P)]; exact Tryz.func9) rfl rfl rfl rfl rfl (zap) (.s _) (by simp only [argF]; rfl) ?_
 refine zaf (zae (zbe rfl (zaj (zaf (zae (zab rfl rfl (zaa rfl) (lit1_sF rfl ts29 ti3 rfl rfl rfl rfl) (zab rfl rfl (zaa rfl) (lit1_sF rfl ts29 ti3 rfl rfl rfl rfl) (zab rfl rfl (zaa rfl) (zbp rfl ti86 tp86 rfl rfl) ?_))))))))
 refine zab rfl rfl (zaa rfl) (zcp rfl ts22 ti86 rfl rfl (by decide) (by decide) rfl rfl rfl (by repeat' (first | exact Lo.s _ | exact zap | refine zah ?_ ?_ | refine zaq ?_ | refine Lo.agg _ ?_ | refine Lo.sl _ ?_ | intro _))) ?_
 refine zab rfl rfl (zaa rfl) (zbp rfl ti24 tp24 rfl rfl) (zab rfl rfl (zaa rfl) (zbi rfl ti24 rfl rfl) (zbx rfl (zaa rfl) (za7 rfl ti24 rfl rfl rfl rfl rfl rfl (by decide) (by decide)) (zaj (zaf ?_))))
 refine zbz (zbv (id := 0) rfl) ?_
 refine zbz (zcf (d := 1) rfl rfl rfl) ?_
 refine zbz (F' := [(1, .ref (eN exD).cells)]) (σ' := []) (zc9 [] (by decide) trivial ⟨.lo _ (.ref _ (lo_N exD).cells), trivial⟩) ?_
 refine zae (zab rfl rfl (zaa rfl) (zbp rfl ti56 tp56 rfl rfl) (zab rfl rfl (zaa rfl) (zbp rfl ti56 tp56 rfl rfl) (zab rfl rfl (zaa rfl) (zbi rfl ti56 rfl rfl) (zab rfl rfl (zaa rfl) (zbi rfl ti56 rfl rfl) (zbx rfl (zaa rfl) (za7 rfl ti56 rfl rfl rfl rfl rfl rfl (by decide) (by decide)) (zbx rfl (zaa rfl) (za7 rfl ti56 rfl rfl rfl rfl rfl rfl (by decide) (by decide)) (zaj (zaf ?_))))))))
 refine zbz (zbv (id := 0) rfl) ?_
 refine zbz (zcf (d := 2) rfl rfl rfl) ?_
 refine zbz (zbv (id := 1) rfl) ?_
 refine zbz (zcf (d := 3) rfl rfl rfl) ?_
 refine zbz (F' := [(1, .ref (eN exD).cells), (2, .ref (eF ⟨1, 1⟩).cells), (3, .ref (eF ⟨0, 1⟩).cells)]) (σ' := []) (zc9 [] (by decide) trivial ⟨.lo _ (.ref _ (lo_N exD).cells), .lo _ (show Lo 0 (.ref (eF ⟨1, 1⟩).cells) from .ref _ (lo_Fr _).cells), .lo _ (show Lo 0 (.ref (eF ⟨0, 1⟩).cells) from .ref _ (lo_Fr _).cells), trivial⟩) ?_
 refine zae (zb2 ta56 ti56 rfl (zb2 ta56 ti56 rfl (zb2 ta56 ti56 rfl (zab rfl rfl (zaa rfl) (does_lit rfl ts30 ti56 rfl rfl (by decide) (by decide) (by decide) rfl rfl) ?_))))
 refine za5 (zbv (id := 0) rfl) (za5 (wk_sl (d := 19) rfl rfl (by first | rfl | (simp; done) | (simp; omega))) ?_)
 refine zab rfl rfl (zaa rfl) (zbp rfl ti32 tp32 rfl rfl) (zab rfl rfl (zaa rfl) (zbi rfl ti32 rfl rfl) (zbx rfl (zaa rfl) (za7 rfl ti32 rfl rfl rfl rfl rfl rfl (by decide) (by decide)) (zaj (zaf ?_))))
 refine zbz (zbv (id := 1) rfl) ?_
 refine zbz (zcf (d := 4) rfl rfl rfl) ?_
 refine zbz (F' := [(1, .ref (eN exD).cells), (4, .ref [.s (.slice none 0 0), .s (.slice none 0 0), eL eF exP.duals])]) (σ' := []) (zc9 [] (by decide) trivial ⟨.lo _ (.ref _ (lo_N exD).cells), .lo _ (show Lo 0 (.ref [.s (.slice none 0 0), .s (.slice none 0 0), eL eF exP.duals]) from .ref _ (zah (.s _) (zah (.s _) (zah (zaq fun a => lo_Fr a) zap)))), trivial⟩) ?_
 refine zae (zab rfl rfl (zaa rfl) (zbp rfl ti27 tp27 rfl rfl) (zab rfl rfl (zaa rfl) (zbi rfl ti27 rfl rfl) (zbx rfl (zaa rfl) (za7 rfl ti27 rfl rfl rfl rfl rfl rfl (by decide) (by decide)) (zaj (zaf ?_)))))
 refine zbz (zbv (id := 0) rfl) ?_
 refine zbz (zcf (d := 5) rfl rfl rfl) ?_
 refine zae (zb2 ta24 ti24 rfl (zab rfl rfl (zaa rfl) (lit1_sF rfl ts25 ti9 rfl rfl rfl rfl) (zb2 ta27 ti27 rfl (zab rfl rfl (zaa rfl) (zav rfl rfl (hpr) (zar rfl (zar rfl (zar rfl (zar rfl za0))))) (zbe rfl (zbe rfl (zbe rfl (zbe rfl (zab rfl rfl (zaa rfl) (zbi rfl ti32 rfl rfl) (zbe rfl (zbx rfl (zaa rfl) (za7 rfl ti32 rfl rfl rfl rfl rfl rfl (by decide) (by decide)) (zbe rfl (zaj (zaf ?_))))))))))))))
 refine zbz (F' := [(1, .ref (eN exD).cells), (4, .ref [.s (.slice none 0 0), .s (.slice none 0 0), eL eF exP.duals]), (5, .ref (eC exC).cells), (6, eI 2), (8, eI 0)]) (σ' := []) (zc9 [] (by decide) trivial ⟨.lo _ (.ref _ (lo_N exD).cells), .lo _ (show Lo 0 (.ref [.s (.slice none 0 0), .s (.slice none 0 0), eL eF exP.duals]) from .ref _ (zah (.s _) (zah (.s _) (zah (zaq fun a => lo_Fr a) zap)))), .lo _ (show Lo 0 (.ref (eC exC).cells) from .ref _ (lo_C exC).cells), .lo _ (.s _), .lo _ (.s _), trivial⟩) ?_
 refine zae (zb2 ta24 ti24 rfl (zab rfl rfl (zaa rfl) (lit1_sF rfl ts25 ti9 rfl rfl rfl rfl) (zb2 ta27 ti27 rfl (zb2 ta32 ti32 rfl ?_))))
 refine zab rfl rfl (zaa rfl) (does_callb rfl rfl hc2 (zb9.cons (.refl _) (zb9.cons (.refl _) (zb9.cons (.refl _) (zb9.cons (.refl _) (zb9.cons (.agg _ _ rfl (zb9.cons .nil (zb9.cons .nil (zb9.cons (.refl _) zb9.nil))).2) zb9.nil))))) (by repeat' (first | exact Flat.s _ | exact flat_nil | refine flat_cons ?_ ?_ | refine Flat.agg ?_ | refine Flat.tup ?_))) ?_
 refine zbe rfl (zb2 ta24 ti24 rfl (zab rfl rfl (zau rfl rfl rfl) (lit1_sF rfl ts25 ti9 rfl rfl rfl rfl) (zb2 ta27 ti27 rfl (zb2 ta32 ti32 rfl ?_))))
 refine zab rfl rfl (zau rfl rfl rfl) (does_callb rfl rfl hc3 (zb9.cons (.refl _) (zb9.cons (.refl _) (zb9.cons (.refl _) (zb9.cons (.refl _) (zb9.cons (.agg _ _ rfl (zb9.cons .nil (zb9.cons .nil (zb9.cons (.refl _) zb9.nil))).2) zb9.nil))))) (by repeat' (first | exact Flat.s _ | exact flat_nil | refine flat_cons ?_ ?_ | refine Flat.agg ?_ | refine Flat.tup ?_))) ?_
 refine zab rfl rfl (zau rfl rfl rfl) (zbh rfl rfl) (zbe rfl (zbe rfl (zbe rfl (zab rfl rfl (zau rfl rfl rfl) (zck rfl (does_eql rfl rfl rfl)) (zbe rfl (zbe rfl (zbe rfl (zab rfl rfl (zau rfl rfl rfl) (zck rfl (does_eql rfl rfl rfl)) (zbe rfl (zbe rfl (zaj (zak ?_))))))))))))
 (refine zbd ?_; repeat (first | refine zbn ?_ | refine zbo ?_))
 exact zcb (.inr rfl) rfl rfl
def bigT (t : Tr) : Bool := decide (12 < t.inn.length) || (decide (12 < t.out.length) || decide (100 < t.label.size))
def bigS (s : ByteArray) : Bool := decide (100 < s.size)
def bigL (l : List Int) : Bool := decide (12 < l.length)
theorem bigT_pf (t : Tr) : Pure P 42 [eT t] (eB (bigT t)) := by
 refine zbb (by rw [IsP.eq (P := P)]; exact Tryz.func42) rfl rfl rfl rfl rfl (zah (lo_T t) zap) (.s _) (by simp only [argF]; rfl) ?_
 refine zaf (zae (zab rfl rfl (zaa rfl) (zb1 rfl rfl rfl rfl) ?_))
 refine za5 (zbv (id := 0) rfl) (za5 (zcf (d := 1) rfl rfl rfl) ?_)
 refine zbe rfl (zaj (zaf ?_))
 by_cases h1 : (t.inn.length : Int) > 12
 ·
  refine zae (zbq tf86_1 rfl (zbk ta29 rfl (zab rfl rfl (zaa rfl) (za2 rfl ts29 rfl) (zab rfl rfl (zaa rfl) (zck h1 (zb6 rfl rfl rfl)) (zbe rfl (zbf rfl (zbf rfl (zbf rfl (zbf rfl (zbe rfl (zbe rfl (zbf rfl (zbf rfl (zbf rfl (zbf rfl (zbe rfl (zbe rfl (zaj (zak ?_)))))))))))))))))))
  (refine zbd ?_; repeat (first | refine zbn ?_ | refine zbo ?_))
  exact zcb (.inr rfl) rfl (congrArg eB (by unfold bigT; rw [decide_eq_true (by omega)]; rfl))
 by_cases h2 : (t.out.length : Int) > 12
 ·
  refine zae (zbq tf86_1 rfl (zbk ta29 rfl (zab rfl rfl (zaa rfl) (za2 rfl ts29 rfl) (zab rfl rfl (zaa rfl) (zc7 h1 (zb6 rfl rfl rfl)) (zbe rfl (zbq tf86_2 rfl (zbk ta29 rfl (zab rfl rfl (zau rfl rfl rfl) (za2 rfl ts29 rfl) (zab rfl rfl (zau rfl rfl rfl) (zck h2 (zb6 rfl rfl rfl)) (zbe rfl (zbe rfl (zbf rfl (zbf rfl (zbf rfl (zbf rfl (zbe rfl (zbe rfl (zaj (zak ?_)))))))))))))))))))
  (refine zbd ?_; repeat (first | refine zbn ?_ | refine zbo ?_))
  exact zcb (.inr rfl) rfl (congrArg eB (by unfold bigT; rw [decide_eq_true (show 12 < t.out.length by omega)]; simp))
 by_cases h3 : (t.label.size : Int) > 100
 ·
  refine zae (zbq tf86_1 rfl (zbk ta29 rfl (zab rfl rfl (zaa rfl) (za2 rfl ts29 rfl) (zab rfl rfl (zaa rfl) (zc7 h1 (zb6 rfl rfl rfl)) (zbe rfl (zbq tf86_2 rfl (zbk ta29 rfl (zab rfl rfl (zau rfl rfl rfl) (za2 rfl ts29 rfl) (zab rfl rfl (zau rfl rfl rfl) (zc7 h2 (zb6 rfl rfl rfl)) (zbe rfl (zbe rfl (zbq tf86_0 rfl (zbk ta9 rfl (zab rfl rfl (zau rfl rfl rfl) (does_len_str rfl tg9 rfl) (zab rfl rfl (zau rfl rfl rfl) (zck h3 (zb6 rfl rfl rfl)) (zbe rfl (zbe rfl (zaj (zak ?_)))))))))))))))))))
  (refine zbd ?_; repeat (first | refine zbn ?_ | refine zbo ?_))
  exact zcb (.inr rfl) rfl (congrArg eB (by unfold bigT; rw [decide_eq_true (show 100 < t.label.size by omega)]; simp))
 ·
  refine zae (zbq tf86_1 rfl (zbk ta29 rfl (zab rfl rfl (zaa rfl) (za2 rfl ts29 rfl) (zab rfl rfl (zaa rfl) (zc7 h1 (zb6 rfl rfl rfl)) (zbe rfl (zbq tf86_2 rfl (zbk ta29 rfl (zab rfl rfl (zau rfl rfl rfl) (za2 rfl ts29 rfl) (zab rfl rfl (zau rfl rfl rfl) (zc7 h2 (zb6 rfl rfl rfl)) (zbe rfl (zbe rfl (zbq tf86_0 rfl (zbk ta9 rfl (zab rfl rfl (zau rfl rfl rfl) (does_len_str rfl tg9 rfl) (zab rfl rfl (zau rfl rfl rfl) (zc7 h3 (zb6 rfl rfl rfl)) (zbe rfl (zbe rfl (zaj (zak ?_)))))))))))))))))))
  (refine zbd ?_; repeat (first | refine zbn ?_ | refine zbo ?_))
  exact zcb (.inr rfl) rfl (congrArg eB (by unfold bigT; rw [decide_eq_false (by omega), decide_eq_false (by omega), decide_eq_false (by omega)]; rfl))
theorem bigS_pf (s : ByteArray) : Pure P 44 [eS s] (eB (bigS s)) := by
 refine zbb (by rw [IsP.eq (P := P)]; exact Tryz.func44) rfl rfl rfl rfl rfl (zah (.s _) zap) (.s _) (by simp only [argF]; rfl) ?_
 refine zaf (zae (zbe rfl (zaj (zaf (zae (zbe rfl (zab rfl rfl (zaa rfl) (does_len_str rfl tg9 rfl) (zab rfl rfl (zaa rfl) (zb6 rfl rfl rfl) (zbe rfl (zaj (zak ?_)))))))))))
 (refine zbd ?_; repeat (first | refine zbn ?_ | refine zbo ?_))
 exact zcb (.inr rfl) rfl (congrArg eB (decide_eq_decide.2 (by omega)))
theorem bigL_pf (l : List Int) : Pure P 46 [eL eI l] (eB (bigL l)) := by
 refine zbb (by rw [IsP.eq (P := P)]; exact Tryz.func46) rfl rfl rfl rfl rfl (zah lo_I zap) (.s _) (by simp only [argF]; rfl) ?_
 refine zaf (zae (zbe rfl (zaj (zaf (zae (zbe rfl (zab rfl rfl (zaa rfl) (za2 rfl ts29 rfl) (zab rfl rfl (zaa rfl) (zb6 rfl rfl rfl) (zbe rfl (zaj (zak ?_)))))))))))
 (refine zbd ?_; repeat (first | refine zbn ?_ | refine zbo ?_))
 exact zcb (.inr rfl) rfl (congrArg eB (decide_eq_decide.2 (by omega)))
def smallB (n : Net) (w : List ByteArray) : Bool := if (n.places ≤ 8 ∨ 40 < n.places) ∧ n.trans.length ≤ 8 ∧ n.trans.any bigT = false ∧ w.length ≤ 6 ∧ w.any bigS = false then true else false
theorem smallB_t {n : Net} {w : List ByteArray} (h : (n.places ≤ 8 ∨ 40 < n.places) ∧ n.trans.length ≤ 8 ∧ n.trans.any bigT = false ∧ w.length ≤ 6 ∧ w.any bigS = false) : smallB n w = true := if_pos h
theorem smallB_f {n : Net} {w : List ByteArray} (h : ¬ ((n.places ≤ 8 ∨ 40 < n.places) ∧ n.trans.length ≤ 8 ∧ n.trans.any bigT = false ∧ w.length ≤ 6 ∧ w.any bigS = false)) : smallB n w = false := if_neg h
theorem small_pf (n : Net) (w : List ByteArray) : Pure P 10 [eN n, eL eS w] (eB (smallB n w)) := by
 have hT := containsFT_pf (P := P) 42 [] bigT n.trans (fun a => lo_T a) (.fn _ _ zap) (fun a _ => bigT_pf a)
 have hS := containsFS_pf (P := P) 44 [] bigS w (fun a => .s _) (.fn _ _ zap) (fun a _ => bigS_pf a)
 have ht := smallB_t (n := n) (w := w)
 have hf := smallB_f (n := n) (w := w)
 generalize n.trans.any bigT = b1 at hT ht hf
 generalize w.any bigS = b2 at hS ht hf
 generalize smallB n w = R at ht hf ⊢
 refine zbb (by rw [IsP.eq (P := P)]; exact Tryz.func10) rfl rfl rfl rfl rfl (zah (lo_N n) (zah (lo_W w) zap)) (.s _) (by simp only [argF]; rfl) ?_
 refine zaf (zae (zab rfl rfl (zaa rfl) (zb1 rfl rfl rfl rfl) ?_))
 refine za5 (zbv (id := 0) rfl) (za5 (zcf (d := 2) rfl rfl rfl) ?_)
 refine zbe rfl (zaj (zaf ?_))
 by_cases h1 : n.places ≤ 8 ∨ n.places > 40
 rotate_left 1
 ·
  refine zae (zbq zdo rfl (zbk ta3 rfl (zab rfl rfl (zaa rfl) (zc7 (by omega) (zbr rfl rfl rfl)) (zbe rfl (zbq zdo rfl (zbk ta3 rfl (zab rfl rfl (zau rfl rfl rfl) (zc7 (by omega) (zb6 rfl rfl rfl)) (zbe rfl (zbe rfl (zbf rfl (zbf rfl (zbf rfl (zbf rfl (zbe rfl (zbe rfl (zbf rfl (zbf rfl (zbf rfl (zbf rfl (zbe rfl (zbe rfl (zbf rfl (zbf rfl (zbf rfl (zbe rfl (zbe rfl (zbf rfl (zbf rfl (zbf rfl (zbe rfl (zbe rfl (zaj (zak ?_)))))))))))))))))))))))))))))))))
  (refine zbd ?_; repeat (first | refine zbn ?_ | refine zbo ?_))
  exact zcb (.inr rfl) rfl (congrArg eB (hf (fun h => h1 (by omega))).symm)
 by_cases h2 : (n.trans.length : Int) ≤ 8
 rotate_left 1
 ·
  by_cases h3 : n.places ≤ 8
  ·
   refine zae (zbq zdo rfl (zbk ta3 rfl (zab rfl rfl (zaa rfl) (zck h3 (zbr rfl rfl rfl)) (zbe rfl (zbf rfl (zbf rfl (zbf rfl (zbe rfl (zbe rfl (zbq tf24_1 rfl (zbk ta22 rfl (zab rfl rfl (zau rfl rfl rfl) (za2 rfl ts22 rfl) (zab rfl rfl (zau rfl rfl rfl) (zc7 h2 (zbr rfl rfl rfl)) (zbe rfl (zbe rfl (zbf rfl (zbf rfl (zbf rfl (zbf rfl (zbe rfl (zbe rfl (zbf rfl (zbf rfl (zbf rfl (zbe rfl (zbe rfl (zbf rfl (zbf rfl (zbf rfl (zbe rfl (zbe rfl (zaj (zak ?_)))))))))))))))))))))))))))))))))
   (refine zbd ?_; repeat (first | refine zbn ?_ | refine zbo ?_))
   exact zcb (.inr rfl) rfl (congrArg eB (hf (fun h => h2 (by omega))).symm)
  ·
   refine zae (zbq zdo rfl (zbk ta3 rfl (zab rfl rfl (zaa rfl) (zc7 h3 (zbr rfl rfl rfl)) (zbe rfl (zbq zdo rfl (zbk ta3 rfl (zab rfl rfl (zau rfl rfl rfl) (zck (by omega) (zb6 rfl rfl rfl)) (zbe rfl (zbe rfl (zbq tf24_1 rfl (zbk ta22 rfl (zab rfl rfl (zau rfl rfl rfl) (za2 rfl ts22 rfl) (zab rfl rfl (zau rfl rfl rfl) (zc7 h2 (zbr rfl rfl rfl)) (zbe rfl (zbe rfl (zbf rfl (zbf rfl (zbf rfl (zbf rfl (zbe rfl (zbe rfl (zbf rfl (zbf rfl (zbf rfl (zbe rfl (zbe rfl (zbf rfl ?_)))))))))))))))))))))))))))
   refine zbf rfl (zbf rfl (zbe rfl (zbe rfl (zaj (zak ?_)))))
   (refine zbd ?_; repeat (first | refine zbn ?_ | refine zbo ?_))
   exact zcb (.inr rfl) rfl (congrArg eB (hf (fun h => h2 (by omega))).symm)
 cases b1 with
 | true =>
  by_cases h3 : n.places ≤ 8
  ·
   refine zae (zbq zdo rfl (zbk ta3 rfl (zab rfl rfl (zaa rfl) (zck h3 (zbr rfl rfl rfl)) (zbe rfl (zbf rfl (zbf rfl (zbf rfl (zbe rfl (zbe rfl (zbq tf24_1 rfl (zbk ta22 rfl (zab rfl rfl (zau rfl rfl rfl) (za2 rfl ts22 rfl) (zab rfl rfl (zau rfl rfl rfl) (zck h2 (zbr rfl rfl rfl)) (zbe rfl (zbe rfl (zbq tf24_1 rfl (zbk ta22 rfl (zab rfl rfl (zau rfl rfl rfl) (zav rfl rfl (hT) (zar rfl (zar rfl za0))) (zab rfl rfl (zau rfl rfl rfl) (zbh rfl rfl) (zbe rfl (zbe rfl ?_)))))))))))))))))))))
   refine zbf rfl (zbf rfl (zbf rfl (zbe rfl (zbe rfl (zbf rfl (zbf rfl (zbf rfl (zbe rfl (zbe rfl (zaj (zak ?_)))))))))))
   (refine zbd ?_; repeat (first | refine zbn ?_ | refine zbo ?_))
   exact zcb (.inr rfl) rfl (congrArg eB (hf (fun h => absurd h.2.2.1 (by decide))).symm)
  ·
   refine zae (zbq zdo rfl (zbk ta3 rfl (zab rfl rfl (zaa rfl) (zc7 h3 (zbr rfl rfl rfl)) (zbe rfl (zbq zdo rfl (zbk ta3 rfl (zab rfl rfl (zau rfl rfl rfl) (zck (by omega) (zb6 rfl rfl rfl)) (zbe rfl (zbe rfl (zbq tf24_1 rfl (zbk ta22 rfl (zab rfl rfl (zau rfl rfl rfl) (za2 rfl ts22 rfl) (zab rfl rfl (zau rfl rfl rfl) (zck h2 (zbr rfl rfl rfl)) (zbe rfl (zbe rfl (zbq tf24_1 rfl (zbk ta22 rfl (zab rfl rfl (zau rfl rfl rfl) (zav rfl rfl (hT) (zar rfl (zar rfl za0))) ?_))))))))))))))))))
   refine zab rfl rfl (zau rfl rfl rfl) (zbh rfl rfl) (zbe rfl (zbe rfl (zbf rfl (zbf rfl (zbf rfl (zbe rfl (zbe rfl (zbf rfl (zbf rfl (zbf rfl (zbe rfl (zbe rfl (zaj (zak ?_))))))))))))))
   (refine zbd ?_; repeat (first | refine zbn ?_ | refine zbo ?_))
   exact zcb (.inr rfl) rfl (congrArg eB (hf (fun h => absurd h.2.2.1 (by decide))).symm)
 | false =>
 by_cases h4 : (w.length : Int) ≤ 6
 rotate_left 1
 ·
  by_cases h3 : n.places ≤ 8
  ·
   refine zae (zbq zdo rfl (zbk ta3 rfl (zab rfl rfl (zaa rfl) (zck h3 (zbr rfl rfl rfl)) (zbe rfl (zbf rfl (zbf rfl (zbf rfl (zbe rfl (zbe rfl (zbq tf24_1 rfl (zbk ta22 rfl (zab rfl rfl (zau rfl rfl rfl) (za2 rfl ts22 rfl) (zab rfl rfl (zau rfl rfl rfl) (zck h2 (zbr rfl rfl rfl)) (zbe rfl (zbe rfl (zbq tf24_1 rfl (zbk ta22 rfl (zab rfl rfl (zau rfl rfl rfl) (zav rfl rfl (hT) (zar rfl (zar rfl za0))) (zab rfl rfl (zau rfl rfl rfl) (zbh rfl rfl) (zbe rfl (zbe rfl ?_)))))))))))))))))))))
   refine zbe rfl (zab rfl rfl (zau rfl rfl rfl) (za2 rfl ts25 rfl) (zab rfl rfl (zau rfl rfl rfl) (zc7 h4 (zbr rfl rfl rfl)) (zbe rfl (zbe rfl (zbf rfl (zbf rfl (zbf rfl (zbe rfl (zbe rfl (zaj (zak ?_)))))))))))
   (refine zbd ?_; repeat (first | refine zbn ?_ | refine zbo ?_))
   exact zcb (.inr rfl) rfl (congrArg eB (hf (fun h => h4 (by omega))).symm)
  ·
   refine zae (zbq zdo rfl (zbk ta3 rfl (zab rfl rfl (zaa rfl) (zc7 h3 (zbr rfl rfl rfl)) (zbe rfl (zbq zdo rfl (zbk ta3 rfl (zab rfl rfl (zau rfl rfl rfl) (zck (by omega) (zb6 rfl rfl rfl)) (zbe rfl (zbe rfl (zbq tf24_1 rfl (zbk ta22 rfl (zab rfl rfl (zau rfl rfl rfl) (za2 rfl ts22 rfl) (zab rfl rfl (zau rfl rfl rfl) (zck h2 (zbr rfl rfl rfl)) (zbe rfl (zbe rfl (zbq tf24_1 rfl (zbk ta22 rfl (zab rfl rfl (zau rfl rfl rfl) (zav rfl rfl (hT) (zar rfl (zar rfl za0))) ?_))))))))))))))))))
   refine zab rfl rfl (zau rfl rfl rfl) (zbh rfl rfl) (zbe rfl (zbe rfl (zbe rfl (zab rfl rfl (zau rfl rfl rfl) (za2 rfl ts25 rfl) (zab rfl rfl (zau rfl rfl rfl) (zc7 h4 (zbr rfl rfl rfl)) (zbe rfl (zbe rfl (zbf rfl (zbf rfl (zbf rfl (zbe rfl (zbe rfl (zaj (zak ?_))))))))))))))
   (refine zbd ?_; repeat (first | refine zbn ?_ | refine zbo ?_))
   exact zcb (.inr rfl) rfl (congrArg eB (hf (fun h => h4 (by omega))).symm)
 cases b2 with
 | true =>
  by_cases h3 : n.places ≤ 8
  ·
   refine zae (zbq zdo rfl (zbk ta3 rfl (zab rfl rfl (zaa rfl) (zck h3 (zbr rfl rfl rfl)) (zbe rfl (zbf rfl (zbf rfl (zbf rfl (zbe rfl (zbe rfl (zbq tf24_1 rfl (zbk ta22 rfl (zab rfl rfl (zau rfl rfl rfl) (za2 rfl ts22 rfl) (zab rfl rfl (zau rfl rfl rfl) (zck h2 (zbr rfl rfl rfl)) (zbe rfl (zbe rfl (zbq tf24_1 rfl (zbk ta22 rfl (zab rfl rfl (zau rfl rfl rfl) (zav rfl rfl (hT) (zar rfl (zar rfl za0))) (zab rfl rfl (zau rfl rfl rfl) (zbh rfl rfl) (zbe rfl (zbe rfl ?_)))))))))))))))))))))
   refine zbe rfl (zab rfl rfl (zau rfl rfl rfl) (za2 rfl ts25 rfl) (zab rfl rfl (zau rfl rfl rfl) (zck h4 (zbr rfl rfl rfl)) (zbe rfl (zbe rfl (zbe rfl (zab rfl rfl (zau rfl rfl rfl) (zav rfl rfl (hS) (zar rfl (zar rfl za0))) (zab rfl rfl (zau rfl rfl rfl) (zbh rfl rfl) (zbe rfl (zbe rfl (zaj (zak ?_)))))))))))
   (refine zbd ?_; repeat (first | refine zbn ?_ | refine zbo ?_))
   exact zcb (.inr rfl) rfl (congrArg eB (hf (fun h => absurd h.2.2.2.2 (by decide))).symm)
  ·
   refine zae (zbq zdo rfl (zbk ta3 rfl (zab rfl rfl (zaa rfl) (zc7 h3 (zbr rfl rfl rfl)) (zbe rfl (zbq zdo rfl (zbk ta3 rfl (zab rfl rfl (zau rfl rfl rfl) (zck (by omega) (zb6 rfl rfl rfl)) (zbe rfl (zbe rfl (zbq tf24_1 rfl (zbk ta22 rfl (zab rfl rfl (zau rfl rfl rfl) (za2 rfl ts22 rfl) (zab rfl rfl (zau rfl rfl rfl) (zck h2 (zbr rfl rfl rfl)) (zbe rfl (zbe rfl (zbq tf24_1 rfl (zbk ta22 rfl (zab rfl rfl (zau rfl rfl rfl) (zav rfl rfl (hT) (zar rfl (zar rfl za0))) ?_))))))))))))))))))
   refine zab rfl rfl (zau rfl rfl rfl) (zbh rfl rfl) (zbe rfl (zbe rfl (zbe rfl (zab rfl rfl (zau rfl rfl rfl) (za2 rfl ts25 rfl) (zab rfl rfl (zau rfl rfl rfl) (zck h4 (zbr rfl rfl rfl)) (zbe rfl (zbe rfl (zbe rfl (zab rfl rfl (zau rfl rfl rfl) (zav rfl rfl (hS) (zar rfl (zar rfl za0))) (zab rfl rfl (zau rfl rfl rfl) (zbh rfl rfl) (zbe rfl (zbe rfl (zaj (zak ?_))))))))))))))
   (refine zbd ?_; repeat (first | refine zbn ?_ | refine zbo ?_))
   exact zcb (.inr rfl) rfl (congrArg eB (hf (fun h => absurd h.2.2.2.2 (by decide))).symm)
 | false =>
  by_cases h3 : n.places ≤ 8
  ·
   refine zae (zbq zdo rfl (zbk ta3 rfl (zab rfl rfl (zaa rfl) (zck h3 (zbr rfl rfl rfl)) (zbe rfl (zbf rfl (zbf rfl (zbf rfl (zbe rfl (zbe rfl (zbq tf24_1 rfl (zbk ta22 rfl (zab rfl rfl (zau rfl rfl rfl) (za2 rfl ts22 rfl) (zab rfl rfl (zau rfl rfl rfl) (zck h2 (zbr rfl rfl rfl)) (zbe rfl (zbe rfl (zbq tf24_1 rfl (zbk ta22 rfl (zab rfl rfl (zau rfl rfl rfl) (zav rfl rfl (hT) (zar rfl (zar rfl za0))) (zab rfl rfl (zau rfl rfl rfl) (zbh rfl rfl) (zbe rfl (zbe rfl ?_)))))))))))))))))))))
   refine zbe rfl (zab rfl rfl (zau rfl rfl rfl) (za2 rfl ts25 rfl) (zab rfl rfl (zau rfl rfl rfl) (zck h4 (zbr rfl rfl rfl)) (zbe rfl (zbe rfl (zbe rfl (zab rfl rfl (zau rfl rfl rfl) (zav rfl rfl (hS) (zar rfl (zar rfl za0))) (zab rfl rfl (zau rfl rfl rfl) (zbh rfl rfl) (zbe rfl (zbe rfl (zaj (zak ?_)))))))))))
   (refine zbd ?_; repeat (first | refine zbn ?_ | refine zbo ?_))
   exact zcb (.inr rfl) rfl (congrArg eB (ht ⟨by omega, by omega, rfl, by omega, rfl⟩).symm)
  ·
   refine zae (zbq zdo rfl (zbk ta3 rfl (zab rfl rfl (zaa rfl) (zc7 h3 (zbr rfl rfl rfl)) (zbe rfl (zbq zdo rfl (zbk ta3 rfl (zab rfl rfl (zau rfl rfl rfl) (zck (by omega) (zb6 rfl rfl rfl)) (zbe rfl (zbe rfl (zbq tf24_1 rfl (zbk ta22 rfl (zab rfl rfl (zau rfl rfl rfl) (za2 rfl ts22 rfl) (zab rfl rfl (zau rfl rfl rfl) (zck h2 (zbr rfl rfl rfl)) (zbe rfl (zbe rfl (zbq tf24_1 rfl (zbk ta22 rfl (zab rfl rfl (zau rfl rfl rfl) (zav rfl rfl (hT) (zar rfl (zar rfl za0))) ?_))))))))))))))))))
   refine zab rfl rfl (zau rfl rfl rfl) (zbh rfl rfl) (zbe rfl (zbe rfl (zbe rfl (zab rfl rfl (zau rfl rfl rfl) (za2 rfl ts25 rfl) (zab rfl rfl (zau rfl rfl rfl) (zck h4 (zbr rfl rfl rfl)) (zbe rfl (zbe rfl (zbe rfl (zab rfl rfl (zau rfl rfl rfl) (zav rfl rfl (hS) (zar rfl (zar rfl za0))) (zab rfl rfl (zau rfl rfl rfl) (zbh rfl rfl) (zbe rfl (zbe rfl (zaj (zak ?_))))))))))))))
   (refine zbd ?_; repeat (first | refine zbn ?_ | refine zbo ?_))
   exact zcb (.inr rfl) rfl (congrArg eB (ht ⟨by omega, by omega, rfl, by omega, rfl⟩).symm)
def fewB (p : Prf) : Bool := if p.st.length ≤ 80 ∧ p.pots.length ≤ 90 ∧ p.duals.length ≤ 30 ∧ p.st.any bigL = false then true else false
theorem few_pf (p : Prf) : Pure P 11 [ePf p] (eB (fewB p)) := by
 have hT := containsFIs_pf (P := P) 46 [] bigL p.st (fun a => lo_I) (.fn _ _ zap) (fun a _ => bigL_pf a)
 have ht : (p.st.length ≤ 80 ∧ p.pots.length ≤ 90 ∧ p.duals.length ≤ 30 ∧ p.st.any bigL = false) → fewB p = true := fun h => if_pos h
 have hf : ¬ (p.st.length ≤ 80 ∧ p.pots.length ≤ 90 ∧ p.duals.length ≤ 30 ∧ p.st.any bigL = false) → fewB p = false := fun h => if_neg h
 generalize p.st.any bigL = b1 at hT ht hf
 generalize fewB p = R at ht hf ⊢
 have hlp : Lo 0 (.ref (ePf p).cells) := lo_zero p
 refine zbb (by rw [IsP.eq (P := P)]; exact Tryz.func11) rfl rfl rfl rfl rfl (zah (lo_Pf p) zap) (.s _) (by simp only [argF]; rfl) ?_
 refine zaf (zae (zab rfl rfl (zaa rfl) (zb1 rfl rfl rfl rfl) ?_))
 refine za5 (zbv (id := 0) rfl) (za5 (zcf (d := 1) rfl rfl rfl) ?_)
 refine zbe rfl (zaj (zaf ?_))
 by_cases h1 : (p.st.length : Int) ≤ 80
 rotate_left 1
 ·
  refine zae (zbq za9 rfl (zbk ta28 rfl (zab rfl rfl (zaa rfl) (za2 rfl ts28 rfl) (zab rfl rfl (zaa rfl) (zc7 h1 (zbr rfl rfl rfl)) (zbe rfl (zbf rfl (zbf rfl (zbf rfl (zbf rfl (zbe rfl (zbe rfl (zbf rfl (zbf rfl (zbf rfl (zbf rfl (zbe rfl (zbe rfl (zbf rfl (zbf rfl (zbf rfl (zbf rfl (zbe rfl (zbe rfl (zaj (zak ?_)))))))))))))))))))))))))
  (refine zbd ?_; repeat (first | refine zbn ?_ | refine zbo ?_))
  exact zcb (.inr rfl) rfl (congrArg eB (hf (fun h => h1 (by omega))).symm)
 by_cases h2 : (p.pots.length : Int) ≤ 90
 rotate_left 1
 ·
  refine zae (zbq za9 rfl (zbk ta28 rfl (zab rfl rfl (zaa rfl) (za2 rfl ts28 rfl) (zab rfl rfl (zaa rfl) (zck h1 (zbr rfl rfl rfl)) (zbe rfl (zbq zdl rfl (zbk ta29 rfl (zab rfl rfl (zau rfl rfl rfl) (za2 rfl ts29 rfl) (zab rfl rfl (zau rfl rfl rfl) (zc7 h2 (zbr rfl rfl rfl)) (zbe rfl (zbe rfl (zbf rfl (zbf rfl (zbf rfl (zbf rfl (zbe rfl (zbe rfl (zbf rfl (zbf rfl (zbf rfl (zbf rfl (zbe rfl (zbe rfl (zaj (zak ?_)))))))))))))))))))))))))
  (refine zbd ?_; repeat (first | refine zbn ?_ | refine zbo ?_))
  exact zcb (.inr rfl) rfl (congrArg eB (hf (fun h => h2 (by omega))).symm)
 by_cases h3 : (p.duals.length : Int) ≤ 30
 rotate_left 1
 ·
  refine zae (zbq za9 rfl (zbk ta28 rfl (zab rfl rfl (zaa rfl) (za2 rfl ts28 rfl) (zab rfl rfl (zaa rfl) (zck h1 (zbr rfl rfl rfl)) (zbe rfl (zbq zdl rfl (zbk ta29 rfl (zab rfl rfl (zau rfl rfl rfl) (za2 rfl ts29 rfl) (zab rfl rfl (zau rfl rfl rfl) (zck h2 (zbr rfl rfl rfl)) (zbe rfl (zbe rfl (zbq tf32_2 rfl (zbk ta30 rfl (zab rfl rfl (zau rfl rfl rfl) (za2 rfl ts30 rfl) (zab rfl rfl (zau rfl rfl rfl) (zc7 h3 (zbr rfl rfl rfl)) (zbe rfl (zbe rfl (zbf rfl (zbf rfl ?_)))))))))))))))))))
  refine zbf rfl (zbf rfl (zbe rfl (zbe rfl (zaj (zak ?_)))))
  (refine zbd ?_; repeat (first | refine zbn ?_ | refine zbo ?_))
  exact zcb (.inr rfl) rfl (congrArg eB (hf (fun h => h3 (by omega))).symm)
 cases b1 with
 | true =>
  refine zae (zbq za9 rfl (zbk ta28 rfl (zab rfl rfl (zaa rfl) (za2 rfl ts28 rfl) (zab rfl rfl (zaa rfl) (zck h1 (zbr rfl rfl rfl)) (zbe rfl (zbq zdl rfl (zbk ta29 rfl (zab rfl rfl (zau rfl rfl rfl) (za2 rfl ts29 rfl) (zab rfl rfl (zau rfl rfl rfl) (zck h2 (zbr rfl rfl rfl)) (zbe rfl (zbe rfl (zbq tf32_2 rfl (zbk ta30 rfl (zab rfl rfl (zau rfl rfl rfl) (za2 rfl ts30 rfl) (zab rfl rfl (zau rfl rfl rfl) (zck h3 (zbr rfl rfl rfl)) (zbe rfl (zbe rfl (zbq za9 rfl ?_))))))))))))))))))
  refine zbk ta28 rfl (zab rfl rfl (zau rfl rfl rfl) (zav rfl rfl (hT) (zar rfl (zar rfl za0))) (zab rfl rfl (zau rfl rfl rfl) (zbh rfl rfl) (zbe rfl (zbe rfl (zaj (zak ?_))))))
  (refine zbd ?_; repeat (first | refine zbn ?_ | refine zbo ?_))
  exact zcb (.inr rfl) rfl (congrArg eB (hf (fun h => absurd h.2.2.2 (by decide))).symm)
 | false =>
  refine zae (zbq za9 rfl (zbk ta28 rfl (zab rfl rfl (zaa rfl) (za2 rfl ts28 rfl) (zab rfl rfl (zaa rfl) (zck h1 (zbr rfl rfl rfl)) (zbe rfl (zbq zdl rfl (zbk ta29 rfl (zab rfl rfl (zau rfl rfl rfl) (za2 rfl ts29 rfl) (zab rfl rfl (zau rfl rfl rfl) (zck h2 (zbr rfl rfl rfl)) (zbe rfl (zbe rfl (zbq tf32_2 rfl (zbk ta30 rfl (zab rfl rfl (zau rfl rfl rfl) (za2 rfl ts30 rfl) (zab rfl rfl (zau rfl rfl rfl) (zck h3 (zbr rfl rfl rfl)) (zbe rfl (zbe rfl (zbq za9 rfl ?_))))))))))))))))))
  refine zbk ta28 rfl (zab rfl rfl (zau rfl rfl rfl) (zav rfl rfl (hT) (zar rfl (zar rfl za0))) (zab rfl rfl (zau rfl rfl rfl) (zbh rfl rfl) (zbe rfl (zbe rfl (zaj (zak ?_))))))
  (refine zbd ?_; repeat (first | refine zbn ?_ | refine zbo ?_))
  exact zcb (.inr rfl) rfl (congrArg eB (ht ⟨by omega, by omega, by omega, rfl⟩).symm)
theorem none_pf : Pure P 22 [ePf zPf] (eB true) := by
 refine zbb (by rw [IsP.eq (P := P)]; exact Tryz.func22) rfl rfl rfl rfl rfl (zah (lo_Pf zPf) zap) (.s _) (by simp only [argF]; rfl) ?_
 refine zaf (zae (zab rfl rfl (zaa rfl) (zb1 rfl rfl rfl rfl) ?_))
 refine za5 (zbv (id := 0) rfl) (za5 (zcf (d := 1) rfl rfl rfl) ?_)
 refine zbe rfl (zaj (zaf (zae (zbq za9 rfl (zbk ta28 rfl (zab rfl rfl (zaa rfl) (za2 rfl ts28 rfl) (zab rfl rfl (zaa rfl) (zck rfl (does_eql rfl rfl rfl)) (zbe rfl (zbq zdl rfl (zbk ta29 rfl (zab rfl rfl (zau rfl rfl rfl) (za2 rfl ts29 rfl) (zab rfl rfl (zau rfl rfl rfl) (zck rfl (does_eql rfl rfl rfl)) (zbe rfl (zbe rfl (zbq tf32_2 rfl (zbk ta30 rfl (zab rfl rfl (zau rfl rfl rfl) (za2 rfl ts30 rfl) (zab rfl rfl (zau rfl rfl rfl) (zck rfl (does_eql rfl rfl rfl)) (zbe rfl ?_)))))))))))))))))))
 refine zbe rfl (zaj (zak ?_))
 (refine zbd ?_; repeat (first | refine zbn ?_ | refine zbo ?_))
 exact zcb (.inr rfl) rfl rfl
end Go.Proofs.YtjhdcgaiccnmeaaGreatDoor.Aw
end
