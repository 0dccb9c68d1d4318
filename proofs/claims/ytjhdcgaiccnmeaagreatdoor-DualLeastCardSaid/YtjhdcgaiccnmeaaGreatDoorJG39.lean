import Derived.Test.YtjhdcgaiccnmeaaGreatDoorJG37
set_option linter.unusedSimpArgs false
set_option linter.unusedVariables false
set_option linter.unusedSectionVars false
section
namespace Go.Proofs.YtjhdcgaiccnmeaaGreatDoor.Aw
open Go.RowKit Dl
theorem bound_way {n : Net} {w : List ByteArray} {c : Cst} {p : Prf} {cost : Int} {l : List Stp} (h : checkE n w c cost p = true) (hk : ∀ m ∈ l, kindB m.kind = true) (hr : runA n w (zb7 n w).1 l = some (endE n w).1) : cost ≤ sumC c l := by
 unfold checkE at h
 simp only [Bool.and_eq_true, decide_eq_true_eq] at h
 obtain ⟨hc, hvd, hw, he, hfl⟩ := h
 have hv := vdB_iff.1 hvd
 have hS := seen_of hw
 have hso : okS n w (zb7 n w).1 := hv.start_ok'
 have hway := pot_way hv hc hS hso hk hr
 rw [pot_end hv hS] at hway
 have hok := (hv.pot hso).2 he
 have hd := (okB_d hok).2.1
 have hpv := pot_val hv hso he
 have hfl2 := (floorN_le hd cost).1 hfl
 have hcv : ((cost : Int) : Rat) ≤ val (frE (potX n w p (zb7 n w).1)) := by
  have e1 : (0 : Rat) < ((frE (potX n w p (zb7 n w).1)).d : Rat) := Rat.intCast_pos.2 (by omega)
  have e2 := cast_ne (show 0 < (frE (potX n w p (zb7 n w).1)).d by omega)
  refine Rat.le_of_mul_le_mul_right (c := ((frE (potX n w p (zb7 n w).1)).d : Rat)) ?_ e1
  have e3 : val (frE (potX n w p (zb7 n w).1)) * ((frE (potX n w p (zb7 n w).1)).d : Rat) = ((frE (potX n w p (zb7 n w).1)).n : Rat) := by unfold val; grind
  rw [e3]
  exact_mod_cast hfl2
 rw [hpv] at hcv
 have : ((cost : Int) : Rat) ≤ ((sumC c l : Int) : Rat) := by grind
 exact_mod_cast this
theorem way_steps {n : Net} {w : List ByteArray} {c : Cst} {most : Int} {g : Gr} (hB : BI (nxD n w c) (zb7 n w).1 most (okS n w) g) {t k : Nat} {d : Int} (h : Dl.Way g.ed t k d) : ∃ l, (∀ m ∈ l, kindB m.kind = true) ∧ runA n w (gti g.st k) l = some (gti g.st t) ∧ sumC c l = d := by
 induction h with
 | nil => exact ⟨[], by simp, rfl, rfl⟩
 | cons e d he _ ih =>
  obtain ⟨l, h1, h2, h3⟩ := ih
  obtain ⟨ha, hb, _, _, hn⟩ := hB.eok e he
  have hok := hB.ok _ (gti_mem ha)
  unfold nxD at hn
  obtain ⟨m, hm, hme⟩ := List.mem_map.1 hn
  injection hme with e1 e2
  obtain ⟨g1, g2, g3⟩ := moves_mem hok hm
  refine ⟨m :: l, fun x hx => ?_, ?_, ?_⟩
  ·
   rcases List.mem_cons.1 hx with rfl | hx
   ·
    exact g2
   ·
    exact h1 x hx
  ·
   rw [runA, ← ApplyE_of hok g2, if_pos g1, e1]
   exact h2
  ·
   show zbm c m.kind + sumC c l = d + e.c
   rw [h3, e2]; omega
def runD (n : Net) : List Int → List Int → Option (List Int)
 | m, [] => some m
 | m, t :: ts => if (fireE n m t).2 = 0 then runD n (fireE n m t).1 ts else none
def lblD (n : Net) : List Int → List ByteArray
 | [] => []
 | t :: ts => if (gti n.trans t.toNat).label.toList.isEmpty then lblD n ts else (gti n.trans t.toNat).label :: lblD n ts
def algD (n : Net) : List Int → List Stp
 | [] => []
 | t :: ts => (if (gti n.trans t.toNat).label.toList.isEmpty then ⟨4, t, (gti n.trans t.toNat).label⟩ else ⟨1, t, (gti n.trans t.toNat).label⟩) :: algD n ts
theorem algD_kind {n : Net} : ∀ {l : List Int}, ∀ m ∈ algD n l, kindB m.kind = true
 | [], m, h => by cases h
 | t :: ts, m, h => by
  unfold algD at h
  rcases List.mem_cons.1 h with h | h
  ·
   rw [h]; split <;> rfl
  ·
   exact algD_kind m h
theorem lblD_len (n : Net) : ∀ l : List Int, (lblD n l).length ≤ l.length
 | [] => Nat.le_refl _
 | t :: ts => by
  have := lblD_len n ts
  unfold lblD
  split
  ·
   simp; omega
  ·
   simp; omega
theorem algD_sum (n : Net) (c : Cst) : ∀ l : List Int, sumC c (algD n l) = ((l.length : Int) - (lblD n l).length) * c.silent
 | [] => by simp [algD, lblD, sumC]
 | t :: ts => by
  have ih := algD_sum n c ts
  unfold algD lblD
  split
  ·
   show zbm c 4 + sumC c (algD n ts) = _
   rw [ih, show zbm c 4 = c.silent from rfl, List.length_cons]
   have e : (((ts.length + 1 : Nat) : Int) - ((lblD n ts).length : Int)) = 1 + ((ts.length : Int) - (lblD n ts).length) := by omega
   rw [e, Int.add_mul, Int.one_mul]
  ·
   show zbm c 1 + sumC c (algD n ts) = _
   rw [ih, show zbm c 1 = 0 from rfl, List.length_cons, List.length_cons]
   have e : (((ts.length + 1 : Nat) : Int) - (((lblD n ts).length + 1 : Nat) : Int)) = (ts.length : Int) - (lblD n ts).length := by omega
   rw [e]; omega
theorem fire_rng {n : Net} {m : List Int} {t : Int} (h : (fireE n m t).2 = 0) : ¬ (t < 0 ∨ (n.trans.length : Int) ≤ t) := fun hc => by
 unfold fireE at h
 rw [if_pos hc] at h
 cases h
theorem algD_run {n : Net} {w : List ByteArray} : ∀ {run m x : List Int} {i : Nat}, zcu n m = true → w.drop i = lblD n run → i ≤ w.length → runD n m run = some x → runA n w ((i : Int) :: m) (algD n run) = some ((w.length : Int) :: x)
 | [], m, x, i, hm, hw, hi, h => by
  cases h
  have : w.length - i = 0 := by
   have := congrArg List.length hw
   simpa [lblD] using this
  show some ((i : Int) :: m) = _
  rw [show i = w.length by omega]
 | t :: ts, m, x, i, hm, hw, hi, h => by
  rw [runD] at h
  split at h
  ·
   rename_i h0
   have hr := fire_rng h0
   have hm2 := fireE_mark hm h0
   unfold algD lblD at *
   rw [runA]
   cases hl : (gti n.trans t.toNat).label.toList.isEmpty with
   | true =>
    rw [hl, if_pos rfl] at hw
    rw [if_pos rfl]
    have e : applyE n w ((i : Int) :: m) ⟨4, t, (gti n.trans t.toNat).label⟩ = ((i : Int) :: (fireE n m t).1, 0) := by
     have hF : FireE n m t = fireE n m t := FireE_ofD hm t
     unfold applyE
     rw [if_neg (show ¬ (4 : Int) = 2 by decide), if_neg hr, if_neg (by rw [hl]; rintro (h | h); exact h rfl; exact h rfl), if_neg (by rintro ⟨h, _⟩; exact absurd (show (4 : Int) = 1 from h) (by decide))]
     show (if (FireE n m t).2 ≠ 0 then _ else ((if (4 : Int) = 1 then _ else (i : Int)) :: (FireE n m t).1, (0 : Int))) = _
     rw [hF, if_neg (fun h => h h0), if_neg (by decide)]
    rw [e]
    exact algD_run hm2 hw hi h
   | false =>
    rw [hl, if_neg (by decide)] at hw
    rw [if_neg (show ¬ (false = true) by decide)]
    have hlt : i < w.length := by
     have := congrArg List.length hw
     simp at this; omega
    have hg : gti w i = (gti n.trans t.toNat).label := by
     have := congrArg (·[0]?) hw
     simp only [List.getElem?_drop, List.getElem?_cons_zero, Nat.add_zero] at this
     exact zdm this
    have hat : atB w (i : Int) (gti n.trans t.toNat).label = true := by
     unfold atB
     simp only [Bool.and_eq_true, decide_eq_true_eq]
     first | exact ⟨by omega, by rw [Int.toNat_natCast]; exact hg⟩ | exact ⟨⟨by omega, by omega⟩, by rw [Int.toNat_natCast]; exact hg⟩
    have e : applyE n w ((i : Int) :: m) ⟨1, t, (gti n.trans t.toNat).label⟩ = (((i + 1 : Nat) : Int) :: (fireE n m t).1, 0) := by
     have hF : FireE n m t = fireE n m t := FireE_ofD hm t
     unfold applyE
     rw [if_neg (show ¬ (1 : Int) = 2 by decide), if_neg hr, if_neg (by rw [hl]; rintro (h | h); exact h rfl; exact h rfl), if_neg (by rintro ⟨_, h⟩; rw [show gti ((i : Int) :: m) 0 = (i : Int) from rfl, hat] at h; cases h)]
     show (if (FireE n m t).2 ≠ 0 then _ else ((if (1 : Int) = 1 then (i : Int) + 1 else _) :: (FireE n m t).1, (0 : Int))) = _
     rw [hF, if_neg (fun h => h h0), if_pos rfl, show ((i + 1 : Nat) : Int) = (i : Int) + 1 by omega]
    rw [e]
    refine algD_run hm2 ?_ (by omega) h
    rw [← List.tail_drop, hw]; rfl
  ·
   cases h
theorem run_bound {n : Net} {c : Cst} {p : Prf} {k : Int} {run : List Int} (h : checkE n (lblD n run) c k p = true) (hr : runD n (oneL n.places.toNat n.source) run = some (oneL n.places.toNat n.sink)) : k ≤ ((run.length : Int) - (lblD n run).length) * c.silent := by
 have h' := h
 unfold checkE at h'
 simp only [Bool.and_eq_true] at h'
 have hv := vdB_iff.1 h'.2.1
 obtain ⟨hvn, hww, hse, hee, _, _⟩ := start_ok (n := n) (w := lblD n run) (by unfold zb7; rw [hv.net, hv.word]; rfl)
 have h1 := algD_run (n := n) (w := lblD n run) (run := run) (i := 0) (m := oneL n.places.toNat n.source) (by unfold zcu; rw [hvn, oneL_mark n.source (za8 hvn).1]; rfl) rfl (Nat.zero_le _) hr
 rw [← algD_sum]
 exact bound_way h algD_kind (by rw [hse, hee]; exact h1)
theorem least_top {n : Net} {w : List ByteArray} {c : Cst} {most : Int} (hc : vcB c = true) (hs2 : (zb7 n w).2 = 0) (hm : 1 ≤ most ∧ most ≤ 2000) {k : Int} {p q : Prf} (h : proveE n w c most = (k, p, 0)) : PvOk n w c k p ∧ checkE n w c (k + 1) q = false := by
 obtain ⟨hvn, hww, hse, hee, hsk, hek⟩ := start_ok hs2
 have hp : proveE n w c most = match bfsD (nxD n w c) most (most.toNat + 1) 0 ⟨[(zb7 n w).1], []⟩ with
   | none => (0, zPf, 13)
   | some g => finD n w g := by
  unfold proveE
  rw [if_neg (by rintro (h | h); exact h hs2; rw [hc] at h; cases h), if_neg (by omega)]
  rfl
 rw [hp] at h
 have hI0 : BI (nxD n w c) (zb7 n w).1 most (okS n w) ⟨[(zb7 n w).1], []⟩ := .init hsk (by omega)
 have hbk := fun g' => bfs_ok (nxD_ok (n := n) (w := w) hc) (most.toNat + 1) 0 _ g' hI0 (Nat.zero_le _) (fun i' h => by omega) (by simp) (by omega)
 generalize bfsD (nxD n w c) most (most.toNat + 1) 0 ⟨[(zb7 n w).1], []⟩ = R at hbk h
 cases R with
 | none => injection h with _ h; injection h with _ h; cases h
 | some g =>
  obtain ⟨hB, hC, _⟩ := hbk g rfl
  replace h : finD n w g = (k, p, 0) := h
  unfold finD at h
  by_cases hf : zc2 g.st (endE n w).1 < 0
  ·
   rw [if_pos hf] at h
   injection h with _ h; injection h with _ h; cases h
  ·
   rw [if_neg hf] at h
   injection h with e1 e2
   injection e2 with e2 _
   obtain ⟨h1, _⟩ := prv_ok hc hs2 hm.2 hB hC hf
   rw [e1, e2] at h1
   refine ⟨h1, ?_⟩
   obtain ⟨p1, p2, p3⟩ := idx_old hf
   have hend : gti g.st (idx g.st (endE n w).1) = (endE n w).1 := zdm p1
   have h0 : gti g.st 0 = (zb7 n w).1 := zdm hB.h0
   have hEO : EOk g.st.length g.ed := fun e he => ⟨(hB.eok e he).1, (hB.eok e he).2.1, (hB.eok e he).2.2.1⟩
   have hpos : 0 < g.st.length := (List.getElem?_eq_some_iff.1 hB.h0).1
   obtain ⟨d, hd1, hd2⟩ := hB.rch _ p2
   have hle := hB.le
   have hk := rel_le hEO (by omega : (0 : Int) ≤ 1073741824) p2 (show Dl.Way g.ed (idx g.st (endE n w).1) 0 d from hd2)
   have hkw := (rel_way hEO (by omega : (0 : Int) ≤ 1073741824) p2 hpos).resolve_left (by omega)
   have e3 : gti (relW g.ed ((List.replicate g.st.length 1073741824).set (idx g.st (endE n w).1) 0)) 0 = k := e1
   rw [e3] at hkw
   obtain ⟨l, g1, g2, g3⟩ := way_steps hB hkw
   rw [h0, hend] at g2
   cases hq : checkE n w c (k + 1) q with
   | false => rfl
   | true =>
    have := bound_way hq g1 g2
    omega
end Go.Proofs.YtjhdcgaiccnmeaaGreatDoor.Aw
end
