import Derived.Test.YtjhdcgaiccnmeaaGreatDoorJG9
import Derived.StillTailTactics
import Derived.Test.YtjhdcgaiccnmeaaGreatDoorJG5
import Derived.Test.YtjhdcgaiccnmeaaGreatDoorJG6
set_option linter.unusedSimpArgs false
set_option linter.unusedVariables false
set_option linter.unusedSectionVars false
section
namespace Go.Proofs.YtjhdcgaiccnmeaaGreatDoor
open Go.RowKit
theorem placesB_lt {n : Int} {l : List Int} (h : zch n l = true) : ∀ (j i : Nat), i < j → j < l.length → gti l i < gti l j
 | 0, i, hij, _ => by omega
 | j + 1, i, hij, hj => by
  have hb : ¬ badP n l (j + 1) := fun hb => by rw [placesB_false hj hb] at h; cases h
  unfold badP at hb
  simp only [Nat.add_sub_cancel] at hb
  by_cases hji : i = j
  ·
   subst hji; omega
  ·
   have := placesB_lt h j i (by omega) (by omega)
   omega
theorem placesB_tail {n : Int} {p : Int} {ps : List Int} (h : zch n (p :: ps) = true) : zch n ps = true := by
 apply placesB_true
 intro k hk
 have hb : ¬ badP n (p :: ps) (k + 1) := fun hb => by rw [placesB_false (by simp; omega) hb] at h; cases h
 unfold badP at hb ⊢
 have e1 : gti (p :: ps) (k + 1) = gti ps k := by simp [gti]
 rw [e1] at hb
 rcases Nat.eq_zero_or_pos k with rfl | hk0
 ·
  omega
 ·
  obtain ⟨j, rfl⟩ : ∃ j, k = j + 1 := ⟨k - 1, by omega⟩
  have e2 : gti (p :: ps) (j + 1) = gti ps j := by simp [gti]
  simp only [Nat.add_sub_cancel] at hb ⊢
  rw [e2] at hb
  omega
theorem placesB_head {n : Int} {p : Int} {ps : List Int} (h : zch n (p :: ps) = true) : 0 ≤ p ∧ p < n ∧ ∀ q ∈ ps, q.toNat ≠ p.toNat := by
 have h0 := placesB_at h (k := 0) (by simp)
 have e : gti (p :: ps) 0 = p := by simp [gti]
 rw [e] at h0
 refine ⟨h0.1, h0.2.1, fun q hq => ?_⟩
 obtain ⟨k, hk, rfl⟩ := mem_gti hq
 have := placesB_lt h (k + 1) 0 (by omega) (by simp; omega)
 have e1 : gti (p :: ps) (k + 1) = gti ps k := by simp [gti]
 rw [e, e1] at this
 omega
theorem decL_nonneg {n : Int} : ∀ {ps m : List Int}, zch n ps = true → (∀ i, 0 ≤ gti m i) → (∀ p ∈ ps, 1 ≤ gti m p.toNat) → ∀ i, 0 ≤ gti (decL ps m) i
 | [], m, _, h, _, i => h i
 | p :: ps, m, hp, h, h1, i => by
  obtain ⟨hp0, hp1, hpn⟩ := placesB_head hp
  refine decL_nonneg (placesB_tail hp) (fun j => ?_) (fun q hq => ?_) i
  ·
   rw [gti_set]
   have := h j
   have := h1 p (List.mem_cons_self ..)
   split <;> omega
  ·
   rw [gti_set, if_neg (fun e => hpn q hq e.1.symm)]
   exact h1 q (List.mem_cons_of_mem _ hq)
theorem incL_nonneg : ∀ {ps m : List Int}, (∀ i, 0 ≤ gti m i) → ∀ i, 0 ≤ gti (incL ps m) i
 | [], m, h, i => h i
 | p :: ps, m, h, i => by
  rw [incL]
  refine incL_nonneg (fun j => ?_) i
  rw [gti_set]
  have := h j
  have := h p.toNat
  split <;> omega
theorem enB_at {t : Tr} {m : List Int} (h : enB t m = true) {p : Int} (hp : p ∈ t.inn) : gti m p.toNat ≠ 0 := by
 unfold enB at h
 simp only [Bool.not_eq_true', List.any_eq_false, decide_eq_true_eq] at h
 exact h p hp
theorem all01_iff : ∀ {m : List Int}, (∀ i, 0 ≤ gti m i) → all01 m = !m.any fun y => decide (100 < y)
 | [], _ => rfl
 | x :: m, h => by
  have h0 : 0 ≤ x := by have := h 0; simpa [gti] using this
  have := all01_iff (m := m) (fun i => by have := h (i + 1); simpa [gti] using this)
  simp only [all01, List.any_cons]
  rw [this]
  grind
theorem fire_mark {n : Net} {m : List Int} {t : Tr} (hm : mark2B n m = true) (ht : zch n.places t.inn = true) (he : enB t m = true) :
  mark2B n (incL t.out (decL t.inn m)) = !(incL t.out (decL t.inn m)).any fun y => decide (100 < y) := by
 have hnn : ∀ i, 0 ≤ gti (incL t.out (decL t.inn m)) i := incL_nonneg (decL_nonneg ht (fun i => (mark2B_at hm i).1) (fun p hp => by
  have := enB_at he hp
  have := (mark2B_at hm p.toNat).1
  omega))
 unfold mark2B
 rw [if_neg (by rw [incL_len, decL_len]; have := mark2B_len hm; omega), all01_iff hnn]
theorem fireE_mark {n : Net} {m : List Int} {t : Int} (hm : zcu n m = true) (h : (fireE n m t).2 = 0) : zcu n (fireE n m t).1 = true := by
 unfold zcu at hm ⊢
 simp only [Bool.and_eq_true] at hm ⊢
 refine ⟨hm.1, ?_⟩
 unfold fireE at h ⊢
 split
 ·
  rename_i h1; rw [if_pos h1] at h; simp at h
 ·
  rename_i h1
  rw [if_neg h1] at h
  split
  ·
   rename_i h2
   rw [if_pos h2] at h
   split
   ·
    rename_i h3; rw [if_pos h3] at h; simp at h
   ·
    rename_i h3
    have htr := validB_tr hm.1 (gti_mem (l := n.trans) (k := t.toNat) (by omega))
    rw [fire_mark hm.2 htr.2.1 h2]
    simpa using h3
  ·
   rename_i h2; rw [if_neg h2] at h; simp at h
def FireE (n : Net) (m : List Int) (t : Int) : List Int × Int := if zcu n m then fireE n m t else ([], 1)
set_option maxHeartbeats 1000000 in
theorem Fire_any (n : Net) (m : List Int) (t : Int) (vt v : Value) (lo hi lo' hi' : Nat) (w : World) (hv : RdT w lo hi vt n.trans) (hm : RdI w lo' hi' v m) :
  Calls Tryz.prog 115 #[netV n vt, v, .int .i64 t] w (RetI w (FireE n m t)) := by
 obtain ⟨A, c, rfl, hc, hmm⟩ := hv.form
 obtain ⟨A2, c2, rfl, hc2, hmm2⟩ := hm.form
 have HV := Lib.hid hv
 have HW := Lib.hid hm
 clear hv hm
 cases hvb : zcu n m <;> have HVB := Lib.hid hvb <;> clear hvb
 all_goals
  refine zax fun R hR => ?_
  have HR := Lib.hid hR
  clear hR
  go_enter Tryz.func115, Tryz.ntmps115
  have M : Hid (Mem [Loc.k4 w.heap.size (.int .i64 n.places) (.slice A n.trans.length c) (.int .i64 n.source) (.int .i64 n.sink), Loc.bl w.heap.size w] (w.alloc (.cells #[.int .i64 n.places, .slice A n.trans.length c, .int .i64 n.source, .int .i64 n.sink] 24))) := Lib.hid ⟨K4.new w _ _ _ _ _, ⟨(Below.refl _ _).alloc (Nat.le_refl _) _, by simp⟩, True.intro⟩
  have hk4 := M.out.1
  go_wp2_with (first
   | (go_at_call 91; refine (marking_is HVB.out _ _ lo hi lo' hi' _ (HV.out.after M.out.2.1.1) (HW.out.after M.out.2.1.1)).mono ?_; rintro e w1 ⟨rfl, hb1⟩; replace M := Lib.hid (M.out.below hb1); clear hb1; replace hk4 := M.out.1)
   | (go_at_call 93; refine (fire_any n m t _ _ lo hi lo' hi' _ (HV.out.after M.out.2.1.1) (HW.out.after M.out.2.1.1) HVB.out).mono ?_; rintro e w2 ⟨A1, c1, rfl, hr1, hb1⟩; have HR1 := Lib.hid hr1; have hws := M.out.2.1.2; replace M := Lib.hid (M.out.below hb1); clear hb1 hr1))
 ·
  exact HR.out _ _ (RetI.nil (by rw [FireE, HVB.out]; rfl) M.out.2.1.1)
 ·
  exact HR.out _ _ (RetI.mk (by rw [FireE, HVB.out]; rfl) rfl HR1.out hws (Nat.le_refl _) M.out.2.1.1)
end Go.Proofs.YtjhdcgaiccnmeaaGreatDoor
end
section
namespace Go.Proofs.YtjhdcgaiccnmeaaGreatDoor
open Go.RowKit
theorem Mem.lit1 {L : List Loc} {w : World} (hM : Mem L w) (x : Int) : Mem (Loc.owI w.heap.size (w.heap.size + 1) (.slice (some ⟨w.heap.size, 0, none⟩) 1 1) [x] :: L) (w.alloc (.cells #[.int .i64 x] 3)) :=
 ⟨Own.lit w 3 w.heap.size [x] #[.int .i64 x] 1 rfl rfl (Nat.le_refl _) (by decide) (fun _ => rfl), hM.alloc _⟩
end Go.Proofs.YtjhdcgaiccnmeaaGreatDoor
end
section
namespace Go.Proofs.YtjhdcgaiccnmeaaGreatDoor
open Go.RowKit
def RetL (w : World) (l : List Int) (e : Ending) (w' : World) : Prop :=
 ∃ A c, e = .returned (.slice A l.length c) ∧ RdI w' w.heap.size w'.heap.size (.slice A l.length c) l ∧ Below w.heap.size w w'
theorem RetL.mk {w w' : World} {l : List Int} {n k : Nat} {A : Option Addr} (hn : n = l.length) {lo hi : Nat} (hr : RdI w' lo hi (.slice A n k) l) (hlo : w.heap.size ≤ lo) (hhi : hi ≤ w'.heap.size) (hb : Below w.heap.size w w') : RetL w l (.returned (.slice A n k)) w' := by
 subst hn
 exact ⟨A, k, rfl, hr.mono hlo hhi, hb⟩
def oneR (p : Int) (k : Nat) : List Int := (List.range k).map fun (i : Nat) => if (i : Int) = p then 1 else 0
theorem oneR_succ (p : Int) (k : Nat) : oneR p (k + 1) = oneR p k ++ [if (k : Int) = p then 1 else 0] := by simp [oneR, List.range_succ]
theorem oneR_len (p : Int) (k : Nat) : (oneR p k).length = k := by simp [oneR]
theorem oneR_eq {p : Int} {k : Nat} (h0 : 0 ≤ p) : oneR p k = oneL k p := by
 obtain ⟨q, rfl⟩ := Int.eq_ofNat_of_zero_le h0
 unfold oneR oneL
 apply List.ext_getElem?
 intro i
 rw [List.getElem?_set, Int.toNat_natCast]
 by_cases hi : i < k
 ·
  by_cases hq : q = i
  ·
   subst hq; simp [hi]
  ·
   have : ¬ (i : Int) = q := by omega
   simp [hi, hq, this]
 ·
  by_cases hq : q = i
  ·
   subst hq; simp [hi]
  ·
   simp [hi, hq]
set_option maxHeartbeats 1000000 in
theorem r1_any (n : Net) (p : Int) (np : Nat) (vt : Value) (w : World) (hnp : n.places = np) (h40 : np ≤ 40) (hp : 0 ≤ p) :
  Calls Tryz.prog 136 #[netV n vt, .int .i64 p] w (RetL w (oneL np p)) := by
 have HNP := Lib.hid hnp
 have HE := Lib.hid (oneR_eq (k := np) hp)
 clear hnp
 refine zax fun R hR => ?_
 have HR := Lib.hid hR
 clear hR
 go_enter Tryz.func136, Tryz.ntmps136
 have M : Hid (Mem [Loc.k4 w.heap.size (.int .i64 n.places) (vt) (.int .i64 n.source) (.int .i64 n.sink), Loc.bl w.heap.size w] (w.alloc (.cells #[.int .i64 n.places, vt, .int .i64 n.source, .int .i64 n.sink] 24))) := Lib.hid ⟨K4.new w _ _ _ _ _, ⟨(Below.refl _ _).alloc (Nat.le_refl _) _, by simp⟩, True.intro⟩
 go_wp2_with fail
 go_loopw [6, 5, 7] (fun v6 v5 _ wr => ∃ (k : Nat) (B : Option Addr) (d hh : Nat), k ≤ np ∧ v6 = .int .i64 k ∧ v5 = .slice B k d ∧ hh ≤ wr.heap.size ∧ Hid (Mem [Loc.owI (w.heap.size + 1) hh (.slice B k d) (oneR p k), Loc.k4 w.heap.size (.int .i64 n.places) (vt) (.int .i64 n.source) (.int .i64 n.sink), Loc.bl w.heap.size w] wr)) (fun v6 _ _ _ => np - (intOf v6).toNat)
 case atStart => exact ⟨0, none, 0, 0, by omega, rfl, rfl, by omega, Lib.hid ⟨Own.nil _ _ _, M.out.1, M.out.2.1, True.intro⟩⟩
 case round =>
  clear M
  obtain ⟨k, B, d, hh, hk, rfl, rfl, hhs, M⟩ := hrel
  have hk4 := M.out.2.1
  have hz := M.out.2.1.2.2.2.2
  by_cases hlt : k < np
  ·
   have hi : (k : Int) < n.places := by have := HNP.out; omega
   have hol := oneR_len p k
   have HOL := Lib.hid hol
   clear hol
   have hsn : ∀ x : Int, x = (if (k : Int) = p then 1 else 0) → Hid (oneR p k ++ [x] = oneR p (k + 1)) := fun x hx => Lib.hid (by rw [oneR_succ, hx])
   have HSN := Lib.hid hsn
   clear hsn
   go_wp2_with (at_builtin; refine wpList_app rfl _ _ rfl ti_int (fun _ => rfl) oneI rfl rfl (M.out.alloc _) (by (repeat' (first | exact True.intro | refine And.intro (fun k hk e => ?_) ?_)) <;> (first | exact e | ((try dsimp only [Loc.c1, Loc.c2, Loc.k1, Loc.k2, Loc.k3, Loc.k4, Loc.k6, Loc.fr, Loc.bl, Loc.own, Loc.sz, Loc.rd, Loc.rdI, Loc.rdS, Loc.rdM, Loc.rdT, Loc.ow, Loc.owI] at hk e) <;> omega))) (RdI.lit1 _ _ _) (by have := HOL.out; simp; omega) (by have := HOL.out; simp; omega) (by simp; omega) ?_; intro A1 c1 w1 hM1 hs1 hch1; rw [HOL.out] at hM1; replace M := Lib.hid hM1; clear hM1 hch1; (try simp only [World.size_alloc] at hs1))
   all_goals (refine ⟨⟨k + 1, A1, c1, _, by omega, by go_num, by simp [HOL.out], Nat.le_refl _, Lib.hid ?_⟩, by simp [intOf]; omega⟩)
   all_goals
    have hM := M.out
    rw [(HSN.out _ (by go_light; grind)).out] at hM
    simpa using hM
  ·
   obtain rfl : k = np := by omega
   have hi : ¬ (k : Int) < n.places := by have := HNP.out; omega
   go_wp2_with fail
   exact HR.out _ _ (RetL.mk (by rw [← HE.out, oneR_len]) (HE.out ▸ M.out.1.rd) (by omega) hhs M.out.2.2.1.1)
set_option maxHeartbeats 400000 in
theorem rFinal_any (n : Net) (np : Nat) (vt : Value) (w : World) (hnp : n.places = np) (h40 : np ≤ 40) (hp : 0 ≤ n.sink) :
  Calls Tryz.prog 107 #[netV n vt] w (RetL w (oneL np n.sink)) := by
 have HC := Lib.hid (fun W => r1_any n n.sink np vt W hnp h40 hp)
 clear hnp hp
 refine zax fun R hR => ?_
 have HR := Lib.hid hR
 clear hR
 go_enter Tryz.func107, Tryz.ntmps107
 have M : Hid (Mem [Loc.k4 w.heap.size (.int .i64 n.places) (vt) (.int .i64 n.source) (.int .i64 n.sink), Loc.bl w.heap.size w] (w.alloc (.cells #[.int .i64 n.places, vt, .int .i64 n.source, .int .i64 n.sink] 24))) := Lib.hid ⟨K4.new w _ _ _ _ _, ⟨(Below.refl _ _).alloc (Nat.le_refl _) _, by simp⟩, True.intro⟩
 go_wp2_with (go_at_call 136; refine (HC.out _).mono ?_; rintro e w1 ⟨A1, c1, rfl, hr1, hb1⟩; have HR1 := Lib.hid hr1; replace M := Lib.hid (M.out.below hb1); clear hb1 hr1)
 exact HR.out _ _ ⟨_, _, rfl, (HR1.out.mono (by simp) (Nat.le_refl _)), M.out.2.1.1⟩
def eqLs {α : Type} [DecidableEq α] : List α → List α → Bool
 | [], [] => true
 | x :: a, y :: b => if x = y then eqLs a b else false
 | _, _ => false
theorem eqLs_iff {α : Type} [DecidableEq α] : ∀ a b : List α, eqLs a b = decide (a = b)
 | [], [] => rfl
 | [], _ :: _ => by simp [eqLs]
 | _ :: _, [] => by simp [eqLs]
 | x :: a, y :: b => by
  rw [eqLs, eqLs_iff a b]
  by_cases h : x = y <;> simp [h]
theorem eqLs_len {α : Type} [DecidableEq α] {a b : List α} (h : a.length ≠ b.length) : decide (a = b) = false := by
 simp
 intro e
 exact h (by rw [e])
set_option maxHeartbeats 1000000 in
theorem equalI_any (a b : List Int) (lo hi lo2 hi2 : Nat) (v1 v2 : Value) (w : World) (h1 : RdI w lo hi v1 a) (h2 : RdI w lo2 hi2 v2 b) :
  Calls Tryz.prog 18 #[v1, v2] w fun e w' => e = .returned (.bool (decide (a = b))) ∧ Below w.heap.size w w' := by
 obtain ⟨A1, c1, rfl, hc1, hm1⟩ := h1.form
 obtain ⟨A2, c2, rfl, hc2, hm2⟩ := h2.form
 have H1 := Lib.hid h1
 have H2 := Lib.hid h2
 clear h1 h2
 refine zax fun R hR => ?_
 have HR := Lib.hid hR
 clear hR
 go_enter Tryz.func18, Tryz.ntmps18
 by_cases hl : a.length = b.length
 ·
  have hl' : (a.length : Int) = b.length := by omega
  have HL := Lib.hid hl
  clear hl
  go_wp2_with fail
  go_loopw [13, 5] (fun v13 _ wr => ∃ (k q : Nat), k ≤ a.length ∧ v13 = .int .i64 k ∧ wr = w.drewN q ∧ Hid (decide (a = b) = eqLs (a.drop k) (b.drop k))) (fun v13 _ _ => a.length - (intOf v13).toNat)
  case atStart => exact ⟨0, 0, by omega, rfl, rfl, Lib.hid (by rw [← eqLs_iff]; rfl)⟩
  case round =>
   obtain ⟨k, q, hk, rfl, rfl, HI⟩ := hrel
   by_cases hlt : k < a.length
   ·
    have hkd : decide ((k : Int) < (a.length : Int)) = true := by simp; omega
    have hkb : (k : Int) < (a.length : Int) := by omega
    have hkc : (k : Int) < (b.length : Int) := by omega
    obtain ⟨b1, o1, rfl, _, _, f1⟩ := RdI.at1 H1.out hlt
    obtain ⟨b2, o2, rfl, _, _, f2⟩ := RdI.at1 H2.out (k := k) (by have := HL.out; omega)
    have HJ : Hid (decide (a = b) = if gti a k = gti b k then eqLs (a.drop (k + 1)) (b.drop (k + 1)) else false) := Lib.hid (by rw [HI.out, zda hlt, zda (l := b) (k := k) (by have := HL.out; omega), eqLs])
    generalize gti a k = x at *
    generalize gti b k = y at *
    go_wp2
    go_quiet (fail)
    go_wp2
    all_goals have hj := HJ.out
    ·
     refine HR.out _ _ ⟨zcy ?_, below_drewN (below_drewN (Below.refl _ _) _) _⟩
     clear HJ HI; go_light; grind
    all_goals first
     | (refine ⟨⟨k + 1, q + nq, by omega, by go_num, by first | rfl | rw [World.drewN_drewN], Lib.hid (by clear HJ HI; go_light; grind)⟩, by simp [intOf]; omega⟩)
   ·
    have hkd : decide ((k : Int) < (a.length : Int)) = false := by simp; omega
    have HE : Hid (decide (a = b) = true) := Lib.hid (by rw [HI.out, List.drop_eq_nil_of_le (by omega), List.drop_eq_nil_of_le (by have := HL.out; omega)]; rfl)
    clear HI
    go_wp2
    exact HR.out _ _ ⟨zcy HE.out.symm, below_drewN (Below.refl _ _) _⟩
 ·
  have hl' : ¬ (a.length : Int) = b.length := by omega
  have HL := Lib.hid hl
  clear hl
  go_wp2_with fail
  exact HR.out _ _ ⟨zcy (eqLs_len HL.out).symm, Below.refl _ _⟩
set_option maxHeartbeats 400000 in
theorem rstate_any (p : Int) (m : List Int) (lo hi : Nat) (v : Value) (w : World) (hv : RdI w lo hi v m) (hl : m.length ≤ 1000000) :
  Calls Tryz.prog 103 #[.int .i64 p, v] w (RetL w (p :: m)) := by
 obtain ⟨A1, c1, rfl, hc1, hm1⟩ := hv.form
 have HV := Lib.hid hv
 have HL := Lib.hid hl
 clear hv hl
 have M : Hid (Mem [Loc.bl w.heap.size w] w) := Lib.hid ⟨⟨Below.refl _ _, Nat.le_refl _⟩, True.intro⟩
 refine zax fun R hR => ?_
 have HR := Lib.hid hR
 clear hR
 go_enter Tryz.func103, Tryz.ntmps103
 go_wp2_with (at_builtin; refine wpList_app rfl _ _ rfl ti_int (fun _ => rfl) oneI rfl rfl (Mem.lit1 M.out p) (by (repeat' (first | exact True.intro | refine And.intro (fun k hk e => ?_) ?_)) <;> (first | exact e | ((try dsimp only [Loc.c1, Loc.c2, Loc.k1, Loc.k2, Loc.k3, Loc.k4, Loc.k6, Loc.fr, Loc.bl, Loc.own, Loc.sz, Loc.rd, Loc.rdI, Loc.rdS, Loc.rdM, Loc.rdT, Loc.ow, Loc.owI] at hk e) <;> omega))) (HV.out.after (M.out.1.1.alloc M.out.1.2 _)) (by have := HL.out; simp; omega) (by have := HL.out; simp; omega) (by simp) ?_; intro A1 c1 w1 hM1 hs1 hch1; replace M := Lib.hid hM1; clear hM1 hch1)
 exact HR.out _ _ (RetL.mk (by simp; omega) M.out.1.rd (Nat.le_refl _) (Nat.le_refl _) M.out.2.1.1)
end Go.Proofs.YtjhdcgaiccnmeaaGreatDoor
end
section
namespace Go.Proofs.YtjhdcgaiccnmeaaGreatDoor
open Go.RowKit
theorem run_slice_lo {t e size bytes : Nat} {z : Value} (ti : TI t e size bytes z) (w : World) (A : Option Addr) (n c k : Nat) (hk : k ≤ n) :
  (Instr.slice t (.slice A n c) (some (.int .i64 (k : Int))) none none).run Tryz.prog w = .ok (.slice (if c = k then A else A.map (·.add (k * size))) (n - k) (c - k)) w := by
 obtain ⟨i, ht, hi0, hz, hsize, hby, hzs, hsz⟩ := ti
 simp [Instr.slice, run_underlying ht, Instr.sliceBounds, Instr.sliceBound, asIntOf, sizeOf, typeInfo, hi0, hsize, hk]
theorem Rd.dropped {α : Type} {size : Nat} {enc : α → List Value} {w : World} {lo hi : Nat} {A : Option Addr} {c : Nat} {l : List α} (h : Rd size enc w lo hi (.slice A l.length c) l) (he : ∀ a, (enc a).length = size) (k : Nat) (hk : k ≤ l.length) (hc : l.length ≤ c) :
  Rd size enc w lo hi (.slice (if c = k then A else A.map (·.add (k * size))) (l.drop k).length (c - k)) (l.drop k) := by
 have hlen := h.form
 obtain ⟨A', c', e, _, h63⟩ := hlen
 refine ⟨zcv he _, _, _, rfl, by simp; omega, by simp [maxLen]; omega, fun hn => ?_⟩
 obtain ⟨b, off, rfl, h1, h2, hcell⟩ := RdC.cells h (by simp at hn; omega)
 have hck : ¬ c = k := by simp at hn; omega
 refine ⟨b, off + k * size, by rw [if_neg hck]; simp [add_off], h1, h2, fun j u hu => ?_⟩
 have := hcell (k * size + j) u (by
  have hsplit : l.flatMap enc = (l.take k).flatMap enc ++ (l.drop k).flatMap enc := by rw [← List.flatMap_append, List.take_append_drop]
  have hlt : (l.take k).length = k := by simp; omega
  rw [hsplit, List.getElem?_append_right (by rw [zcv he, hlt]; omega), zcv he, hlt]
  simpa using hu)
 rw [Nat.add_assoc]
 exact this
theorem RdI.tail1 {w : World} {lo hi : Nat} {A : Option Addr} {c : Nat} {l : List Int} (h : RdI w lo hi (.slice A l.length c) l) (hl : 1 ≤ l.length) (hc : l.length ≤ c) :
  ∃ A' c', (∀ W : World, (Instr.slice 29 (.slice A l.length c) (some (.int .i64 1)) none none).run Tryz.prog W = .ok (.slice A' (l.drop 1).length c') W) ∧ RdI w lo hi (.slice A' (l.drop 1).length c') (l.drop 1) := by
 refine ⟨_, _, fun W => ?_, Rd.dropped h (fun _ => rfl) 1 hl hc⟩
 have := run_slice_lo ti_int W A l.length c 1 hl
 rw [List.length_drop]
 exact this
theorem toList_inj {x a : ByteArray} : x.toList = a.toList ↔ x = a := by
 rw [ByteArray.toList_eq, ByteArray.toList_eq]
 constructor
 ·
  intro h
  exact ByteArray.ext (Array.toList_inj.1 h)
 ·
  intro h; rw [h]
theorem toList_beq (x a : ByteArray) : (x.toList == a.toList) = decide (x = a) := by
 rw [Bool.eq_iff_iff]; simp [toList_inj]
theorem toList_dec (x a : ByteArray) : decide (x.toList = a.toList) = decide (x = a) := by simp [toList_inj]
def atB (w : List ByteArray) (k : Int) (a : ByteArray) : Bool := decide (k < w.length) && decide (gti w k.toNat = a)
set_option maxHeartbeats 400000 in
theorem at_any (l : List ByteArray) (k : Int) (a : ByteArray) (lo hi : Nat) (v : Value) (w : World) (hv : RdS w lo hi v l) (hk : 0 ≤ k) :
  Calls Tryz.prog 116 #[v, .int .i64 k, .string a] w fun e w' => e = .returned (.bool (atB l k a)) ∧ Below w.heap.size w w' := by
 obtain ⟨A, c, rfl, hc, hm⟩ := hv.form
 obtain ⟨j, rfl⟩ : ∃ j : Nat, k = j := ⟨k.toNat, by omega⟩
 by_cases hlt : j < l.length
 ·
  obtain ⟨b, off, rfl, _, _, hcell⟩ := RdS.at1 hv hlt
  have HV := Lib.hid hv
  clear hv hk
  have hlt' : (j : Int) < l.length := by omega
  have HE : Hid (atB l j a = decide (gti l j = a)) := Lib.hid (by simp [atB, hlt])
  generalize gti l j = x at *
  refine zax fun R hR => ?_
  have HR := Lib.hid hR
  clear hR
  go_enter Tryz.func116, Tryz.ntmps116
  go_wp2_with fail
  all_goals (refine HR.out _ _ ⟨zcy ?_, Below.refl _ _⟩ <;> (first | exact HE.out.symm | (rw [HE.out]; go_light; first | rfl | exact toList_beq _ _ | exact toList_dec _ _ | grind [toList_inj])))
 ·
  have hlt' : ¬ (j : Int) < l.length := by omega
  have HE : Hid (atB l j a = false) := Lib.hid (by simp [atB, hlt])
  clear hv hk
  refine zax fun R hR => ?_
  have HR := Lib.hid hR
  clear hR
  go_enter Tryz.func116, Tryz.ntmps116
  go_wp2_with fail
  all_goals (refine HR.out _ _ ⟨zcy ?_, Below.refl _ _⟩ <;> (first | exact HE.out.symm | (rw [HE.out]; go_light; first | rfl | exact toList_beq _ _ | exact toList_dec _ _ | grind [toList_inj])))
def allN : List ByteArray → Bool
 | [] => true
 | a :: l => if nameB a then allN l else false
theorem allN_eq : ∀ l, allN l = l.all nameB
 | [] => rfl
 | a :: l => by rw [allN, allN_eq l, List.all_cons]; cases nameB a <;> rfl
set_option maxHeartbeats 1000000 in
theorem names_any (l : List ByteArray) (lo hi : Nat) (v : Value) (w : World) (hv : RdS w lo hi v l) :
  Calls Tryz.prog 77 #[v] w fun e w' => e = .returned (.bool (allN l)) ∧ Below w.heap.size w w' := by
 obtain ⟨A, c, rfl, hc, hm⟩ := hv.form
 have HV := Lib.hid hv
 clear hv
 have M : Hid (Mem [Loc.bl w.heap.size w] w) := Lib.hid ⟨⟨Below.refl _ _, Nat.le_refl _⟩, True.intro⟩
 refine zax fun R hR => ?_
 have HR := Lib.hid hR
 clear hR
 go_enter Tryz.func77, Tryz.ntmps77
 go_wp2_with fail
 go_loopw [3] (fun v3 wr => ∃ k : Nat, k ≤ l.length ∧ v3 = .int .i64 k ∧ Hid (allN l = allN (l.drop k)) ∧ Hid (Mem [Loc.bl w.heap.size w] wr)) (fun v3 _ => l.length - (intOf v3).toNat)
 case atStart => exact ⟨0, by omega, rfl, Lib.hid rfl, M⟩
 case round =>
  clear M
  obtain ⟨k, hk, rfl, HI, M⟩ := hrel
  by_cases hlt : k < l.length
  ·
   obtain ⟨b, off, rfl, _, _, hcell⟩ := RdS.at1 (HV.out.after M.out.1.1) hlt
   have HJ : Hid (allN l = if nameB (gti l k) then allN (l.drop (k + 1)) else false) := Lib.hid (by rw [HI.out, zda hlt, allN])
   generalize gti l k = x at *
   go_wp2_with (go_at_call 75; refine (isName2_any _ _).mono ?_; rintro e w1 ⟨rfl, hb1⟩; replace M := Lib.hid (M.out.below hb1); clear hb1; skip)
   all_goals have hj := HJ.out
   all_goals first
    | ((with_reducible refine HR.out _ _ ⟨?_, ?_⟩) <;> first | exact zcy (by clear HJ HI; go_light; grind) | exact M.out.1.1)
    | (refine ⟨⟨k + 1, by omega, by go_num, Lib.hid (by clear HJ HI; go_light; grind), M⟩, by simp [intOf]; omega⟩)
  ·
   obtain rfl : k = l.length := by omega
   have HE : Hid (allN l = true) := Lib.hid (by rw [HI.out]; simp [allN])
   clear HI
   go_wp2_with fail
   all_goals ((with_reducible refine HR.out _ _ ⟨?_, ?_⟩) <;> first | exact zcy (by rw [HE.out]) | exact M.out.1.1)
set_option maxHeartbeats 400000 in
theorem rIsWord_any (l : List ByteArray) (lo hi : Nat) (v : Value) (w : World) (hv : RdS w lo hi v l) :
  Calls Tryz.prog 21 #[v] w fun e w' => e = .returned (.bool (zdh l)) ∧ Below w.heap.size w w' := by
 obtain ⟨A, c, rfl, hc, hm⟩ := hv.form
 have HV := Lib.hid hv
 clear hv
 have HE : Hid (zdh l = (decide ((l.length : Int) ≤ 200) && allN l)) := Lib.hid (by rw [zdh, allN_eq]; congr 1; simp; omega)
 have M : Hid (Mem [Loc.bl w.heap.size w] w) := Lib.hid ⟨⟨Below.refl _ _, Nat.le_refl _⟩, True.intro⟩
 refine zax fun R hR => ?_
 have HR := Lib.hid hR
 clear hR
 go_enter Tryz.func21, Tryz.ntmps21
 go_wp2_with (go_at_call 77; refine (names_any l lo hi _ _ (HV.out.after M.out.1.1)).mono ?_; rintro e w1 ⟨rfl, hb1⟩; replace M := Lib.hid (M.out.below hb1); clear hb1; skip)
 all_goals ((with_reducible refine HR.out _ _ ⟨?_, ?_⟩) <;> first | exact zcy (by rw [HE.out]; go_light; grind) | exact M.out.1.1)
theorem isWord_is {l : List ByteArray} {b : Bool} (hb : zdh l = b) (lo hi : Nat) (v : Value) (w : World) (hv : RdS w lo hi v l) :
  Calls Tryz.prog 102 #[v] w fun e w' => e = .returned (.bool b) ∧ Below w.heap.size w w' := hb ▸ isWord_any l lo hi v w hv
theorem rIsWord_is {l : List ByteArray} {b : Bool} (hb : zdh l = b) (lo hi : Nat) (v : Value) (w : World) (hv : RdS w lo hi v l) :
  Calls Tryz.prog 21 #[v] w fun e w' => e = .returned (.bool b) ∧ Below w.heap.size w w' := hb ▸ rIsWord_any l lo hi v w hv
def zb7 (n : Net) (w : List ByteArray) : List Int × Int := if zbc n && zdh w then (0 :: oneL n.places.toNat n.source, 0) else ([], 1)
def endE (n : Net) (w : List ByteArray) : List Int × Int := if zbc n && zdh w then (w.length :: oneL n.places.toNat n.sink, 0) else ([], 1)
theorem oneL_len (k : Nat) (p : Int) : (oneL k p).length = k := by simp [oneL]
theorem oneE_true {n : Net} (h : zbc n = true) (p : Int) : oneE n p = (oneL n.places.toNat p, 0) := by rw [oneE, h]; rfl
theorem oneE_false {n : Net} (h : zbc n = false) (p : Int) : oneE n p = ([], 1) := by rw [oneE, h]; rfl
theorem RetI.of {w : World} {r r' : List Int × Int} {e : Ending} {w' : World} (h : RetI w r e w') (hr : r = r') : RetI w r' e w' := hr ▸ h
set_option maxHeartbeats 1000000 in
theorem Start_any (n : Net) (l : List ByteArray) (vt v : Value) (lo hi lo' hi' : Nat) (w : World) (hv : RdT w lo hi vt n.trans) (hw : RdS w lo' hi' v l) :
  Calls Tryz.prog 51 #[netV n vt, v] w (RetI w (zb7 n l)) := by
 obtain ⟨A, c, rfl, hc, hmm⟩ := hv.form
 obtain ⟨A2, c2, rfl, hc2, hmm2⟩ := hw.form
 have HV := Lib.hid hv
 have HW := Lib.hid hw
 clear hv hw
 cases hvb : zbc n with
 | false =>
  have HVB := Lib.hid hvb
  have HO := Lib.hid (oneE_false hvb n.source)
  clear hvb
  refine zax fun R hR => ?_
  have HR := Lib.hid hR
  clear hR
  go_enter Tryz.func51, Tryz.ntmps51
  have M : Hid (Mem [Loc.k4 w.heap.size (.int .i64 n.places) (.slice A n.trans.length c) (.int .i64 n.source) (.int .i64 n.sink), Loc.bl w.heap.size w] (w.alloc (.cells #[.int .i64 n.places, .slice A n.trans.length c, .int .i64 n.source, .int .i64 n.sink] 24))) := Lib.hid ⟨K4.new w _ _ _ _ _, ⟨(Below.refl _ _).alloc (Nat.le_refl _) _, by simp⟩, True.intro⟩
  have hk4 := M.out.1
  go_wp2_with (first
   | (go_at_call 38; refine (initial_any n _ lo hi _ (HV.out.after M.out.2.1.1)).mono ?_; rintro e w1 hret; replace hret := hret.of HO.out; obtain ⟨A1, c1, rfl, hr1, hb1⟩ := hret; replace M := Lib.hid (M.out.below hb1); replace hk4 := M.out.1; clear hb1 hr1))
  exact HR.out _ _ (RetI.nil (by rw [zb7, HVB.out]; rfl) M.out.2.1.1)
 | true =>
  have HVB := Lib.hid hvb
  have HO := Lib.hid (oneE_true hvb n.source)
  have hpl := za8 hvb
  have HPL := Lib.hid hpl
  clear hvb hpl
  cases hwb : zdh l with
  | false =>
   have HWB := Lib.hid hwb
   clear hwb
   refine zax fun R hR => ?_
   have HR := Lib.hid hR
   clear hR
   go_enter Tryz.func51, Tryz.ntmps51
   have M : Hid (Mem [Loc.k4 w.heap.size (.int .i64 n.places) (.slice A n.trans.length c) (.int .i64 n.source) (.int .i64 n.sink), Loc.bl w.heap.size w] (w.alloc (.cells #[.int .i64 n.places, .slice A n.trans.length c, .int .i64 n.source, .int .i64 n.sink] 24))) := Lib.hid ⟨K4.new w _ _ _ _ _, ⟨(Below.refl _ _).alloc (Nat.le_refl _) _, by simp⟩, True.intro⟩
   have hk4 := M.out.1
   go_wp2_with (first
    | (go_at_call 38; refine (initial_any n _ lo hi _ (HV.out.after M.out.2.1.1)).mono ?_; rintro e w1 hret; replace hret := hret.of HO.out; obtain ⟨A1, c1, rfl, hr1, hb1⟩ := hret; replace M := Lib.hid (M.out.below hb1); replace hk4 := M.out.1; clear hb1 hr1)
    | (go_at_call 102; refine (isWord_is HWB.out lo' hi' _ _ (HW.out.after M.out.2.1.1)).mono ?_; rintro e w1 ⟨rfl, hb1⟩; replace M := Lib.hid (M.out.below hb1); clear hb1; skip))
   exact HR.out _ _ (RetI.nil (by rw [zb7, HVB.out, HWB.out]; rfl) M.out.2.1.1)
  | true =>
   have HWB := Lib.hid hwb
   clear hwb
   refine zax fun R hR => ?_
   have HR := Lib.hid hR
   clear hR
   go_enter Tryz.func51, Tryz.ntmps51
   have M : Hid (Mem [Loc.k4 w.heap.size (.int .i64 n.places) (.slice A n.trans.length c) (.int .i64 n.source) (.int .i64 n.sink), Loc.bl w.heap.size w] (w.alloc (.cells #[.int .i64 n.places, .slice A n.trans.length c, .int .i64 n.source, .int .i64 n.sink] 24))) := Lib.hid ⟨K4.new w _ _ _ _ _, ⟨(Below.refl _ _).alloc (Nat.le_refl _) _, by simp⟩, True.intro⟩
   have hk4 := M.out.1
   go_wp2_with (first
    | (go_at_call 38; refine (initial_any n _ lo hi _ (HV.out.after M.out.2.1.1)).mono ?_; rintro e w1 hret; replace hret := hret.of HO.out; obtain ⟨A1, c1, rfl, hr1, hb1⟩ := hret; have HR1 := Lib.hid hr1; have hz1 := M.out.2.1.2; replace M := Lib.hid (Mem.cons (a := Loc.rdI _ _ _ _) hr1 (M.out.below hb1)); replace hk4 := M.out.2.1; clear hb1 hr1)
    | (go_at_call 102; refine (isWord_is HWB.out lo' hi' _ _ (HW.out.after M.out.2.2.1.1)).mono ?_; rintro e w1 ⟨rfl, hb1⟩; replace M := Lib.hid (M.out.below hb1); clear hb1; have hz2 := M.out.2.2.1.2)
    | (at_builtin; refine wpList_app rfl _ _ rfl ti_int (fun _ => rfl) oneI rfl rfl (Mem.lit1 M.out.2.2 0) (by (repeat' (first | exact True.intro | refine And.intro (fun k hk e => ?_) ?_)) <;> (first | exact e | ((try dsimp only [Loc.c1, Loc.c2, Loc.k1, Loc.k2, Loc.k3, Loc.k4, Loc.k6, Loc.fr, Loc.bl, Loc.own, Loc.sz, Loc.rd, Loc.rdI, Loc.rdS, Loc.rdM, Loc.rdT, Loc.ow, Loc.owI] at hk e) <;> omega))) (M.out.1.after ((Below.refl _ _).alloc (Nat.le_refl _) _)) (by have := HPL.out; simp [oneL_len]; omega) (by have := HPL.out; simp [oneL_len]; omega) (by simp) ?_; intro A1 c1 w9 hM1 hs1 hch1; replace M := Lib.hid hM1; clear hM1 hch1))
   exact HR.out _ _ (RetI.mk (l := 0 :: oneL n.places.toNat n.source) (by rw [zb7, HVB.out, HWB.out]; rfl) (by simp; omega) M.out.1.rd hz2 (Nat.le_refl _) M.out.2.1.1)
set_option maxHeartbeats 1000000 in
theorem End_any (n : Net) (l : List ByteArray) (vt v : Value) (lo hi lo' hi' : Nat) (w : World) (hv : RdT w lo hi vt n.trans) (hw : RdS w lo' hi' v l) :
  Calls Tryz.prog 71 #[netV n vt, v] w (RetI w (endE n l)) := by
 obtain ⟨A, c, rfl, hc, hmm⟩ := hv.form
 obtain ⟨A2, c2, rfl, hc2, hmm2⟩ := hw.form
 have HV := Lib.hid hv
 have HW := Lib.hid hw
 clear hv hw
 cases hvb : zbc n with
 | false =>
  have HVB := Lib.hid hvb
  have HO := Lib.hid (oneE_false hvb n.sink)
  clear hvb
  refine zax fun R hR => ?_
  have HR := Lib.hid hR
  clear hR
  go_enter Tryz.func71, Tryz.ntmps71
  have M : Hid (Mem [Loc.k4 w.heap.size (.int .i64 n.places) (.slice A n.trans.length c) (.int .i64 n.source) (.int .i64 n.sink), Loc.bl w.heap.size w] (w.alloc (.cells #[.int .i64 n.places, .slice A n.trans.length c, .int .i64 n.source, .int .i64 n.sink] 24))) := Lib.hid ⟨K4.new w _ _ _ _ _, ⟨(Below.refl _ _).alloc (Nat.le_refl _) _, by simp⟩, True.intro⟩
  have hk4 := M.out.1
  go_wp2_with (first
   | (go_at_call 39; refine (final_any n _ lo hi _ (HV.out.after M.out.2.1.1)).mono ?_; rintro e w1 hret; replace hret := hret.of HO.out; obtain ⟨A1, c1, rfl, hr1, hb1⟩ := hret; replace M := Lib.hid (M.out.below hb1); replace hk4 := M.out.1; clear hb1 hr1))
  exact HR.out _ _ (RetI.nil (by rw [endE, HVB.out]; rfl) M.out.2.1.1)
 | true =>
  have HVB := Lib.hid hvb
  have HO := Lib.hid (oneE_true hvb n.sink)
  have hpl := za8 hvb
  have HPL := Lib.hid hpl
  clear hvb hpl
  cases hwb : zdh l with
  | false =>
   have HWB := Lib.hid hwb
   clear hwb
   refine zax fun R hR => ?_
   have HR := Lib.hid hR
   clear hR
   go_enter Tryz.func71, Tryz.ntmps71
   have M : Hid (Mem [Loc.k4 w.heap.size (.int .i64 n.places) (.slice A n.trans.length c) (.int .i64 n.source) (.int .i64 n.sink), Loc.bl w.heap.size w] (w.alloc (.cells #[.int .i64 n.places, .slice A n.trans.length c, .int .i64 n.source, .int .i64 n.sink] 24))) := Lib.hid ⟨K4.new w _ _ _ _ _, ⟨(Below.refl _ _).alloc (Nat.le_refl _) _, by simp⟩, True.intro⟩
   have hk4 := M.out.1
   go_wp2_with (first
    | (go_at_call 39; refine (final_any n _ lo hi _ (HV.out.after M.out.2.1.1)).mono ?_; rintro e w1 hret; replace hret := hret.of HO.out; obtain ⟨A1, c1, rfl, hr1, hb1⟩ := hret; replace M := Lib.hid (M.out.below hb1); replace hk4 := M.out.1; clear hb1 hr1)
    | (go_at_call 102; refine (isWord_is HWB.out lo' hi' _ _ (HW.out.after M.out.2.1.1)).mono ?_; rintro e w1 ⟨rfl, hb1⟩; replace M := Lib.hid (M.out.below hb1); clear hb1; skip))
   exact HR.out _ _ (RetI.nil (by rw [endE, HVB.out, HWB.out]; rfl) M.out.2.1.1)
  | true =>
   have HWB := Lib.hid hwb
   clear hwb
   refine zax fun R hR => ?_
   have HR := Lib.hid hR
   clear hR
   go_enter Tryz.func71, Tryz.ntmps71
   have M : Hid (Mem [Loc.k4 w.heap.size (.int .i64 n.places) (.slice A n.trans.length c) (.int .i64 n.source) (.int .i64 n.sink), Loc.bl w.heap.size w] (w.alloc (.cells #[.int .i64 n.places, .slice A n.trans.length c, .int .i64 n.source, .int .i64 n.sink] 24))) := Lib.hid ⟨K4.new w _ _ _ _ _, ⟨(Below.refl _ _).alloc (Nat.le_refl _) _, by simp⟩, True.intro⟩
   have hk4 := M.out.1
   go_wp2_with (first
    | (go_at_call 39; refine (final_any n _ lo hi _ (HV.out.after M.out.2.1.1)).mono ?_; rintro e w1 hret; replace hret := hret.of HO.out; obtain ⟨A1, c1, rfl, hr1, hb1⟩ := hret; have HR1 := Lib.hid hr1; have hz1 := M.out.2.1.2; replace M := Lib.hid (Mem.cons (a := Loc.rdI _ _ _ _) hr1 (M.out.below hb1)); replace hk4 := M.out.2.1; clear hb1 hr1)
    | (go_at_call 102; refine (isWord_is HWB.out lo' hi' _ _ (HW.out.after M.out.2.2.1.1)).mono ?_; rintro e w1 ⟨rfl, hb1⟩; replace M := Lib.hid (M.out.below hb1); clear hb1; have hz2 := M.out.2.2.1.2)
    | (at_builtin; refine wpList_app rfl _ _ rfl ti_int (fun _ => rfl) oneI rfl rfl (Mem.lit1 M.out.2.2 (l.length : Int)) (by (repeat' (first | exact True.intro | refine And.intro (fun k hk e => ?_) ?_)) <;> (first | exact e | ((try dsimp only [Loc.c1, Loc.c2, Loc.k1, Loc.k2, Loc.k3, Loc.k4, Loc.k6, Loc.fr, Loc.bl, Loc.own, Loc.sz, Loc.rd, Loc.rdI, Loc.rdS, Loc.rdM, Loc.rdT, Loc.ow, Loc.owI] at hk e) <;> omega))) (M.out.1.after ((Below.refl _ _).alloc (Nat.le_refl _) _)) (by have := HPL.out; simp [oneL_len]; omega) (by have := HPL.out; simp [oneL_len]; omega) (by simp) ?_; intro A1 c1 w9 hM1 hs1 hch1; replace M := Lib.hid hM1; clear hM1 hch1))
   exact HR.out _ _ (RetI.mk (l := (l.length : Int) :: oneL n.places.toNat n.sink) (by rw [endE, HVB.out, HWB.out]; rfl) (by simp; omega) M.out.1.rd hz2 (Nat.le_refl _) M.out.2.1.1)
set_option maxHeartbeats 1000000 in
theorem rEnd_any (n : Net) (l : List ByteArray) (vt v : Value) (lo hi lo' hi' : Nat) (w : World) (hv : RdT w lo hi vt n.trans) (hw : RdS w lo' hi' v l) :
  Calls Tryz.prog 59 #[netV n vt, v] w (RetI w (endE n l)) := by
 obtain ⟨A, c, rfl, hc, hmm⟩ := hv.form
 obtain ⟨A2, c2, rfl, hc2, hmm2⟩ := hw.form
 have HV := Lib.hid hv
 have HW := Lib.hid hw
 clear hv hw
 cases hvb : zbc n with
 | false =>
  have HVB := Lib.hid hvb
  clear hvb
  refine zax fun R hR => ?_
  have HR := Lib.hid hR
  clear hR
  go_enter Tryz.func59, Tryz.ntmps59
  have M : Hid (Mem [Loc.k4 w.heap.size (.int .i64 n.places) (.slice A n.trans.length c) (.int .i64 n.source) (.int .i64 n.sink), Loc.bl w.heap.size w] (w.alloc (.cells #[.int .i64 n.places, .slice A n.trans.length c, .int .i64 n.source, .int .i64 n.sink] 24))) := Lib.hid ⟨K4.new w _ _ _ _ _, ⟨(Below.refl _ _).alloc (Nat.le_refl _) _, by simp⟩, True.intro⟩
  have hk4 := M.out.1
  go_wp2_with (go_at_call 20; refine (rvalid_is HVB.out _ lo hi _ (HV.out.after M.out.2.1.1)).mono ?_; rintro e w1 ⟨rfl, hb1⟩; replace M := Lib.hid (M.out.below hb1); clear hb1; replace hk4 := M.out.1)
  exact HR.out _ _ (RetI.nil (by rw [endE, HVB.out]; rfl) M.out.2.1.1)
 | true =>
  have HVB := Lib.hid hvb
  have hpl := za8 hvb
  have HPL := Lib.hid hpl
  have HIN := Lib.hid (fun W => rFinal_any n n.places.toNat (.slice A n.trans.length c) W (by omega) (by omega) (validB_ends hvb).2.1)
  clear hvb hpl
  cases hwb : zdh l with
  | false =>
   have HWB := Lib.hid hwb
   clear hwb
   refine zax fun R hR => ?_
   have HR := Lib.hid hR
   clear hR
   go_enter Tryz.func59, Tryz.ntmps59
   have M : Hid (Mem [Loc.k4 w.heap.size (.int .i64 n.places) (.slice A n.trans.length c) (.int .i64 n.source) (.int .i64 n.sink), Loc.bl w.heap.size w] (w.alloc (.cells #[.int .i64 n.places, .slice A n.trans.length c, .int .i64 n.source, .int .i64 n.sink] 24))) := Lib.hid ⟨K4.new w _ _ _ _ _, ⟨(Below.refl _ _).alloc (Nat.le_refl _) _, by simp⟩, True.intro⟩
   have hk4 := M.out.1
   go_wp2_with (first
    | (go_at_call 20; refine (rvalid_is HVB.out _ lo hi _ (HV.out.after M.out.2.1.1)).mono ?_; rintro e w1 ⟨rfl, hb1⟩; replace M := Lib.hid (M.out.below hb1); clear hb1; replace hk4 := M.out.1)
    | (go_at_call 21; refine (rIsWord_is HWB.out lo' hi' _ _ (HW.out.after M.out.2.1.1)).mono ?_; rintro e w1 ⟨rfl, hb1⟩; replace M := Lib.hid (M.out.below hb1); clear hb1; replace hk4 := M.out.1))
   exact HR.out _ _ (RetI.nil (by rw [endE, HVB.out, HWB.out]; rfl) M.out.2.1.1)
  | true =>
   have HWB := Lib.hid hwb
   clear hwb
   refine zax fun R hR => ?_
   have HR := Lib.hid hR
   clear hR
   go_enter Tryz.func59, Tryz.ntmps59
   have M : Hid (Mem [Loc.k4 w.heap.size (.int .i64 n.places) (.slice A n.trans.length c) (.int .i64 n.source) (.int .i64 n.sink), Loc.bl w.heap.size w] (w.alloc (.cells #[.int .i64 n.places, .slice A n.trans.length c, .int .i64 n.source, .int .i64 n.sink] 24))) := Lib.hid ⟨K4.new w _ _ _ _ _, ⟨(Below.refl _ _).alloc (Nat.le_refl _) _, by simp⟩, True.intro⟩
   have hk4 := M.out.1
   go_wp2_with (first
    | (go_at_call 20; refine (rvalid_is HVB.out _ lo hi _ (HV.out.after M.out.2.1.1)).mono ?_; rintro e w1 ⟨rfl, hb1⟩; replace M := Lib.hid (M.out.below hb1); clear hb1; replace hk4 := M.out.1)
    | (go_at_call 21; refine (rIsWord_is HWB.out lo' hi' _ _ (HW.out.after M.out.2.1.1)).mono ?_; rintro e w1 ⟨rfl, hb1⟩; replace M := Lib.hid (M.out.below hb1); clear hb1; replace hk4 := M.out.1)
    | (go_at_call 107; refine (HIN.out _).mono ?_; rintro e w5 ⟨A5, c5, rfl, hr5, hb5⟩; have HR5 := Lib.hid hr5; replace M := Lib.hid (M.out.below hb5); have hz5 := M.out.2.1.2; clear hb5 hr5)
    | (go_at_call 103; refine (rstate_any _ _ _ _ _ _ HR5.out (by have := HPL.out; rw [oneL_len]; omega)).mono ?_; rintro e w6 ⟨A6, c6, rfl, hr6, hb6⟩; have HR6 := Lib.hid hr6; replace M := Lib.hid (M.out.below hb6); clear hb6 hr6))
   exact HR.out _ _ (RetI.mk (l := (l.length : Int) :: oneL n.places.toNat n.sink) (by rw [endE, HVB.out, HWB.out]; rfl) rfl HR6.out hz5 (Nat.le_refl _) M.out.2.1.1)
end Go.Proofs.YtjhdcgaiccnmeaaGreatDoor
end
section
namespace Go.Proofs.YtjhdcgaiccnmeaaGreatDoor
open Go.RowKit
theorem C1.aft {w W : World} {b o : Nat} {x : Value} (hb : Below w.heap.size w W) (h : C1 w b o x) : C1 W b o x := (hb.cell (p := ⟨b, o, none⟩) (World.block_lt_of_cell? _ _ h)).trans h
def zct (n : Net) (w : List ByteArray) (s : List Int) : Bool := zdh w && decide (1 ≤ s.length) && decide (0 ≤ gti s 0) && decide (gti s 0 ≤ w.length) && zcu n (s.drop 1)
theorem zc6 {n : Net} {w : List ByteArray} {s : List Int} : zct n w s = true ↔ zdh w = true ∧ 1 ≤ s.length ∧ 0 ≤ gti s 0 ∧ gti s 0 ≤ w.length ∧ zcu n (s.drop 1) = true := by
 simp [zct, and_assoc]
theorem enabledE_code (n : Net) (m : List Int) : (enabledE n m).2 = if zcu n m then 0 else 1 := by
 unfold enabledE; split <;> rfl
set_option maxRecDepth 100000 in
set_option maxHeartbeats 2000000 in
theorem isState_any (n : Net) (l : List ByteArray) (s : List Int) (vt v vs : Value) (lo hi lo' hi' lo2 hi2 : Nat) (w : World) (hv : RdT w lo hi vt n.trans) (hw : RdS w lo' hi' v l) (hs : RdI w lo2 hi2 vs s) :
  Calls Tryz.prog 114 #[netV n vt, v, vs] w fun e w' => e = .returned (.bool (zct n l s)) ∧ Below w.heap.size w w' := by
 obtain ⟨A, c, rfl, hc, hmm⟩ := hv.form
 obtain ⟨A2, c2, rfl, hc2, hmm2⟩ := hw.form
 obtain ⟨A3, c3, rfl, hc3, hmm3⟩ := hs.form
 have HV := Lib.hid hv
 have HW := Lib.hid hw
 have HS := Lib.hid hs
 clear hv hw
 by_cases h1 : 1 ≤ s.length
 ·
  obtain ⟨b, off, rfl, _, _, hcell⟩ := RdI.at1 hs (k := 0) (by omega)
  obtain ⟨At, ct, hsl, ht⟩ := RdI.tail1 hs h1 hc3
  obtain ⟨tl, htl⟩ : ∃ tl, s.drop 1 = tl := ⟨_, rfl⟩
  rw [htl] at hsl ht
  have HTL := Lib.hid htl
  clear htl
  have HT := Lib.hid ht
  have hne : ((s.length : Int) == 0) = false := by rw [beq_eq_false_iff_ne]; omega
  clear hs ht
  simp only [Nat.add_zero] at hcell
  have HC := Lib.hid hcell
  clear hcell
  cases hwb : zdh l
  ·
   have HE : Hid (zct n l s = false) := Lib.hid (by simp [zct, hwb])
   have HWB := Lib.hid hwb
   clear hwb
   refine zax fun R hR => ?_
   have HR := Lib.hid hR
   clear hR
   go_enter Tryz.func114, Tryz.ntmps114
   have M : Hid (Mem [Loc.k4 w.heap.size (.int .i64 n.places) (.slice A n.trans.length c) (.int .i64 n.source) (.int .i64 n.sink), Loc.bl w.heap.size w] (w.alloc (.cells #[.int .i64 n.places, .slice A n.trans.length c, .int .i64 n.source, .int .i64 n.sink] 24))) := Lib.hid ⟨K4.new w _ _ _ _ _, ⟨(Below.refl _ _).alloc (Nat.le_refl _) _, by simp⟩, True.intro⟩
   have hk4 := M.out.1
   go_wp2_with (go_at_call 102; refine (isWord_is HWB.out lo' hi' _ _ (HW.out.after M.out.2.1.1)).mono ?_; rintro e w1 ⟨rfl, hb1⟩; replace M := Lib.hid (M.out.below hb1); clear hb1; skip)
   exact HR.out _ _ ⟨zcy HE.out.symm, M.out.2.1.1⟩
  ·
   have HWB := Lib.hid hwb
   have HE : Hid (zct n l s = (decide (0 ≤ gti s 0) && decide (gti s 0 ≤ l.length) && zcu n tl)) := Lib.hid (by rw [← HTL.out]; simp [zct, hwb, h1])
   clear hwb
   generalize gti s 0 = p at *
   refine zax fun R hR => ?_
   have HR := Lib.hid hR
   clear hR
   go_enter Tryz.func114, Tryz.ntmps114
   have M : Hid (Mem [Loc.k4 w.heap.size (.int .i64 n.places) (.slice A n.trans.length c) (.int .i64 n.source) (.int .i64 n.sink), Loc.bl w.heap.size w] (w.alloc (.cells #[.int .i64 n.places, .slice A n.trans.length c, .int .i64 n.source, .int .i64 n.sink] 24))) := Lib.hid ⟨K4.new w _ _ _ _ _, ⟨(Below.refl _ _).alloc (Nat.le_refl _) _, by simp⟩, True.intro⟩
   have hk4 := M.out.1
   have hcell := C1.aft M.out.2.1.1 HC.out
   go_wp2_with (go_at_call 102; refine (isWord_is HWB.out lo' hi' _ _ (HW.out.after M.out.2.1.1)).mono ?_; rintro e w1 ⟨rfl, hb1⟩; replace M := Lib.hid (M.out.below hb1); clear hb1; replace hk4 := M.out.1; replace hcell := C1.aft M.out.2.1.1 HC.out)
   all_goals (try (first | (refine HR.out _ _ ⟨zcy ?_, M.out.2.1.1⟩; rw [HE.out]; clear HE; go_light; grind)))
   cases hmb : zcu n tl
   all_goals
    have HMB := Lib.hid hmb
    have HCD := Lib.hid (enabledE_code n tl)
    rw [hmb] at HCD
    simp only [if_true, Bool.false_eq_true, if_false] at HCD
    clear hmb
    go_region_held3 (fun W => K4 W w.heap.size (.int .i64 n.places) (.slice A n.trans.length c) (.int .i64 n.source) (.int .i64 n.sink)) (exact hk4) (first | (go_at_call 142; refine (Enabled_any n tl _ _ lo hi lo2 hi2 _ (HV.out.after (by first | exact M.out.2.1.1 | exact M.out.drew.2.1.1)) (HT.out.after (by first | exact M.out.2.1.1 | exact M.out.drew.2.1.1))).mono ?_; rintro e w6 ⟨A6, c6, rfl, hr6, hb6⟩; rw [HCD.out]; replace M := Lib.hid (Mem.below (by first | exact M.out | exact M.out.drew) hb6); replace hk4 := M.out.1; clear hb6 hr6))
    all_goals
     go_wp2_with fail
     refine HR.out _ _ ⟨zcy ?_, M.out.2.1.1⟩
     rw [HE.out, HMB.out]
     clear HE
     go_light
     grind
 ·
  have h0 : s = [] := List.eq_nil_of_length_eq_zero (by omega)
  subst h0
  have HE : Hid (zct n l [] = false) := Lib.hid (by simp [zct])
  clear hs
  refine zax fun R hR => ?_
  have HR := Lib.hid hR
  clear hR
  go_enter Tryz.func114, Tryz.ntmps114
  have M : Hid (Mem [Loc.k4 w.heap.size (.int .i64 n.places) (.slice A n.trans.length c) (.int .i64 n.source) (.int .i64 n.sink), Loc.bl w.heap.size w] (w.alloc (.cells #[.int .i64 n.places, .slice A n.trans.length c, .int .i64 n.source, .int .i64 n.sink] 24))) := Lib.hid ⟨K4.new w _ _ _ _ _, ⟨(Below.refl _ _).alloc (Nat.le_refl _) _, by simp⟩, True.intro⟩
  have hk4 := M.out.1
  go_wp2_with (go_at_call 102; refine (isWord_any l lo' hi' _ _ (HW.out.after M.out.2.1.1)).mono ?_; rintro e w1 ⟨rfl, hb1⟩; replace M := Lib.hid (M.out.below hb1); clear hb1; skip)
  all_goals exact HR.out _ _ ⟨zcy HE.out.symm, M.out.2.1.1⟩
theorem mark2B_drop {n : Net} {s : List Int} (hp : 1 ≤ n.places) (h : ¬ (s.length : Int) = n.places + 1) : (decide (1 ≤ s.length) && mark2B n (s.drop 1)) = false := by
 by_cases h1 : 1 ≤ s.length
 ·
  rw [mark2B, if_pos (by simp; omega)]
  simp
 ·
  simp [h1]
theorem stateB_len {n : Net} {w : List ByteArray} {s : List Int} (hp : 1 ≤ n.places) (h : ¬ (s.length : Int) = n.places + 1) : zct n w s = false := by
 have := mark2B_drop hp h
 unfold zct zcu
 grind
set_option maxRecDepth 100000 in
set_option maxHeartbeats 4000000 in
theorem rIsState_any (n : Net) (l : List ByteArray) (s : List Int) (vt v vs : Value) (lo hi lo' hi' lo2 hi2 : Nat) (w : World) (hv : RdT w lo hi vt n.trans) (hw : RdS w lo' hi' v l) (hs : RdI w lo2 hi2 vs s) :
  Calls Tryz.prog 31 #[netV n vt, v, vs] w fun e w' => e = .returned (.bool (zct n l s)) ∧ Below w.heap.size w w' := by
 obtain ⟨A, c, rfl, hc, hmm⟩ := hv.form
 obtain ⟨A2, c2, rfl, hc2, hmm2⟩ := hw.form
 obtain ⟨A3, c3, rfl, hc3, hmm3⟩ := hs.form
 have HV := Lib.hid hv
 have HW := Lib.hid hw
 clear hv hw
 have tl : List Int := []
 have HT : Hid (RdI w lo2 hi2 (.slice none 0 0) ([] : List Int)) := Lib.hid (Rd.nil _ _ _)
 cases hvb : zbc n with
 | false =>
  have HVB := Lib.hid hvb
  have HE : Hid (zct n l s = false) := Lib.hid (by simp [zct, zcu, hvb])
  have HWB : Hid (zdh l = zdh l) := Lib.hid rfl
  clear hvb hs
  refine zax fun R hR => ?_
  have HR := Lib.hid hR
  clear hR
  go_enter Tryz.func31, Tryz.ntmps31
  have M : Hid (Mem [Loc.k4 w.heap.size (.int .i64 n.places) (.slice A n.trans.length c) (.int .i64 n.source) (.int .i64 n.sink), Loc.bl w.heap.size w] (w.alloc (.cells #[.int .i64 n.places, .slice A n.trans.length c, .int .i64 n.source, .int .i64 n.sink] 24))) := Lib.hid ⟨K4.new w _ _ _ _ _, ⟨(Below.refl _ _).alloc (Nat.le_refl _) _, by simp⟩, True.intro⟩
  have hk4 := M.out.1
  go_wp2_with fail
  refine zdq (C := (Mem [Loc.k4 w.heap.size (.int .i64 n.places) (.slice A n.trans.length c) (.int .i64 n.source) (.int .i64 n.sink), Loc.bl w.heap.size w])) (by kernel_rfl) (by kernel_rfl) (by exact M.out.drew) ?_
  repeat (first
   | (refine BigFrame.wpQuiet_skip (by rfl) ?_; simp only [Act.put, List.setIfInBounds_toArray, List.set_cons_zero, List.set_cons_succ])
   | (refine BigFrame.wpQuiet_want (by rfl) (fun K hK => ?_); refine BigFrame.quiet_move _ rfl (hK _ ?_); clear hK K; simp only [Act.put, Act.eval, List.setIfInBounds_toArray, List.set_cons_zero, List.set_cons_succ, List.getD_toArray, List.getD_cons_zero, List.getD_cons_succ])
   | (refine BigFrame.wpQuiet_want (by rfl) (fun K hK => ?_); refine BigFrame.quiet_assign _ rfl (hK _ ?_); clear hK K; simp only [Act.put, Act.eval, List.setIfInBounds_toArray, List.set_cons_zero, List.set_cons_succ, List.getD_toArray, List.getD_cons_zero, List.getD_cons_succ])
   | (refine BigFrame.wpQuiet_want (by rfl) (fun K hK => ?_); refine quiet_of (v := ?_) (fun W hW => ?_) (hK _ ?_); rotate_left; ((have hq1 := hW.1; dsimp only [Loc.k4] at hq1); go_simp; try (with_reducible rfl)); clear hK K; simp only [Act.put, List.setIfInBounds_toArray, List.set_cons_zero, List.set_cons_succ])
   | (refine BigFrame.wpQuiet_want (by rfl) (fun K hK => ?_); go_simp; apply Exists.intro; refine ⟨fun W hW => ?_, hK _ ?_⟩; (first
    | exact (rvalid_is HVB.out _ lo hi _ (HV.out.after hW.2.1.1)).mono (fun e w' h => ⟨h.1, hW.below h.2⟩)
    | exact (rIsWord_is HWB.out lo' hi' _ _ (HW.out.after hW.2.1.1)).mono (fun e w' h => ⟨h.1, hW.below h.2⟩)
    | exact (rmarking_any n _ tl _ lo2 hi2 _ (HT.out.after hW.2.1.1)).mono (fun e w' h => ⟨h.1, hW.below h.2⟩)); clear hK K; try simp only [Act.put, List.setIfInBounds_toArray, List.set_cons_zero, List.set_cons_succ])
   | fail)
  refine wpQuiet_nil ?_
  intro W hW
  go_wp2_with fail
  refine HR.out _ _ ⟨zcy ?_, hW.2.1.1⟩
  first | exact HE.out.symm | (rw [HE.out]; rfl)
 | true =>
 have hpl := za8 hvb
 have hwr : IntKind.i64.wrap (n.places + 1) = n.places + 1 := IntWalk.i64_in _ (by omega)
 have HVB := Lib.hid hvb
 clear hvb
 cases hwb : zdh l with
 | false =>
  have HE : Hid (zct n l s = false) := Lib.hid (by simp [zct, hwb])
  have HWB := Lib.hid hwb
  clear hwb hs
  refine zax fun R hR => ?_
  have HR := Lib.hid hR
  clear hR
  go_enter Tryz.func31, Tryz.ntmps31
  have M : Hid (Mem [Loc.k4 w.heap.size (.int .i64 n.places) (.slice A n.trans.length c) (.int .i64 n.source) (.int .i64 n.sink), Loc.bl w.heap.size w] (w.alloc (.cells #[.int .i64 n.places, .slice A n.trans.length c, .int .i64 n.source, .int .i64 n.sink] 24))) := Lib.hid ⟨K4.new w _ _ _ _ _, ⟨(Below.refl _ _).alloc (Nat.le_refl _) _, by simp⟩, True.intro⟩
  have hk4 := M.out.1
  go_wp2_with fail
  refine zdq (C := (Mem [Loc.k4 w.heap.size (.int .i64 n.places) (.slice A n.trans.length c) (.int .i64 n.source) (.int .i64 n.sink), Loc.bl w.heap.size w])) (by kernel_rfl) (by kernel_rfl) (by exact M.out.drew) ?_
  repeat (first
   | (refine BigFrame.wpQuiet_skip (by rfl) ?_; simp only [Act.put, List.setIfInBounds_toArray, List.set_cons_zero, List.set_cons_succ])
   | (refine BigFrame.wpQuiet_want (by rfl) (fun K hK => ?_); refine BigFrame.quiet_move _ rfl (hK _ ?_); clear hK K; simp only [Act.put, Act.eval, List.setIfInBounds_toArray, List.set_cons_zero, List.set_cons_succ, List.getD_toArray, List.getD_cons_zero, List.getD_cons_succ])
   | (refine BigFrame.wpQuiet_want (by rfl) (fun K hK => ?_); refine BigFrame.quiet_assign _ rfl (hK _ ?_); clear hK K; simp only [Act.put, Act.eval, List.setIfInBounds_toArray, List.set_cons_zero, List.set_cons_succ, List.getD_toArray, List.getD_cons_zero, List.getD_cons_succ])
   | (refine BigFrame.wpQuiet_want (by rfl) (fun K hK => ?_); refine quiet_of (v := ?_) (fun W hW => ?_) (hK _ ?_); rotate_left; ((have hq1 := hW.1; dsimp only [Loc.k4] at hq1); go_simp; try (with_reducible rfl)); clear hK K; simp only [Act.put, List.setIfInBounds_toArray, List.set_cons_zero, List.set_cons_succ])
   | (refine BigFrame.wpQuiet_want (by rfl) (fun K hK => ?_); go_simp; apply Exists.intro; refine ⟨fun W hW => ?_, hK _ ?_⟩; (first
    | exact (rvalid_is HVB.out _ lo hi _ (HV.out.after hW.2.1.1)).mono (fun e w' h => ⟨h.1, hW.below h.2⟩)
    | exact (rIsWord_is HWB.out lo' hi' _ _ (HW.out.after hW.2.1.1)).mono (fun e w' h => ⟨h.1, hW.below h.2⟩)
    | exact (rmarking_any n _ tl _ lo2 hi2 _ (HT.out.after hW.2.1.1)).mono (fun e w' h => ⟨h.1, hW.below h.2⟩)); clear hK K; try simp only [Act.put, List.setIfInBounds_toArray, List.set_cons_zero, List.set_cons_succ])
   | fail)
  refine wpQuiet_nil ?_
  intro W hW
  go_wp2_with fail
  refine HR.out _ _ ⟨zcy ?_, hW.2.1.1⟩
  first | exact HE.out.symm | (rw [HE.out]; rfl)
 | true =>
 have HWB := Lib.hid hwb
 by_cases h1 : (s.length : Int) = n.places + 1
 ·
  have h1' : 1 ≤ s.length := by omega
  have hs0 : (0 : Int) < (s.length : Int) := by omega
  have hs2 : ¬ s = [] := by intro e; rw [e] at h1'; simp at h1'
  have hs3 : 0 < s.length := h1'
  have b1 : ((s.length : Int) == n.places + 1) = true := by rw [beq_iff_eq]; exact h1
  obtain ⟨b, off, rfl, _, _, hcell⟩ := RdI.at1 hs (k := 0) (by omega)
  obtain ⟨At, ct, hsl, ht⟩ := RdI.tail1 hs h1' hc3
  clear tl HT
  obtain ⟨tl, htl⟩ : ∃ tl, s.drop 1 = tl := ⟨_, rfl⟩
  rw [htl] at hsl ht
  have HE : Hid (zct n l s = (decide (0 ≤ gti s 0) && decide (gti s 0 ≤ l.length) && mark2B n tl)) := Lib.hid (by rw [← htl]; simp [zct, hwb, h1', zcu, HVB.out])
  have HTL := Lib.hid htl
  clear htl
  have HT := Lib.hid ht
  clear hs ht hwb
  simp only [Nat.add_zero] at hcell
  have HC := Lib.hid hcell
  clear hcell
  generalize gti s 0 = p at *
  have H1 := Lib.hid h1
  clear h1
  by_cases g1 : 0 ≤ p
  ·
   have b2 := decide_eq_true g1
   by_cases g2 : p ≤ l.length
   ·
    have b3 := decide_eq_true g2
    replace HE : Hid (zct n l s = mark2B n tl) := Lib.hid (by rw [HE.out, b2, b3]; rfl)
    refine zax fun R hR => ?_
    have HR := Lib.hid hR
    clear hR
    go_enter Tryz.func31, Tryz.ntmps31
    have M : Hid (Mem [Loc.k4 w.heap.size (.int .i64 n.places) (.slice (A) n.trans.length c) (.int .i64 n.source) (.int .i64 n.sink), Loc.bl w.heap.size w] (w.alloc (.cells #[.int .i64 n.places, .slice (A) n.trans.length c, .int .i64 n.source, .int .i64 n.sink] 24))) := Lib.hid ⟨K4.new w _ _ _ _ _, ⟨(Below.refl _ _).alloc (Nat.le_refl _) _, by simp⟩, True.intro⟩
    have hk4 := M.out.1
    have hcell := C1.aft M.out.2.1.1 HC.out
    go_wp2_with fail
    refine zdq (C := (Mem [Loc.k4 w.heap.size (.int .i64 n.places) (.slice A n.trans.length c) (.int .i64 n.source) (.int .i64 n.sink), Loc.bl w.heap.size w, Loc.c1 b off (.int .i64 p)])) (by kernel_rfl) (by kernel_rfl) (by exact Mem.drew (l := [_, _, Loc.c1 _ _ _]) ⟨M.out.1, M.out.2.1, hcell, True.intro⟩) ?_
    repeat (first
     | (refine BigFrame.wpQuiet_skip (by rfl) ?_; simp only [Act.put, List.setIfInBounds_toArray, List.set_cons_zero, List.set_cons_succ])
     | (refine BigFrame.wpQuiet_want (by rfl) (fun K hK => ?_); refine BigFrame.quiet_move _ rfl (hK _ ?_); clear hK K; simp only [Act.put, Act.eval, List.setIfInBounds_toArray, List.set_cons_zero, List.set_cons_succ, List.getD_toArray, List.getD_cons_zero, List.getD_cons_succ])
     | (refine BigFrame.wpQuiet_want (by rfl) (fun K hK => ?_); refine BigFrame.quiet_assign _ rfl (hK _ ?_); clear hK K; simp only [Act.put, Act.eval, List.setIfInBounds_toArray, List.set_cons_zero, List.set_cons_succ, List.getD_toArray, List.getD_cons_zero, List.getD_cons_succ])
     | (refine BigFrame.wpQuiet_want (by rfl) (fun K hK => ?_); refine quiet_of (v := ?_) (fun W hW => ?_) (hK _ ?_); rotate_left; ((have hq1 := hW.1; have hq2 := hW.2.2.1; dsimp only [Loc.k4, Loc.c1] at hq1 hq2); go_simp; try (with_reducible rfl)); clear hK K; simp only [Act.put, List.setIfInBounds_toArray, List.set_cons_zero, List.set_cons_succ])
     | (refine BigFrame.wpQuiet_want (by rfl) (fun K hK => ?_); go_simp; apply Exists.intro; refine ⟨fun W hW => ?_, hK _ ?_⟩; (first
      | exact (rvalid_is HVB.out _ lo hi _ (HV.out.after hW.2.1.1)).mono (fun e w' h => ⟨h.1, hW.below h.2⟩)
      | exact (rIsWord_is HWB.out lo' hi' _ _ (HW.out.after hW.2.1.1)).mono (fun e w' h => ⟨h.1, hW.below h.2⟩)
      | exact (rmarking_any n _ tl _ lo2 hi2 _ (HT.out.after hW.2.1.1)).mono (fun e w' h => ⟨h.1, hW.below h.2⟩)); clear hK K; try simp only [Act.put, List.setIfInBounds_toArray, List.set_cons_zero, List.set_cons_succ])
     | fail)
    refine wpQuiet_nil ?_
    intro W hW
    go_wp2_with fail
    refine HR.out _ _ ⟨zcy ?_, hW.2.1.1⟩
    first | exact HE.out.symm | (rw [HE.out]; rfl)
   ·
    have b3 := decide_eq_false g2
    replace HE : Hid (zct n l s = false) := Lib.hid (by rw [HE.out, b2, b3]; rfl)
    refine zax fun R hR => ?_
    have HR := Lib.hid hR
    clear hR
    go_enter Tryz.func31, Tryz.ntmps31
    have M : Hid (Mem [Loc.k4 w.heap.size (.int .i64 n.places) (.slice (A) n.trans.length c) (.int .i64 n.source) (.int .i64 n.sink), Loc.bl w.heap.size w] (w.alloc (.cells #[.int .i64 n.places, .slice (A) n.trans.length c, .int .i64 n.source, .int .i64 n.sink] 24))) := Lib.hid ⟨K4.new w _ _ _ _ _, ⟨(Below.refl _ _).alloc (Nat.le_refl _) _, by simp⟩, True.intro⟩
    have hk4 := M.out.1
    have hcell := C1.aft M.out.2.1.1 HC.out
    go_wp2_with fail
    refine zdq (C := (Mem [Loc.k4 w.heap.size (.int .i64 n.places) (.slice A n.trans.length c) (.int .i64 n.source) (.int .i64 n.sink), Loc.bl w.heap.size w, Loc.c1 b off (.int .i64 p)])) (by kernel_rfl) (by kernel_rfl) (by exact Mem.drew (l := [_, _, Loc.c1 _ _ _]) ⟨M.out.1, M.out.2.1, hcell, True.intro⟩) ?_
    repeat (first
     | (refine BigFrame.wpQuiet_skip (by rfl) ?_; simp only [Act.put, List.setIfInBounds_toArray, List.set_cons_zero, List.set_cons_succ])
     | (refine BigFrame.wpQuiet_want (by rfl) (fun K hK => ?_); refine BigFrame.quiet_move _ rfl (hK _ ?_); clear hK K; simp only [Act.put, Act.eval, List.setIfInBounds_toArray, List.set_cons_zero, List.set_cons_succ, List.getD_toArray, List.getD_cons_zero, List.getD_cons_succ])
     | (refine BigFrame.wpQuiet_want (by rfl) (fun K hK => ?_); refine BigFrame.quiet_assign _ rfl (hK _ ?_); clear hK K; simp only [Act.put, Act.eval, List.setIfInBounds_toArray, List.set_cons_zero, List.set_cons_succ, List.getD_toArray, List.getD_cons_zero, List.getD_cons_succ])
     | (refine BigFrame.wpQuiet_want (by rfl) (fun K hK => ?_); refine quiet_of (v := ?_) (fun W hW => ?_) (hK _ ?_); rotate_left; ((have hq1 := hW.1; have hq2 := hW.2.2.1; dsimp only [Loc.k4, Loc.c1] at hq1 hq2); go_simp; try (with_reducible rfl)); clear hK K; simp only [Act.put, List.setIfInBounds_toArray, List.set_cons_zero, List.set_cons_succ])
     | (refine BigFrame.wpQuiet_want (by rfl) (fun K hK => ?_); go_simp; apply Exists.intro; refine ⟨fun W hW => ?_, hK _ ?_⟩; (first
      | exact (rvalid_is HVB.out _ lo hi _ (HV.out.after hW.2.1.1)).mono (fun e w' h => ⟨h.1, hW.below h.2⟩)
      | exact (rIsWord_is HWB.out lo' hi' _ _ (HW.out.after hW.2.1.1)).mono (fun e w' h => ⟨h.1, hW.below h.2⟩)
      | exact (rmarking_any n _ tl _ lo2 hi2 _ (HT.out.after hW.2.1.1)).mono (fun e w' h => ⟨h.1, hW.below h.2⟩)); clear hK K; try simp only [Act.put, List.setIfInBounds_toArray, List.set_cons_zero, List.set_cons_succ])
     | fail)
    refine wpQuiet_nil ?_
    intro W hW
    go_wp2_with fail
    refine HR.out _ _ ⟨zcy ?_, hW.2.1.1⟩
    first | exact HE.out.symm | (rw [HE.out]; rfl)
  ·
   have b2 := decide_eq_false g1
   replace HE : Hid (zct n l s = false) := Lib.hid (by rw [HE.out, b2]; rfl)
   refine zax fun R hR => ?_
   have HR := Lib.hid hR
   clear hR
   go_enter Tryz.func31, Tryz.ntmps31
   have M : Hid (Mem [Loc.k4 w.heap.size (.int .i64 n.places) (.slice (A) n.trans.length c) (.int .i64 n.source) (.int .i64 n.sink), Loc.bl w.heap.size w] (w.alloc (.cells #[.int .i64 n.places, .slice (A) n.trans.length c, .int .i64 n.source, .int .i64 n.sink] 24))) := Lib.hid ⟨K4.new w _ _ _ _ _, ⟨(Below.refl _ _).alloc (Nat.le_refl _) _, by simp⟩, True.intro⟩
   have hk4 := M.out.1
   have hcell := C1.aft M.out.2.1.1 HC.out
   go_wp2_with fail
   refine zdq (C := (Mem [Loc.k4 w.heap.size (.int .i64 n.places) (.slice A n.trans.length c) (.int .i64 n.source) (.int .i64 n.sink), Loc.bl w.heap.size w, Loc.c1 b off (.int .i64 p)])) (by kernel_rfl) (by kernel_rfl) (by exact Mem.drew (l := [_, _, Loc.c1 _ _ _]) ⟨M.out.1, M.out.2.1, hcell, True.intro⟩) ?_
   repeat (first
    | (refine BigFrame.wpQuiet_skip (by rfl) ?_; simp only [Act.put, List.setIfInBounds_toArray, List.set_cons_zero, List.set_cons_succ])
    | (refine BigFrame.wpQuiet_want (by rfl) (fun K hK => ?_); refine BigFrame.quiet_move _ rfl (hK _ ?_); clear hK K; simp only [Act.put, Act.eval, List.setIfInBounds_toArray, List.set_cons_zero, List.set_cons_succ, List.getD_toArray, List.getD_cons_zero, List.getD_cons_succ])
    | (refine BigFrame.wpQuiet_want (by rfl) (fun K hK => ?_); refine BigFrame.quiet_assign _ rfl (hK _ ?_); clear hK K; simp only [Act.put, Act.eval, List.setIfInBounds_toArray, List.set_cons_zero, List.set_cons_succ, List.getD_toArray, List.getD_cons_zero, List.getD_cons_succ])
    | (refine BigFrame.wpQuiet_want (by rfl) (fun K hK => ?_); refine quiet_of (v := ?_) (fun W hW => ?_) (hK _ ?_); rotate_left; ((have hq1 := hW.1; have hq2 := hW.2.2.1; dsimp only [Loc.k4, Loc.c1] at hq1 hq2); go_simp; try (with_reducible rfl)); clear hK K; simp only [Act.put, List.setIfInBounds_toArray, List.set_cons_zero, List.set_cons_succ])
    | (refine BigFrame.wpQuiet_want (by rfl) (fun K hK => ?_); go_simp; apply Exists.intro; refine ⟨fun W hW => ?_, hK _ ?_⟩; (first
     | exact (rvalid_is HVB.out _ lo hi _ (HV.out.after hW.2.1.1)).mono (fun e w' h => ⟨h.1, hW.below h.2⟩)
     | exact (rIsWord_is HWB.out lo' hi' _ _ (HW.out.after hW.2.1.1)).mono (fun e w' h => ⟨h.1, hW.below h.2⟩)
     | exact (rmarking_any n _ tl _ lo2 hi2 _ (HT.out.after hW.2.1.1)).mono (fun e w' h => ⟨h.1, hW.below h.2⟩)); clear hK K; try simp only [Act.put, List.setIfInBounds_toArray, List.set_cons_zero, List.set_cons_succ])
    | fail)
   refine wpQuiet_nil ?_
   intro W hW
   go_wp2_with fail
   refine HR.out _ _ ⟨zcy ?_, hW.2.1.1⟩
   first | exact HE.out.symm | (rw [HE.out]; rfl)
 ·
  have b1 : ((s.length : Int) == n.places + 1) = false := by rw [beq_eq_false_iff_ne]; exact h1
  have HE : Hid (zct n l s = false) := Lib.hid (stateB_len hpl.1 h1)
  clear hwb hs h1
  refine zax fun R hR => ?_
  have HR := Lib.hid hR
  clear hR
  go_enter Tryz.func31, Tryz.ntmps31
  have M : Hid (Mem [Loc.k4 w.heap.size (.int .i64 n.places) (.slice A n.trans.length c) (.int .i64 n.source) (.int .i64 n.sink), Loc.bl w.heap.size w] (w.alloc (.cells #[.int .i64 n.places, .slice A n.trans.length c, .int .i64 n.source, .int .i64 n.sink] 24))) := Lib.hid ⟨K4.new w _ _ _ _ _, ⟨(Below.refl _ _).alloc (Nat.le_refl _) _, by simp⟩, True.intro⟩
  have hk4 := M.out.1
  go_wp2_with fail
  refine zdq (C := (Mem [Loc.k4 w.heap.size (.int .i64 n.places) (.slice A n.trans.length c) (.int .i64 n.source) (.int .i64 n.sink), Loc.bl w.heap.size w])) (by kernel_rfl) (by kernel_rfl) (by exact M.out.drew) ?_
  repeat (first
   | (refine BigFrame.wpQuiet_skip (by rfl) ?_; simp only [Act.put, List.setIfInBounds_toArray, List.set_cons_zero, List.set_cons_succ])
   | (refine BigFrame.wpQuiet_want (by rfl) (fun K hK => ?_); refine BigFrame.quiet_move _ rfl (hK _ ?_); clear hK K; simp only [Act.put, Act.eval, List.setIfInBounds_toArray, List.set_cons_zero, List.set_cons_succ, List.getD_toArray, List.getD_cons_zero, List.getD_cons_succ])
   | (refine BigFrame.wpQuiet_want (by rfl) (fun K hK => ?_); refine BigFrame.quiet_assign _ rfl (hK _ ?_); clear hK K; simp only [Act.put, Act.eval, List.setIfInBounds_toArray, List.set_cons_zero, List.set_cons_succ, List.getD_toArray, List.getD_cons_zero, List.getD_cons_succ])
   | (refine BigFrame.wpQuiet_want (by rfl) (fun K hK => ?_); refine quiet_of (v := ?_) (fun W hW => ?_) (hK _ ?_); rotate_left; ((have hq1 := hW.1; dsimp only [Loc.k4] at hq1); go_simp; try (with_reducible rfl)); clear hK K; simp only [Act.put, List.setIfInBounds_toArray, List.set_cons_zero, List.set_cons_succ])
   | (refine BigFrame.wpQuiet_want (by rfl) (fun K hK => ?_); go_simp; apply Exists.intro; refine ⟨fun W hW => ?_, hK _ ?_⟩; (first
    | exact (rvalid_is HVB.out _ lo hi _ (HV.out.after hW.2.1.1)).mono (fun e w' h => ⟨h.1, hW.below h.2⟩)
    | exact (rIsWord_is HWB.out lo' hi' _ _ (HW.out.after hW.2.1.1)).mono (fun e w' h => ⟨h.1, hW.below h.2⟩)
    | exact (rmarking_any n _ tl _ lo2 hi2 _ (HT.out.after hW.2.1.1)).mono (fun e w' h => ⟨h.1, hW.below h.2⟩)); clear hK K; try simp only [Act.put, List.setIfInBounds_toArray, List.set_cons_zero, List.set_cons_succ])
   | fail)
  refine wpQuiet_nil ?_
  intro W hW
  go_wp2_with fail
  refine HR.out _ _ ⟨zcy ?_, hW.2.1.1⟩
  first | exact HE.out.symm | (rw [HE.out]; rfl)
end Go.Proofs.YtjhdcgaiccnmeaaGreatDoor
end
section
namespace Go.Proofs.YtjhdcgaiccnmeaaGreatDoor
open Go.RowKit
def applyE (n : Net) (w : List ByteArray) (s : List Int) (m : Stp) : List Int × Int :=
 if m.kind = 2 then
  if m.trans ≠ -1 then ([], 2) else if nameB m.act = false then ([], 8) else if atB w (gti s 0) m.act = false then ([], 10) else ((gti s 0 + 1) :: s.drop 1, 0)
 else if m.trans < 0 ∨ (n.trans.length : Int) ≤ m.trans then ([], 2)
 else if m.act ≠ (gti n.trans m.trans.toNat).label ∨ (gti n.trans m.trans.toNat).label.toList.isEmpty ≠ decide (m.kind = 4) then ([], 8)
 else if m.kind = 1 ∧ atB w (gti s 0) m.act = false then ([], 10)
 else if (FireE n (s.drop 1) m.trans).2 ≠ 0 then ([], (FireE n (s.drop 1) m.trans).2)
 else ((if m.kind = 1 then gti s 0 + 1 else gti s 0) :: (FireE n (s.drop 1) m.trans).1, 0)
abbrev stpV (m : Stp) : Value := .agg #[.int .i64 m.kind, .int .i64 m.trans, .string m.act]
theorem fireE_len {n : Net} {m : List Int} {t : Int} : (FireE n m t).1.length ≤ m.length := by
 unfold FireE fireE
 split
 ·
  split
  ·
   simp
  ·
   split
   ·
    split
    ·
     simp
    ·
     simp [incL_len, decL_len]
   ·
    simp
 ·
  simp
set_option maxRecDepth 100000 in
set_option maxHeartbeats 4000000 in
theorem apply_any (n : Net) (l : List ByteArray) (s : List Int) (m : Stp) (vt v vs : Value) (lo hi lo' hi' lo2 hi2 : Nat) (w : World) (hv : RdT w lo hi vt n.trans) (hw : RdS w lo' hi' v l) (hs : RdI w lo2 hi2 vs s)
  (h1 : 1 ≤ s.length) (h2 : s.length ≤ 1000) (h3 : 0 ≤ gti s 0) (h4 : gti s 0 ≤ l.length) (h5 : l.length ≤ 1000) :
  Calls Tryz.prog 88 #[netV n vt, v, vs, stpV m] w (RetI w (applyE n l s m)) := by
 obtain ⟨A, c, rfl, hc, hmm⟩ := hv.form
 obtain ⟨A2, c2, rfl, hc2, hmm2⟩ := hw.form
 obtain ⟨A3, c3, rfl, hc3, hmm3⟩ := hs.form
 have HV := Lib.hid hv
 have HW := Lib.hid hw
 have HS := Lib.hid hs
 clear hv hw
 obtain ⟨b, off, rfl, _, _, hcell⟩ := RdI.at1 hs (k := 0) (by omega)
 obtain ⟨At, ct, hsl, ht⟩ := RdI.tail1 hs h1 hc3
 obtain ⟨tl, htl⟩ : ∃ tl, s.drop 1 = tl := ⟨_, rfl⟩
 have htl2 : tl.length ≤ 1000 := by rw [← htl]; simp; omega
 rw [htl] at hsl ht
 have HAE := Lib.hid (show applyE n l s m = _ from by unfold applyE; rfl)
 rw [htl] at HAE
 have HT := Lib.hid ht
 have hs0 : (0 : Int) < (s.length : Int) := by omega
 have hs2 : ¬ s = [] := by intro e; rw [e] at h1; simp at h1
 have hs3 : 0 < s.length := h1
 clear hs ht htl
 simp only [Nat.add_zero] at hcell
 have HC := Lib.hid hcell
 clear hcell
 generalize gti s 0 = p at *
 obtain ⟨kd, tr, ac⟩ := m
 simp only at HAE
 have hM : ∀ (w0 : World), Mem [Loc.k3 (w0.heap.size + 1) (.int .i64 kd) (.int .i64 tr) (.string ac), Loc.k4 w0.heap.size (.int .i64 n.places) (.slice A n.trans.length c) (.int .i64 n.source) (.int .i64 n.sink), Loc.bl w0.heap.size w0] ((w0.alloc (.cells #[.int .i64 n.places, .slice A n.trans.length c, .int .i64 n.source, .int .i64 n.sink] 24)).alloc (.cells #[.int .i64 kd, .int .i64 tr, .string ac] 37)) := fun w0 =>
  ⟨by have := K3.new (w0.alloc (.cells #[.int .i64 n.places, .slice A n.trans.length c, .int .i64 n.source, .int .i64 n.sink] 24)) (.int .i64 kd) (.int .i64 tr) (.string ac) 37; rw [World.size_alloc] at this; exact this, K4.aft ((Below.refl _ _).alloc (Nat.le_refl _) _) (K4.new w0 _ _ _ _ _), ⟨((Below.refl _ _).alloc (Nat.le_refl _) _).alloc (by simp) _, by simp; omega⟩, True.intro⟩
 by_cases hk2 : kd = 2
 ·
  subst hk2
  refine zax fun R hR => ?_
  have HR := Lib.hid hR
  clear hR
  go_enter Tryz.func88, Tryz.ntmps88
  have M := Lib.hid (hM w)
  clear hM
  have hk3 := M.out.1
  have hcell := C1.aft M.out.2.2.1.1 HC.out
  go_wp2_with fail
  go_quiet (fail)
  replace M := Lib.hid (M.out.drewN nq)
  replace hk3 := M.out.1
  generalize World.drewN _ nq = W at *
  go_wp2_with (first
   | (go_at_call 124; refine (isName_any _ _).mono ?_; rintro e w1 ⟨rfl, hb1⟩; replace M := Lib.hid (M.out.below hb1); clear hb1; replace hk3 := M.out.1)
   | (go_at_call 116; refine (at_any l p _ lo' hi' _ _ (HW.out.after M.out.2.2.1.1) h3).mono ?_; rintro e w1 ⟨rfl, hb1⟩; replace M := Lib.hid (M.out.below hb1); clear hb1; replace hk3 := M.out.1; have hz1 := M.out.1.2.2.2; have hz0 := M.out.2.1.2.2.2.2)
   | (at_builtin; refine wpList_app rfl _ _ rfl ti_int (fun _ => rfl) oneI rfl rfl (Mem.lit1 M.out (p + 1)) (by (repeat' (first | exact True.intro | refine And.intro (fun k hk e => ?_) ?_)) <;> (first | exact e | ((try dsimp only [Loc.c1, Loc.c2, Loc.k1, Loc.k2, Loc.k3, Loc.k4, Loc.k6, Loc.fr, Loc.bl, Loc.own, Loc.sz, Loc.rd, Loc.rdI, Loc.rdS, Loc.rdM, Loc.rdT, Loc.ow, Loc.owI] at hk e) <;> omega))) (HT.out.after (M.out.2.2.1.1.alloc M.out.2.2.1.2 _)) (by simp; omega) (by simp; omega) (by simp) ?_; intro A9 c9 w9 hM1 hs1 hch1; replace M := Lib.hid hM1; clear hM1 hch1))
  all_goals have hae := HAE.out
  all_goals clear HAE
  all_goals first
   | exact HR.out _ _ (RetI.nil (by rw [hae]; clear hae; go_light; grind) M.out.2.2.1.1)
   | exact HR.out _ _ (RetI.mk (l := (p + 1) :: tl) (by rw [hae]; clear hae; go_light; grind) (by simp; omega) M.out.1.rd (by omega) (Nat.le_refl _) M.out.2.2.2.1.1)
 ·
  by_cases ht : tr < 0 ∨ n.trans.length ≤ tr
  ·
   have HTT := Lib.hid ht
   have HK2 := Lib.hid hk2
   have hk2' : (kd == 2) = false := by simpa using hk2
   refine zax fun R hR => ?_
   have HR := Lib.hid hR
   clear hR
   go_enter Tryz.func88, Tryz.ntmps88
   have M := Lib.hid (hM w)
   clear hM
   have hk3 := M.out.1
   have hk4 := M.out.2.1
   have hcell := C1.aft M.out.2.2.1.1 HC.out
   go_wp2_with fail
   go_quiet (fail)
   replace M := Lib.hid (M.out.drewN nq)
   replace hk3 := M.out.1
   replace hk4 := M.out.2.1
   generalize World.drewN _ nq = W at *
   go_wp2_with fail
   all_goals have hae := HAE.out
   all_goals rw [if_neg HK2.out, if_pos HTT.out] at hae
   all_goals first
    | exact HR.out _ _ (RetI.nil hae M.out.2.2.1.1)
    | (exfalso; go_light; omega)
  ·
   have HTT := Lib.hid ht
   have HK2 := Lib.hid hk2
   have hk2' : (kd == 2) = false := by simpa using hk2
   obtain ⟨kt, rfl⟩ : ∃ k : Nat, tr = k := ⟨tr.toNat, by omega⟩
   have hlt : kt < n.trans.length := by omega
   clear ht
   obtain ⟨b4, off4, vi, vo, rfl, hbl, hbh, hcl, hri, hro⟩ := RdT.at3 HV.out hlt
   have HCL := Lib.hid hcl
   have hx1 : ((kt : Int) < 0) = False := by simp
   have hx2 : ((n.trans.length : Int) ≤ (kt : Int)) = False := by simp; omega
   have HFL := Lib.hid (fireE_len (n := n) (m := tl) (t := kt))
   rw [if_neg HK2.out, if_neg HTT.out, Int.toNat_natCast] at HAE
   generalize gti n.trans kt = x at *
   clear hri hro hcl
   have HFE := Lib.hid (fun (W : World) (h : Below w.heap.size w W) => Fire_any n tl kt _ _ lo hi lo2 hi2 W (HV.out.after h) (HT.out.after h))
   obtain ⟨⟨fl, fe⟩, hfe⟩ : ∃ r, FireE n tl kt = r := ⟨_, rfl⟩
   rw [hfe] at HAE HFE HFL
   simp only at HAE HFL
   clear hfe
   refine zax fun R hR => ?_
   have HR := Lib.hid hR
   clear hR
   go_enter Tryz.func88, Tryz.ntmps88
   have M := Lib.hid (hM w)
   clear hM
   have hk3 := M.out.1
   have hk4 := M.out.2.1
   have hcell := C1.aft M.out.2.2.1.1 HC.out
   go_wp2_with fail
   go_quiet (fail)
   replace M := Lib.hid (M.out.drewN nq)
   replace hk3 := M.out.1
   replace hk4 := M.out.2.1
   generalize World.drewN _ nq = W at *
   have hcr := C3.aft M.out.2.2.1.1 HCL.out
   go_wp2_with (first
    | (go_at_call 116; refine (at_any l p _ lo' hi' _ _ (HW.out.after M.out.2.2.1.1) h3).mono ?_; rintro e w1 ⟨rfl, hb1⟩; replace M := Lib.hid (M.out.below hb1); clear hb1; replace hk3 := M.out.1; replace hk4 := M.out.2.1)
    | (go_at_call 115; refine (HFE.out _ M.out.2.2.1.1).mono ?_; rintro e w6 ⟨A6, c6, rfl, hr6, hb6⟩; have hz0 := M.out.2.1.2.2.2.2; have hz1 := M.out.1.2.2.2; have hz6 := hb6.size; replace M := Lib.hid (M.out.below hb6); have HR6 := Lib.hid hr6; dsimp only at HR6 ⊢; clear hb6 hr6)
    | (at_builtin; refine wpList_app rfl _ _ rfl ti_int (fun _ => rfl) oneI rfl rfl (Mem.lit1 M.out _) (by (repeat' (first | exact True.intro | refine And.intro (fun k hk e => ?_) ?_)) <;> (first | exact e | ((try dsimp only [Loc.c1, Loc.c2, Loc.k1, Loc.k2, Loc.k3, Loc.k4, Loc.k6, Loc.fr, Loc.bl, Loc.own, Loc.sz, Loc.rd, Loc.rdI, Loc.rdS, Loc.rdM, Loc.rdT, Loc.ow, Loc.owI] at hk e) <;> omega))) (HR6.out.after ((Below.refl _ _).alloc (Nat.le_refl _) _)) (by have := HFL.out; simp; omega) (by have := HFL.out; simp; omega) (by simp) ?_; intro A9 c9 w9 hM1 hs1 hch1; replace M := Lib.hid hM1; clear hM1 hch1))
   all_goals have hae := HAE.out
   all_goals clear HAE
   all_goals have hinj := @toList_inj ac x.label
   all_goals first
    | exact HR.out _ _ (RetI.nil (by rw [hae]; clear hae; go_light; grind) M.out.2.2.1.1)
    | exact HR.out _ _ (RetI.mk (by rw [hae]; clear hae; go_light; grind) (by simp; omega) M.out.1.rd (by omega) (Nat.le_refl _) M.out.2.2.2.1.1)
end Go.Proofs.YtjhdcgaiccnmeaaGreatDoor
end
section
namespace Go.Proofs.YtjhdcgaiccnmeaaGreatDoor
open Go.RowKit
def zb4 (n : Net) (w : List ByteArray) (s : List Int) (m : Stp) : List Int × Int := if zct n w s && kindB m.kind then applyE n w s m else ([], 1)
theorem isState_is {n : Net} {l : List ByteArray} {s : List Int} {z : Bool} (hz : zct n l s = z) (vt v vs : Value) (lo hi lo' hi' lo2 hi2 : Nat) (w : World) (hv : RdT w lo hi vt n.trans) (hw : RdS w lo' hi' v l) (hs : RdI w lo2 hi2 vs s) :
  Calls Tryz.prog 114 #[netV n vt, v, vs] w fun e w' => e = .returned (.bool z) ∧ Below w.heap.size w w' := hz ▸ isState_any n l s vt v vs lo hi lo' hi' lo2 hi2 w hv hw hs
theorem kind_is {k : Int} {z : Bool} (hz : kindB k = z) (w : World) : Calls Tryz.prog 118 #[.int .i64 k] w fun e w' => e = .returned (.bool z) ∧ Below w.heap.size w w' := hz ▸ kind_any k w
theorem zdp {n : Net} {l : List ByteArray} {s : List Int} (h : zct n l s = true) : 1 ≤ s.length ∧ s.length ≤ 1000 ∧ 0 ≤ gti s 0 ∧ gti s 0 ≤ l.length ∧ l.length ≤ 200 := by
 obtain ⟨h1, h2, h3, h4, h5⟩ := zc6.1 h
 unfold zcu at h5
 simp only [Bool.and_eq_true] at h5
 have h6 := mark2B_len h5.2
 have h7 := za8 h5.1
 unfold zdh at h1
 simp only [Bool.and_eq_true, decide_eq_true_eq] at h1
 simp at h6
 omega
theorem stepM (kd tr : Int) (ac : ByteArray) (n : Net) (vt : Value) (w0 : World) : Mem [Loc.k3 (w0.heap.size + 1) (.int .i64 kd) (.int .i64 tr) (.string ac), Loc.k4 w0.heap.size (.int .i64 n.places) (vt) (.int .i64 n.source) (.int .i64 n.sink), Loc.bl w0.heap.size w0] ((w0.alloc (.cells #[.int .i64 n.places, vt, .int .i64 n.source, .int .i64 n.sink] 24)).alloc (.cells #[.int .i64 kd, .int .i64 tr, .string ac] 37)) :=
 ⟨by have := K3.new (w0.alloc (.cells #[.int .i64 n.places, vt, .int .i64 n.source, .int .i64 n.sink] 24)) (.int .i64 kd) (.int .i64 tr) (.string ac) 37; rw [World.size_alloc] at this; exact this, K4.aft ((Below.refl _ _).alloc (Nat.le_refl _) _) (K4.new w0 _ _ _ _ _), ⟨((Below.refl _ _).alloc (Nat.le_refl _) _).alloc (by simp) _, by simp; omega⟩, True.intro⟩
set_option maxHeartbeats 1000000 in
theorem Apply_any (n : Net) (l : List ByteArray) (s : List Int) (m : Stp) (vt v vs : Value) (lo hi lo' hi' lo2 hi2 : Nat) (w : World) (hv : RdT w lo hi vt n.trans) (hw : RdS w lo' hi' v l) (hs : RdI w lo2 hi2 vs s) :
  Calls Tryz.prog 70 #[netV n vt, v, vs, stpV m] w (RetI w (zb4 n l s m)) := by
 obtain ⟨A, c, rfl, hc, hmm⟩ := hv.form
 obtain ⟨A2, c2, rfl, hc2, hmm2⟩ := hw.form
 obtain ⟨A3, c3, rfl, hc3, hmm3⟩ := hs.form
 have HV := Lib.hid hv
 have HW := Lib.hid hw
 have HS := Lib.hid hs
 clear hv hw hs
 obtain ⟨z, hz⟩ : ∃ z, zct n l s = z := ⟨_, rfl⟩
 obtain ⟨y, hy⟩ : ∃ y, kindB m.kind = y := ⟨_, rfl⟩
 have HZ := Lib.hid hz
 have HY := Lib.hid hy
 have HAE : Hid (zb4 n l s m = if z && y then applyE n l s m else ([], 1)) := Lib.hid (by rw [zb4, hz, hy])
 clear hz hy
 have hM := stepM m.kind m.trans m.act n (.slice A n.trans.length c)
 cases z <;> cases y
 all_goals
  refine zax fun R hR => ?_
  have HR := Lib.hid hR
  clear hR
  go_enter Tryz.func70, Tryz.ntmps70
  have M := Lib.hid (hM w)
  have hk3 := M.out.1
  have hk4 := M.out.2.1
  go_wp2_with (first
   | (go_at_call 114; refine (isState_is HZ.out _ _ _ lo hi lo' hi' lo2 hi2 _ (HV.out.after M.out.2.2.1.1) (HW.out.after M.out.2.2.1.1) (HS.out.after M.out.2.2.1.1)).mono ?_; rintro e w1 ⟨rfl, hb1⟩; replace M := Lib.hid (M.out.below hb1); clear hb1; replace hk3 := M.out.1; replace hk4 := M.out.2.1)
   | (go_at_call 118; refine (kind_is HY.out _).mono ?_; rintro e w1 ⟨rfl, hb1⟩; replace M := Lib.hid (M.out.below hb1); clear hb1; replace hk3 := M.out.1; replace hk4 := M.out.2.1)
   | (go_at_call 88; refine (apply_any n l s m _ _ _ lo hi lo' hi' lo2 hi2 _ (HV.out.after M.out.2.2.1.1) (HW.out.after M.out.2.2.1.1) (HS.out.after M.out.2.2.1.1) (zdp HZ.out).1 (zdp HZ.out).2.1 (zdp HZ.out).2.2.1 (zdp HZ.out).2.2.2.1 (by have := (zdp HZ.out).2.2.2.2; omega)).mono ?_; rintro e w7 ⟨A7, c7, rfl, hr7, hb7⟩; have HR7 := Lib.hid hr7; have hz7 := M.out.2.2.1.2; replace M := Lib.hid (M.out.below hb7); clear hb7 hr7))
 ·
  exact HR.out _ _ (RetI.nil (by rw [HAE.out]; rfl) M.out.2.2.1.1)
 ·
  exact HR.out _ _ (RetI.nil (by rw [HAE.out]; rfl) M.out.2.2.1.1)
 ·
  exact HR.out _ _ (RetI.nil (by rw [HAE.out]; rfl) M.out.2.2.1.1)
 ·
  exact HR.out _ _ (RetI.mk (by rw [HAE.out]; rfl) rfl HR7.out hz7 (Nat.le_refl _) M.out.2.2.1.1)
end Go.Proofs.YtjhdcgaiccnmeaaGreatDoor
end
section
namespace Go.Proofs.YtjhdcgaiccnmeaaGreatDoor
open Go.RowKit
structure Mvx where
 fr : Int
 tt : Int
 sym : Int
instance : Inhabited Mvx := ⟨⟨0, 0, 0⟩⟩
structure Spc where
 st : List (List Int)
 mv : List Mvx
 full : Bool
def zc2 (S : List (List Int)) (m : List Int) : Int := zc1 (fun x => decide (x = m)) S
def xstS (most : Int) (i : Nat) (s : Spc) (r : List Int × Int) (t : Int) : Option Spc :=
 if r.2 ≠ 0 ∨ (zc2 s.st r.1 < 0 ∧ most ≤ s.st.length) then some ⟨s.st, s.mv, false⟩
 else if 20000 ≤ s.mv.length then none
 else some ⟨if zc2 s.st r.1 < 0 then s.st ++ [r.1] else s.st, s.mv ++ [⟨i, if zc2 s.st r.1 < 0 then s.st.length else zc2 s.st r.1, t⟩], s.full⟩
theorem mem_gti' {α : Type} [Inhabited α] {l : List α} {x : α} (h : x ∈ l) : ∃ k, k < l.length ∧ gti l k = x := by
 obtain ⟨k, hk, rfl⟩ := List.getElem_of_mem h
 exact ⟨k, hk, by unfold gti; rw [List.getElem?_eq_getElem hk]; rfl⟩
theorem findI_ge (S : List (List Int)) (m : List Int) : -1 ≤ zc2 S m := firstAt_ge _ _
theorem findI_neg {S : List (List Int)} {m : List Int} : zc2 S m < 0 ↔ m ∉ S := by
 have h := zc0 (fun x => decide (x = m)) S
 unfold zc2
 rw [Bool.eq_iff_iff, List.any_eq_true] at h
 simp only [decide_eq_true_eq] at h
 constructor
 ·
  intro hn hm
  have := h.2 ⟨m, hm, rfl⟩
  omega
 ·
  intro hm
  by_cases h0 : 0 ≤ zc1 (fun x => decide (x = m)) S
  ·
   obtain ⟨x, hx, rfl⟩ := h.1 h0
   exact absurd hx hm
  ·
   omega
theorem findI_pos {S : List (List Int)} {m : List Int} (h : 0 ≤ zc2 S m) : ∃ k : Nat, zc2 S m = k ∧ S[k]? = some m ∧ k < S.length := by
 unfold zc2 zc1 at h ⊢
 cases e : S.findIdx? (fun x => decide (x = m)) with
 | none => rw [e] at h; simp at h
 | some k =>
  refine ⟨k, rfl, ?_, ?_⟩
  ·
   have := List.findIdx?_eq_some_iff_getElem.1 e
   obtain ⟨h1, h2, _⟩ := this
   rw [List.getElem?_eq_getElem h1]
   exact congrArg some (of_decide_eq_true h2)
  ·
   exact (List.findIdx?_eq_some_iff_getElem.1 e).1
theorem findI_at {S : List (List Int)} {m : List Int} {k : Nat} (hk : S[k]? = some m) (hn : ∀ j, j < k → S[j]? ≠ some m) : zc2 S m = k :=
 zcs hk (decide_eq_true rfl) (fun j a hj ha => decide_eq_false (fun e => hn j hj (by rw [ha, e])))
theorem findI_snoc_self {S : List (List Int)} {m : List Int} (h : m ∉ S) : zc2 (S ++ [m]) m = S.length :=
 findI_at (by simp) (fun j hj e => h (by rw [List.getElem?_append_left hj] at e; exact List.mem_of_getElem? e))
theorem findI_snoc_old {S : List (List Int)} {m x : List Int} (h : m ∈ S) : zc2 (S ++ [x]) m = zc2 S m := by
 obtain ⟨k, h1, h2, h3⟩ := findI_pos (S := S) (m := m) (by by_cases h0 : zc2 S m < 0; exact absurd h (findI_neg.1 h0); omega)
 unfold zc2 zc1 at *
 rw [List.findIdx?_append]
 cases e : S.findIdx? (fun x => decide (x = m)) with
 | none => rw [e] at h1; simp at h1
 | some k => rfl
theorem FireE_mark {n : Net} {m : List Int} {t : Int} (hm : zcu n m = true) (h : (FireE n m t).2 = 0) : zcu n (FireE n m t).1 = true := by
 unfold FireE at h ⊢
 rw [if_pos hm] at h ⊢
 exact fireE_mark hm h
theorem markB_small {n : Net} {m : List Int} (h : zcu n m = true) : ∀ x ∈ m, 0 ≤ x ∧ x ≤ 255 := by
 intro x hx
 unfold zcu at h
 simp only [Bool.and_eq_true] at h
 obtain ⟨k, _, rfl⟩ := mem_gti' hx
 have := mark2B_at h.2 k
 omega
theorem markB_len {n : Net} {m : List Int} (h : zcu n m = true) : 1 ≤ m.length ∧ m.length ≤ 40 ∧ (m.length : Int) = n.places := by
 unfold zcu at h
 simp only [Bool.and_eq_true] at h
 have := mark2B_len h.2
 have := za8 h.1
 omega
structure SI (n : Net) (most : Int) (s : Spc) : Prop where
 marks : ∀ x ∈ s.st, zcu n x = true
 nd : s.st.Nodup
 ne : 1 ≤ s.st.length
 le : (s.st.length : Int) ≤ most
 mvs : s.mv.length ≤ 20000
theorem SI.init {n : Net} {m : List Int} {most : Int} (h : zcu n m = true) (h1 : ¬ most < 1) : SI n most ⟨[m], [], true⟩ :=
 ⟨fun x hx => by simp at hx; subst hx; exact h, by simp, by simp, by simp; omega, by simp⟩
theorem SI.step {n : Net} {most : Int} {s s' : Spc} {i : Nat} {x : List Int} {t : Int} (h : SI n most s) (hx : zcu n x = true) (he : xstS most i s (FireE n x t) t = some s') : SI n most s' := by
 unfold xstS at he
 split at he
 ·
  cases he; exact ⟨h.marks, h.nd, h.ne, h.le, h.mvs⟩
 ·
  rename_i h1
  split at he
  ·
   cases he
  ·
   rename_i h2
   cases he
   have h0 : (FireE n x t).2 = 0 := Classical.byContradiction fun hc => h1 (.inl hc)
   by_cases hf : zc2 s.st (FireE n x t).1 < 0
   ·
    simp only [if_pos hf]
    have hlt : ¬ most ≤ s.st.length := fun hc => h1 (.inr ⟨hf, hc⟩)
    refine ⟨fun y hy => ?_, ?_, by simp, by simp; omega, by simp; omega⟩
    ·
     rcases List.mem_append.1 hy with hy | hy
     ·
      exact h.marks y hy
     ·
      simp at hy; subst hy; exact FireE_mark hx h0
    ·
     refine List.nodup_append.2 ⟨h.nd, by simp, fun a ha b hb e => ?_⟩
     simp at hb
     subst hb e
     exact findI_neg.1 hf ha
   ·
    simp only [if_neg hf]
    exact ⟨h.marks, h.nd, h.ne, h.le, by simp; omega⟩
theorem SI.gti {n : Net} {most : Int} {s : Spc} (h : SI n most s) {i : Nat} (hi : i < s.st.length) : zcu n (gti s.st i) = true := h.marks _ (gti_mem hi)
end Go.Proofs.YtjhdcgaiccnmeaaGreatDoor
end
section
namespace Go.Proofs.YtjhdcgaiccnmeaaGreatDoor.Dl
open Go.RowKit
structure Gr where
 st : List (List Int)
 ed : List Edg
def idx (S : List (List Int)) (x : List Int) : Nat := if zc2 S x < 0 then S.length else (zc2 S x).toNat
def oneD (most : Int) (i : Nat) (r : List Int × Int) (g : Gr) : Option Gr :=
 if zc2 g.st r.1 < 0 ∧ most ≤ g.st.length then none
 else some ⟨if zc2 g.st r.1 < 0 then g.st ++ [r.1] else g.st, g.ed ++ [⟨i, idx g.st r.1, r.2⟩]⟩
def rowD (most : Int) (i : Nat) : List (List Int × Int) → Gr → Option Gr
 | [], g => some g
 | r :: l, g => (oneD most i r g).bind (rowD most i l)
def bfsD (nx : List Int → List (List Int × Int)) (most : Int) : Nat → Nat → Gr → Option Gr
 | 0, _, g => some g
 | f + 1, i, g => if i < g.st.length then (rowD most i (nx (gti g.st i)) g).bind (bfsD nx most f (i + 1)) else some g
section
variable {nx : List Int → List (List Int × Int)} {s0 : List Int} {most : Int} {okS : List Int → Prop}
structure BI (nx : List Int → List (List Int × Int)) (s0 : List Int) (most : Int) (okS : List Int → Prop) (g : Gr) : Prop where
 h0 : g.st[0]? = some s0
 nd : g.st.Nodup
 le : (g.st.length : Int) ≤ most
 ok : ∀ x ∈ g.st, okS x
 eok : ∀ e ∈ g.ed, e.a < g.st.length ∧ e.b < g.st.length ∧ 0 ≤ e.c ∧ e.c ≤ 1000 ∧ (gti g.st e.b, e.c) ∈ nx (gti g.st e.a)
 rch : ∀ j, j < g.st.length → ∃ d, d ≤ 1000 * (j : Int) ∧ Way g.ed j 0 d
structure NxOk (nx : List Int → List (List Int × Int)) (okS : List Int → Prop) : Prop where
 ok : ∀ x, okS x → ∀ r ∈ nx x, okS r.1 ∧ 0 ≤ r.2 ∧ r.2 ≤ 1000
 len : ∀ x, okS x → (nx x).length ≤ 4000
theorem Way.mono {M M' : List Edg} (h : ∀ e ∈ M, e ∈ M') {t k : Nat} {d : Int} (w : Way M t k d) : Way M' t k d := by
 induction w with
 | nil => exact .nil
 | cons e d he _ ih => exact .cons e d (h e he) ih
theorem idx_new {S : List (List Int)} {x : List Int} (h : zc2 S x < 0) : idx S x = S.length := by unfold idx; rw [if_pos h]
theorem idx_old {S : List (List Int)} {x : List Int} (h : ¬ zc2 S x < 0) : S[idx S x]? = some x ∧ idx S x < S.length ∧ ((idx S x : Nat) : Int) = zc2 S x := by
 obtain ⟨k, h1, h2, h3⟩ := findI_pos (S := S) (m := x) (by omega)
 have : idx S x = k := by unfold idx; rw [if_neg h, h1]; rfl
 rw [this]; exact ⟨h2, h3, h1.symm⟩
theorem gti_app0 {α : Type} [Inhabited α] {L t : List α} {j : Nat} (h : j < L.length) : gti (L ++ t) j = gti L j := by unfold gti; rw [List.getElem?_append_left h]
theorem gti_new {α : Type} [Inhabited α] {L : List α} {x : α} : gti (L ++ [x]) L.length = x := by unfold gti; simp
theorem zdm {α : Type} [Inhabited α] {L : List α} {x : α} {j : Nat} (h : L[j]? = some x) : gti L j = x := by unfold gti; rw [h]; rfl
theorem BI.init (h : okS s0) (hm : 1 ≤ most) : BI nx s0 most okS ⟨[s0], []⟩ :=
 ⟨rfl, by simp, by simpa using hm, fun x hx => by simp at hx; subst hx; exact h, by simp, fun j hj => by
  have : j = 0 := by simpa using hj
  subst this; exact ⟨0, by simp, .nil⟩⟩
theorem BI.step {g g' : Gr} {i : Nat} {r : List Int × Int} (hN : NxOk nx okS) (h : BI nx s0 most okS g) (hi : i < g.st.length) (hr : r ∈ nx (gti g.st i)) (he : oneD most i r g = some g') :
  BI nx s0 most okS g' ∧ (∃ T, g'.st = g.st ++ T) ∧ g'.ed = g.ed ++ [⟨i, idx g.st r.1, r.2⟩] ∧ g'.st[idx g.st r.1]? = some r.1 := by
 have hoi := hN.ok _ (h.ok _ (gti_mem hi)) r hr
 unfold oneD at he
 split at he
 ·
  cases he
 ·
  rename_i hno
  cases he
  have hx0 : gti g.st 0 = s0 := zdm h.h0
  by_cases hf : zc2 g.st r.1 < 0
  ·
   simp only [if_pos hf]
   have hid := idx_new hf
   rw [hid]
   have hlt : ¬ most ≤ g.st.length := fun hc => hno ⟨hf, hc⟩
   have hnm : r.1 ∉ g.st := findI_neg.1 hf
   refine ⟨⟨?_, ?_, by simp; omega, fun x hx => ?_, fun e hx => ?_, fun j hj => ?_⟩, ⟨_, rfl⟩, trivial, by simp⟩
   ·
    show (g.st ++ [r.1])[0]? = _
    rw [List.getElem?_append_left (by omega)]; exact h.h0
   ·
    refine List.nodup_append.2 ⟨h.nd, by simp, fun a ha b hb e => ?_⟩
    simp at hb; subst hb e; exact hnm ha
   ·
    rcases List.mem_append.1 hx with hx | hx
    ·
     exact h.ok x hx
    ·
     simp at hx; subst hx; exact hoi.1
   ·
    have e1 : (g.st ++ [r.1]).length = g.st.length + 1 := by simp
    rcases List.mem_append.1 hx with hx | hx
    ·
     obtain ⟨q1, q2, q3, q4, q5⟩ := h.eok e hx
     refine ⟨by simp; omega, by simp; omega, q3, q4, ?_⟩
     show (gti (g.st ++ [r.1]) e.b, e.c) ∈ nx (gti (g.st ++ [r.1]) e.a)
     rw [gti_app0 q1, gti_app0 q2]; exact q5
    ·
     simp at hx; subst hx
     refine ⟨by simp; omega, by simp, hoi.2.1, hoi.2.2, ?_⟩
     show (gti (g.st ++ [r.1]) g.st.length, r.2) ∈ nx (gti (g.st ++ [r.1]) i)
     rw [gti_app0 hi, gti_new]; exact hr
   ·
    have hj2 : j < g.st.length + 1 := by simpa using hj
    by_cases hjn : j < g.st.length
    ·
     obtain ⟨d, hd, hw⟩ := h.rch j hjn
     exact ⟨d, hd, hw.mono (fun e he => List.mem_append_left _ he)⟩
    ·
     have : j = g.st.length := by omega
     subst this
     obtain ⟨d, hd, hw⟩ := h.rch i hi
     have hw2 := hw.mono (M' := g.ed ++ [⟨i, g.st.length, r.2⟩]) (fun e he => List.mem_append_left _ he)
     exact ⟨d + r.2, by have := hoi.2.2; omega, hw2.snoc (e := ⟨i, g.st.length, r.2⟩) (by simp) rfl⟩
  ·
   simp only [if_neg hf]
   obtain ⟨p1, p2, p3⟩ := idx_old hf
   refine ⟨⟨h.h0, h.nd, h.le, h.ok, fun e hx => ?_, fun j hj => ?_⟩, ⟨[], by simp⟩, trivial, p1⟩
   ·
    rcases List.mem_append.1 hx with hx | hx
    ·
     exact h.eok e hx
    ·
     simp at hx; subst hx
     refine ⟨hi, p2, hoi.2.1, hoi.2.2, ?_⟩
     show (gti g.st (idx g.st r.1), r.2) ∈ nx (gti g.st i)
     rw [zdm p1]; exact hr
   ·
    obtain ⟨d, hd, hw⟩ := h.rch j hj
    exact ⟨d, hd, hw.mono (fun e he => List.mem_append_left _ he)⟩
def Clo (nx : List Int → List (List Int × Int)) (g : Gr) (i q : Nat) : Prop :=
 ∀ (k : Nat) r, k < q → (nx (gti g.st i))[k]? = some r → ∃ j, g.st[j]? = some r.1 ∧ (⟨i, j, r.2⟩ : Edg) ∈ g.ed
theorem Clo.grow {g g' : Gr} {i q : Nat} (hi : i < g.st.length) (h : Clo nx g i q) (hs : ∃ T, g'.st = g.st ++ T) (he : ∃ T, g'.ed = g.ed ++ T) : Clo nx g' i q := by
 obtain ⟨T, hs⟩ := hs
 obtain ⟨U, he⟩ := he
 intro k r hk hr
 rw [hs, gti_app0 hi] at hr
 obtain ⟨j, h1, h2⟩ := h k r hk hr
 exact ⟨j, by rw [hs, List.getElem?_append_left (List.getElem?_eq_some_iff.1 h1).1]; exact h1, by rw [he]; exact List.mem_append_left _ h2⟩
theorem row_ok (hN : NxOk nx okS) {i : Nat} {L : List (List Int × Int)} : ∀ (l : List (List Int × Int)) (q : Nat) (g g' : Gr), BI nx s0 most okS g → i < g.st.length → nx (gti g.st i) = L → L.drop q = l →
  (∀ i', i' < i → Clo nx g i' (nx (gti g.st i')).length) → Clo nx g i q → g.ed.length ≤ 4000 * i + q → q ≤ L.length → rowD most i l g = some g' →
  BI nx s0 most okS g' ∧ (∀ i', i' < i + 1 → Clo nx g' i' (nx (gti g'.st i')).length) ∧ i + 1 ≤ g'.st.length ∧ g'.ed.length ≤ 4000 * (i + 1)
 | [], q, g, g', h, hi, hL, hd, hc, hq, hlen, hqL, he => by
  cases he
  have hql : L.length ≤ q := by
   have := congrArg List.length hd
   simp at this; omega
  refine ⟨h, fun i' hi' => ?_, by omega, ?_⟩
  ·
   by_cases e : i' < i
   ·
    exact hc i' e
   ·
    have : i' = i := by omega
    subst this
    intro k r hk hr
    rw [hL] at hk
    exact hq k r (by omega) hr
  ·
   have hl2 := hN.len _ (h.ok _ (gti_mem hi))
   rw [hL] at hl2
   omega
 | r :: l, q, g, g', h, hi, hL, hd, hc, hq, hlen, hqL', he => by
  have hqL : q < L.length := by
   by_cases hq' : q < L.length
   ·
    exact hq'
   ·
    rw [List.drop_of_length_le (by omega)] at hd; cases hd
  have hLr : L[q]? = some r := by
   have := congrArg (·[0]?) hd
   simpa using this
  unfold rowD at he
  cases h1 : oneD most i r g with
  | none => rw [h1] at he; cases he
  | some g1 =>
   rw [h1] at he
   have hrm : r ∈ nx (gti g.st i) := by rw [hL]; exact List.mem_of_getElem? hLr
   obtain ⟨b1, b2, b3, b4⟩ := h.step hN hi hrm h1
   have hst : gti g1.st i = gti g.st i := by obtain ⟨T, hT⟩ := b2; rw [hT, gti_app0 hi]
   have hgr : i < g1.st.length := by obtain ⟨T, hT⟩ := b2; rw [hT]; simp; omega
   refine row_ok hN l (q + 1) g1 g' b1 hgr (by rw [hst, hL]) ?_ (fun i' hi' => ?_) ?_ ?_ (by omega) he
   ·
    rw [← List.tail_drop, hd]; rfl
   ·
    have := (hc i' hi').grow (by omega) b2 ⟨_, b3⟩
    have e : gti g1.st i' = gti g.st i' := by obtain ⟨T, hT⟩ := b2; rw [hT, gti_app0 (by omega)]
    rw [e]; exact this
   ·
    intro k r' hk hr'
    by_cases hkq : k < q
    ·
     exact (hq.grow hi b2 ⟨_, b3⟩) k r' hkq hr'
    ·
     have : k = q := by omega
     subst this
     rw [hst, hL, hLr] at hr'
     cases hr'
     exact ⟨_, b4, by rw [b3]; simp⟩
   ·
    rw [b3]; simp; omega
theorem bfs_ok (hN : NxOk nx okS) : ∀ (f i : Nat) (g g' : Gr), BI nx s0 most okS g → i ≤ g.st.length → (∀ i', i' < i → Clo nx g i' (nx (gti g.st i')).length) → g.ed.length ≤ 4000 * i → most.toNat < f + i → bfsD nx most f i g = some g' →
  BI nx s0 most okS g' ∧ (∀ i', i' < g'.st.length → Clo nx g' i' (nx (gti g'.st i')).length) ∧ g'.ed.length ≤ 4000 * g'.st.length
 | 0, i, g, g', h, hi, hc, hl, hf, he => by have := h.le; omega
 | f + 1, i, g, g', h, hi, hc, hl, hf, he => by
  unfold bfsD at he
  split at he
  ·
   rename_i hlt
   cases h1 : rowD most i (nx (gti g.st i)) g with
   | none => rw [h1] at he; cases he
   | some g1 =>
    rw [h1] at he
    obtain ⟨q1, q2, q3, q4⟩ := row_ok hN _ 0 g g1 h hlt rfl rfl hc (fun k r hk => by omega) (by omega) (Nat.zero_le _) h1
    exact bfs_ok hN f (i + 1) g1 g' q1 q3 q2 q4 (by omega) he
  ·
   cases he
   have : i = g.st.length := by omega
   subst this
   exact ⟨h, hc, hl⟩
end
end Go.Proofs.YtjhdcgaiccnmeaaGreatDoor.Dl
end
section
namespace Go.Proofs.YtjhdcgaiccnmeaaGreatDoor
open Go.RowKit
theorem FireE_markR {n : Net} {m : List Int} {t : Int} (h : (FireE n m t).2 = 0) : zcu n (FireE n m t).1 = true := by
 unfold FireE at h ⊢
 split
 ·
  rename_i hm; rw [if_pos hm] at h; exact fireE_mark hm h
 ·
  rename_i hm; rw [if_neg hm] at h; simp at h
theorem gti_cons0 {α : Type} [Inhabited α] (x : α) (l : List α) : gti (x :: l) 0 = x := by simp [gti]
theorem gti_cons {α : Type} [Inhabited α] (x : α) (l : List α) (k : Nat) : gti (x :: l) (k + 1) = gti l k := by simp [gti]
theorem apply_state {n : Net} {w : List ByteArray} {s : List Int} {m : Stp} (hs : zct n w s = true) (h : (applyE n w s m).2 = 0) : zct n w (applyE n w s m).1 = true := by
 obtain ⟨h1, h2, h3, h4, h5⟩ := zc6.1 hs
 rw [zc6]
 have hat : ∀ a, ¬ atB w (gti s 0) a = false → gti s 0 + 1 ≤ w.length := by
  intro a ha
  unfold atB at ha
  simp at ha
  omega
 refine ⟨h1, ?_⟩
 unfold applyE at h ⊢
 by_cases c1 : m.kind = 2
 ·
  rw [if_pos c1] at h ⊢
  by_cases c2 : m.trans ≠ -1
  ·
   rw [if_pos c2] at h; simp at h
  rw [if_neg c2] at h ⊢
  by_cases c3 : nameB m.act = false
  ·
   rw [if_pos c3] at h; simp at h
  rw [if_neg c3] at h ⊢
  by_cases c4 : atB w (gti s 0) m.act = false
  ·
   rw [if_pos c4] at h; simp at h
  rw [if_neg c4] at h ⊢
  have := hat _ c4
  simp only [gti_cons0, List.length_cons, List.drop_succ_cons, List.drop_zero]
  exact ⟨by omega, by omega, this, h5⟩
 ·
  rw [if_neg c1] at h ⊢
  by_cases c2 : m.trans < 0 ∨ (n.trans.length : Int) ≤ m.trans
  ·
   rw [if_pos c2] at h; simp at h
  rw [if_neg c2] at h ⊢
  by_cases c3 : m.act ≠ (gti n.trans m.trans.toNat).label ∨ (gti n.trans m.trans.toNat).label.toList.isEmpty ≠ decide (m.kind = 4)
  ·
   rw [if_pos c3] at h; simp at h
  rw [if_neg c3] at h ⊢
  by_cases c4 : m.kind = 1 ∧ atB w (gti s 0) m.act = false
  ·
   rw [if_pos c4] at h; simp at h
  rw [if_neg c4] at h ⊢
  by_cases c5 : (FireE n (s.drop 1) m.trans).2 ≠ 0
  ·
   rw [if_pos c5] at h; exact absurd h c5
  rw [if_neg c5] at h ⊢
  simp only [gti_cons0, List.length_cons, List.drop_succ_cons, List.drop_zero]
  refine ⟨by omega, by split <;> omega, ?_, FireE_markR (by simpa using c5)⟩
  split
  ·
   rename_i hk
   exact hat _ (fun hf => c4 ⟨hk, hf⟩)
  ·
   exact h4
theorem all01_mk : ∀ {m : List Int}, (∀ k, k < m.length → 0 ≤ gti m k ∧ gti m k ≤ 100) → all01 m = true
 | [], _ => rfl
 | x :: m, h => by
  have h0 := h 0 (by simp)
  rw [gti_cons0] at h0
  rw [all01, if_neg (by omega)]
  exact all01_mk (fun k hk => by have := h (k + 1) (by simp; omega); rwa [gti_cons] at this)
theorem oneL_mark {n : Net} (p : Int) (h : 1 ≤ n.places) : mark2B n (oneL n.places.toNat p) = true := by
 rw [mark2B, if_neg (by rw [oneL_len]; omega)]
 refine all01_mk (fun k hk => ?_)
 unfold oneL
 rw [gti_set]
 split
 ·
  omega
 ·
  unfold gti
  rw [List.getElem?_replicate]
  split <;> simp
def startS (n : Net) : List Int := 0 :: oneL n.places.toNat n.source
def endS (n : Net) (w : List ByteArray) : List Int := (w.length : Int) :: oneL n.places.toNat n.sink
theorem start_state {n : Net} {w : List ByteArray} (h1 : zbc n = true) (h2 : zdh w = true) : zct n w (startS n) = true := by
 rw [zc6]
 unfold startS
 simp only [gti_cons0, List.length_cons, List.drop_succ_cons, List.drop_zero]
 refine ⟨h2, by omega, by omega, by omega, ?_⟩
 rw [zcu, h1, oneL_mark _ (za8 h1).1]
 rfl
def runA (n : Net) (w : List ByteArray) : List Int → List Stp → Option (List Int)
 | s, [] => some s
 | s, m :: ms => if (applyE n w s m).2 = 0 then runA n w (applyE n w s m).1 ms else none
def endB (n : Net) (w : List ByteArray) : Option (List Int) → Bool
 | some s => decide (s = endS n w)
 | none => false
def checkB (n : Net) (w : List ByteArray) (c : Cst) (l : List Stp) (k : Int) : Bool :=
 zbc n && zdh w && (vcB c && fineB l) && decide (costAt c l l.length = k) && endB n w (runA n w (startS n) l)
theorem fineB_kind {l : List Stp} (h : fineB l = true) {k : Nat} (hk : k < l.length) : kindB (gti l k).kind = true := by
 unfold fineB at h
 simp only [Bool.and_eq_true, List.all_eq_true] at h
 exact h.2 _ (gti_mem hk)
theorem ApplyE_of {n : Net} {w : List ByteArray} {s : List Int} {m : Stp} (hs : zct n w s = true) (hk : kindB m.kind = true) : zb4 n w s m = applyE n w s m := by
 rw [zb4, hs, hk]; rfl
end Go.Proofs.YtjhdcgaiccnmeaaGreatDoor
end
section
namespace Go.Proofs.YtjhdcgaiccnmeaaGreatDoor
open Go.RowKit
abbrev Loc.c3 (b o : Nat) (x y z : Value) : Loc := ⟨fun w => C3 w b o x y z, fun k => k = b, fun h hd hp =>
 have hb := h.block b (World.block_lt_of_cell? _ _ hp.1) (hd b rfl)
 ⟨(World.cell?_of_block hb).trans hp.1, (World.cell?_of_block hb).trans hp.2.1, (World.cell?_of_block hb).trans hp.2.2⟩⟩
end Go.Proofs.YtjhdcgaiccnmeaaGreatDoor
end
section
namespace Go.Proofs.YtjhdcgaiccnmeaaGreatDoor
open Go.RowKit
abbrev algV (vs : Value) (k : Int) : Value := .agg #[vs, .int .i64 k]
abbrev chkL (w0 : World) (n : Net) (vt : Value) (c : Cst) (vs : Value) (k : Int) : List Loc := [Loc.k4 w0.heap.size (.int .i64 n.places) (vt) (.int .i64 n.source) (.int .i64 n.sink), Loc.k3 (w0.heap.size + 1) (.int .i64 c.log) (.int .i64 c.model) (.int .i64 c.silent), Loc.c1 (w0.heap.size + 2) 0 vs, Loc.c1 (w0.heap.size + 2) 1 (.int .i64 k), Loc.bl w0.heap.size w0]
theorem chkM (w0 : World) (n : Net) (vt : Value) (c : Cst) (vs : Value) (k : Int) : Mem (chkL w0 n vt c vs k) (((w0.alloc (.cells #[.int .i64 n.places, vt, .int .i64 n.source, .int .i64 n.sink] 24)).alloc (.cells #[.int .i64 c.log, .int .i64 c.model, .int .i64 c.silent] 27)).alloc (.cells #[vs, .int .i64 k] 76)) := by
 have h1 : Mem [Loc.k4 w0.heap.size (.int .i64 n.places) (vt) (.int .i64 n.source) (.int .i64 n.sink), Loc.bl w0.heap.size w0] (w0.alloc (.cells #[.int .i64 n.places, vt, .int .i64 n.source, .int .i64 n.sink] 24)) := ⟨K4.new w0 _ _ _ _ _, ⟨(Below.refl _ _).alloc (Nat.le_refl _) _, by simp⟩, True.intro⟩
 have h2 : Mem [Loc.k3 (w0.heap.size + 1) (.int .i64 c.log) (.int .i64 c.model) (.int .i64 c.silent), Loc.k4 w0.heap.size (.int .i64 n.places) (vt) (.int .i64 n.source) (.int .i64 n.sink), Loc.bl w0.heap.size w0] ((w0.alloc (.cells #[.int .i64 n.places, vt, .int .i64 n.source, .int .i64 n.sink] 24)).alloc (.cells #[.int .i64 c.log, .int .i64 c.model, .int .i64 c.silent] 27)) := ⟨by have := K3.new (w0.alloc (.cells #[.int .i64 n.places, vt, .int .i64 n.source, .int .i64 n.sink] 24)) (.int .i64 c.log) (.int .i64 c.model) (.int .i64 c.silent) 27; rw [World.size_alloc] at this; exact this, h1.alloc _⟩
 have h3 := h2.alloc (.cells #[vs, .int .i64 k] 76)
 exact ⟨h3.2.1, h3.1, by simp [C1, go_sem], by simp [C1, go_sem], h3.2.2.1, True.intro⟩
set_option maxRecDepth 100000 in
set_option maxHeartbeats 4000000 in
theorem Check_any (n : Net) (l : List ByteArray) (c : Cst) (sl : List Stp) (k : Int) (vt v vs : Value) (lo hi lo' hi' lo2 hi2 : Nat) (w : World) (hv : RdT w lo hi vt n.trans) (hw : RdS w lo' hi' v l) (hs : RdM w lo2 hi2 vs sl) :
  Calls Tryz.prog 36 #[netV n vt, v, cstV c, algV vs k] w fun e w' => e = .returned (.bool (checkB n l c sl k)) ∧ Below w.heap.size w w' := by
 obtain ⟨A, ca, rfl, hc, hmm⟩ := hv.form
 obtain ⟨A2, c2, rfl, hc2, hmm2⟩ := hw.form
 obtain ⟨A3, c3, rfl, hc3, hmm3⟩ := hs.form
 have HV := Lib.hid hv
 have HW := Lib.hid hw
 have HS := Lib.hid hs
 clear hv hw hs
 have hM := chkM w n (.slice A n.trans.length ca) c (.slice A3 sl.length c3) k
 obtain ⟨z, hz⟩ : ∃ z, (zbc n && zdh l) = z := ⟨_, rfl⟩
 obtain ⟨y, hy⟩ : ∃ y, (vcB c && fineB sl) = y := ⟨_, rfl⟩
 have HZ := Lib.hid hz
 have HY := Lib.hid hy
 have HCB : Hid (checkB n l c sl k = (z && y && decide (costAt c sl sl.length = k) && endB n l (runA n l (startS n) sl))) := Lib.hid (by rw [checkB, hz, hy])
 have HCE : Hid (costE c sl = if y then (costAt c sl sl.length, 0) else (0, 1)) := Lib.hid (by rw [costE, hy])
 have HSE : Hid (zb7 n l = if z then (startS n, 0) else ([], 1)) := Lib.hid (by rw [zb7, hz]; rfl)
 have HEE : Hid (endE n l = if z then (endS n l, 0) else ([], 1)) := Lib.hid (by rw [endE, hz]; rfl)
 clear hz hy
 have HC := Lib.hid (fun (W : World) (h : Below w.heap.size w W) => Cost_any c sl lo2 hi2 _ W (HS.out.after h))
 have HST := Lib.hid (fun (W : World) (h : Below w.heap.size w W) => Start_any n l _ _ lo hi lo' hi' W (HV.out.after h) (HW.out.after h))
 have HEN := Lib.hid (fun (W : World) (h : Below w.heap.size w W) => End_any n l _ _ lo hi lo' hi' W (HV.out.after h) (HW.out.after h))
 rw [HCE.out] at HC
 rw [HSE.out] at HST
 rw [HEE.out] at HEN
 clear HCE HSE HEE
 by_cases hzy : z = false ∨ y = false
 ·
  cases z <;> cases y
  case true.true => simp at hzy
  all_goals
   simp only [Bool.false_eq_true, if_false, if_true] at HC HST HEN
   replace HCB : Hid (checkB n l c sl k = false) := Lib.hid (by rw [HCB.out]; rfl)
   clear hzy
   refine zax fun R hR => ?_
   have HR := Lib.hid hR
   clear hR
   go_enter Tryz.func36, Tryz.ntmps36
   have M := Lib.hid hM
   clear hM
   have hk4 := M.out.1
   have hk3 := M.out.2.1
   have hc0 := M.out.2.2.1
   have hc1 := M.out.2.2.2.1
   go_wp2_with (first
    | (go_at_call 51; refine (HST.out _ M.out.2.2.2.2.1.1).mono ?_; rintro e w6 ⟨A6, c6, rfl, hr6, hb6⟩; replace M := Lib.hid (M.out.below hb6); clear hb6 hr6; dsimp only; replace hk4 := M.out.1; replace hk3 := M.out.2.1; replace hc0 := M.out.2.2.1; replace hc1 := M.out.2.2.2.1)
    | (go_at_call 71; refine (HEN.out _ M.out.2.2.2.2.1.1).mono ?_; rintro e w7 ⟨A7, c7, rfl, hr7, hb7⟩; replace M := Lib.hid (M.out.below hb7); clear hb7 hr7; dsimp only; replace hk4 := M.out.1; replace hk3 := M.out.2.1; replace hc0 := M.out.2.2.1; replace hc1 := M.out.2.2.2.1)
    | (go_at_call 35; refine (HC.out _ M.out.2.2.2.2.1.1).mono ?_; rintro e w1 ⟨rfl, hb1⟩; replace M := Lib.hid (M.out.below hb1); clear hb1; replace hk4 := M.out.1; replace hk3 := M.out.2.1; replace hc0 := M.out.2.2.1; replace hc1 := M.out.2.2.2.1))
   exact HR.out _ _ ⟨zcy HCB.out.symm, M.out.2.2.2.2.1.1⟩
 ·
  obtain rfl : z = true := by cases z <;> simp_all
  obtain rfl : y = true := by cases y <;> simp_all
  clear hzy
  have hvw : zbc n = true ∧ zdh l = true := by have := HZ.out; simpa using this
  have hvf : vcB c = true ∧ fineB sl = true := by have := HY.out; simpa using this
  have HVW := Lib.hid hvw
  have HVF := Lib.hid hvf
  clear hvw hvf
  simp only [if_true, Bool.true_and] at HC HST HEN HCB
  by_cases hcost : costAt c sl sl.length = k
  ·
   rw [decide_eq_true hcost, Bool.true_and] at HCB
   have hsl := fineB_len HVF.out.2
   have HCO := Lib.hid hcost
   rw [hcost] at HC
   clear hcost
   refine zax fun R hR => ?_
   have HR := Lib.hid hR
   clear hR
   go_enter Tryz.func36, Tryz.ntmps36
   have M := Lib.hid hM
   clear hM
   have hk4 := M.out.1
   have hk3 := M.out.2.1
   have hc0 := M.out.2.2.1
   have hc1 := M.out.2.2.2.1
   go_wp2_with (first
    | (go_at_call 51; refine (HST.out _ M.out.2.2.2.2.1.1).mono ?_; rintro e w6 ⟨A6, c6, rfl, hr6, hb6⟩; have HR6 := Lib.hid hr6; replace M := Lib.hid (M.out.below hb6); clear hb6 hr6; dsimp only at HR6 ⊢; replace hk4 := M.out.1; replace hk3 := M.out.2.1; replace hc0 := M.out.2.2.1; replace hc1 := M.out.2.2.2.1)
    | (go_at_call 71; refine (HEN.out _ M.out.2.2.2.2.1.1).mono ?_; rintro e w7 ⟨A7, c7, rfl, hr7, hb7⟩; have HR7 := Lib.hid hr7; replace HR6 := Lib.hid (HR6.out.after hb7); replace M := Lib.hid (M.out.below hb7); clear hb7 hr7; dsimp only at HR7 ⊢; replace hk4 := M.out.1; replace hk3 := M.out.2.1; replace hc0 := M.out.2.2.1; replace hc1 := M.out.2.2.2.1)
    | (go_at_call 35; refine (HC.out _ M.out.2.2.2.2.1.1).mono ?_; rintro e w8 ⟨rfl, hb8⟩; replace HR6 := Lib.hid (HR6.out.after hb8); replace HR7 := Lib.hid (HR7.out.after hb8); replace M := Lib.hid (M.out.below hb8); clear hb8; dsimp only; replace hk4 := M.out.1; replace hk3 := M.out.2.1; replace hc0 := M.out.2.2.1; replace hc1 := M.out.2.2.2.1))
   go_loopw [57, 9, 16, 17, 18] (fun v57 v9 _ _ _ wr => ∃ (j : Nat) (s : List Int) (B : Option Addr) (d lh hh : Nat), j ≤ sl.length ∧ v57 = .int .i64 j ∧ v9 = .slice B s.length d ∧ Hid (zct n l s = true) ∧ Hid (runA n l (startS n) sl = runA n l s (sl.drop j)) ∧ Hid (Mem (Loc.rdI lh hh (.slice B s.length d) s :: Loc.rdI w6.heap.size w7.heap.size (.slice A7 (endS n l).length c7) (endS n l) :: chkL w n (.slice A n.trans.length ca) c (.slice A3 sl.length c3) k) wr)) (fun v57 _ _ _ _ _ => sl.length - (intOf v57).toNat)
   case atStart => exact ⟨0, startS n, A6, c6, _, _, by omega, rfl, rfl, Lib.hid (start_state HVW.out.1 HVW.out.2), Lib.hid rfl, Lib.hid ⟨HR6.out, HR7.out, M.out⟩⟩
   case round =>
    clear M hk4 hk3 hc0 hc1 HR6 HR7
    obtain ⟨j, s, B, d, lh, hh, hj, rfl, rfl, HSB, HI, M⟩ := hrel
    have hk4 := M.out.2.2.1
    by_cases hlt : j < sl.length
    ·
     obtain ⟨b, off, rfl, _, _, hcell⟩ := RdM.at3 (HS.out.after M.out.2.2.2.2.2.2.1.1) hlt
     have hf := zdp HSB.out
     have HJ : Hid (runA n l (startS n) sl = if (applyE n l s (gti sl j)).2 = 0 then runA n l (applyE n l s (gti sl j)).1 (sl.drop (j + 1)) else none) := Lib.hid (by rw [HI.out, zda hlt, runA])
     have HAS := Lib.hid (apply_state (m := gti sl j) HSB.out)
     have HAP := Lib.hid (fun (W : World) (h : Below w.heap.size w W) (hr : RdI W lh hh (.slice B s.length d) s) => apply_any n l s (gti sl j) _ _ _ lo hi lo' hi' lh hh W (HV.out.after h) (HW.out.after h) hr hf.1 hf.2.1 hf.2.2.1 hf.2.2.2.1 (by omega))
     obtain ⟨⟨fl, fe⟩, hfe⟩ : ∃ r, applyE n l s (gti sl j) = r := ⟨_, rfl⟩
     rw [hfe] at HJ HAS HAP
     simp only at HJ HAS
     clear hfe hf
     generalize gti sl j = x at *
     obtain ⟨kd, tr, ac⟩ := x
     simp only at hcell
     replace M : Hid (Mem (Loc.k3 wr.heap.size (.int .i64 kd) (.int .i64 tr) (.string ac) :: Loc.rdI lh hh (.slice B s.length d) s :: Loc.rdI w6.heap.size w7.heap.size (.slice A7 (endS n l).length c7) (endS n l) :: chkL w n (.slice A n.trans.length ca) c (.slice (some ⟨b, off, none⟩) sl.length c3) k) (wr.alloc (.cells #[.int .i64 kd, .int .i64 tr, .string ac] 37))) := Lib.hid ⟨K3.new wr _ _ _ _, M.out.alloc _⟩
     have hk3 := M.out.1
     replace hk4 := M.out.2.2.2.1
     by_cases he0 : fe = 0
     ·
      subst he0
      rw [if_pos rfl] at HJ
      go_wp2_with (go_at_call 88; refine (HAP.out _ M.out.2.2.2.2.2.2.2.1.1 M.out.2.1).mono ?_; rintro e w9 ⟨A9, c9, rfl, hr9, hb9⟩; have HR9 := Lib.hid hr9; replace M := Lib.hid (M.out.below hb9); clear hb9 hr9; dsimp only at HR9 ⊢; replace hk4 := M.out.2.2.2.1)
      exact ⟨⟨j + 1, fl, A9, c9, _, _, by omega, by go_num, rfl, Lib.hid (HAS.out (by first | rfl | trivial)), HJ, Lib.hid ⟨HR9.out, M.out.2.2⟩⟩, by simp [intOf]; omega⟩
     ·
      rw [if_neg he0] at HJ
      have be0 : (fe != 0) = true := by simpa using he0
      go_wp2_with (go_at_call 88; refine (HAP.out _ M.out.2.2.2.2.2.2.2.1.1 M.out.2.1).mono ?_; rintro e w9 ⟨A9, c9, rfl, hr9, hb9⟩; have HR9 := Lib.hid hr9; replace M := Lib.hid (M.out.below hb9); clear hb9 hr9; dsimp only at HR9 ⊢; replace hk4 := M.out.2.2.2.1)
      exact HR.out _ _ ⟨zcy (by rw [HCB.out, HJ.out]; rfl), M.out.2.2.2.2.2.2.2.1.1⟩
    ·
     obtain rfl : j = sl.length := by omega
     have HE : Hid (checkB n l c sl k = decide (s = endS n l)) := Lib.hid (by rw [HCB.out, HI.out]; simp [runA, endB])
     clear HI
     go_wp2_with (go_at_call 18; refine (equalI_any _ _ _ _ _ _ _ _ _ M.out.1 M.out.2.1).mono ?_; rintro e w1 ⟨rfl, hb1⟩; replace M := Lib.hid (M.out.below hb1); clear hb1; skip)
     exact HR.out _ _ ⟨zcy HE.out.symm, M.out.2.2.2.2.2.2.1.1⟩
  ·
   rw [decide_eq_false hcost, Bool.false_and] at HCB
   have HCO := Lib.hid hcost
   generalize costAt c sl sl.length = q at *
   have bq : (q != k) = true := by simpa using hcost
   clear hcost
   refine zax fun R hR => ?_
   have HR := Lib.hid hR
   clear hR
   go_enter Tryz.func36, Tryz.ntmps36
   have M := Lib.hid hM
   clear hM
   have hk4 := M.out.1
   have hk3 := M.out.2.1
   have hc0 := M.out.2.2.1
   have hc1 := M.out.2.2.2.1
   go_wp2_with (first
    | (go_at_call 51; refine (HST.out _ M.out.2.2.2.2.1.1).mono ?_; rintro e w6 ⟨A6, c6, rfl, hr6, hb6⟩; replace M := Lib.hid (M.out.below hb6); clear hb6 hr6; dsimp only; replace hk4 := M.out.1; replace hk3 := M.out.2.1; replace hc0 := M.out.2.2.1; replace hc1 := M.out.2.2.2.1)
    | (go_at_call 71; refine (HEN.out _ M.out.2.2.2.2.1.1).mono ?_; rintro e w7 ⟨A7, c7, rfl, hr7, hb7⟩; replace M := Lib.hid (M.out.below hb7); clear hb7 hr7; dsimp only; replace hk4 := M.out.1; replace hk3 := M.out.2.1; replace hc0 := M.out.2.2.1; replace hc1 := M.out.2.2.2.1)
    | (go_at_call 35; refine (HC.out _ M.out.2.2.2.2.1.1).mono ?_; rintro e w1 ⟨rfl, hb1⟩; replace M := Lib.hid (M.out.below hb1); clear hb1; replace hk4 := M.out.1; replace hk3 := M.out.2.1; replace hc0 := M.out.2.2.1; replace hc1 := M.out.2.2.2.1))
   exact HR.out _ _ ⟨zcy HCB.out.symm, M.out.2.2.2.2.1.1⟩
end Go.Proofs.YtjhdcgaiccnmeaaGreatDoor
end
