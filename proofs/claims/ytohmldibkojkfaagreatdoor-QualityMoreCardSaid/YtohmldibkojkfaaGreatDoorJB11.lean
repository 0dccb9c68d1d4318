import Derived.Test.YtohmldibkojkfaaGreatDoorJB9
import Derived.StillTailTactics
import Derived.Test.YtohmldibkojkfaaGreatDoorJB5
import Derived.Test.YtohmldibkojkfaaGreatDoorJB6
set_option linter.unusedSimpArgs false
set_option linter.unusedVariables false
set_option linter.unusedSectionVars false
section
namespace Go.Proofs.YtohmldibkojkfaaGreatDoor
open Go.RowKit
theorem zm5 {n : Int} {l : List Int} (h : zcn n l = true) : ∀ (j i : Nat), i < j → j < l.length → gti l i < gti l j
 | 0, i, hij, _ => by omega
 | j + 1, i, hij, hj => by
  have hb : ¬ badP n l (j + 1) := fun hb => by rw [zd8 hj hb] at h; cases h
  unfold badP at hb
  simp only [Nat.add_sub_cancel] at hb
  by_cases hji : i = j
  ·
   subst hji; omega
  ·
   have := zm5 h j i (by omega) (by omega)
   omega
theorem zpp {n : Int} {p : Int} {ps : List Int} (h : zcn n (p :: ps) = true) : zcn n ps = true := by
 apply zhe
 intro k hk
 have hb : ¬ badP n (p :: ps) (k + 1) := fun hb => by rw [zd8 (by simp; omega) hb] at h; cases h
 unfold badP at hb ⊢
 have e1 : gti (p :: ps) (k + 1) = gti ps k := by simp [gti]
 rw [e1] at hb
 rcases Nat.eq_zero_or_pos k with rfl | hk0
 ·
  omega
 ·
  obtain ⟨j, rfl⟩ : ∃ j, k = j + 1 := ⟨k - 1, by omega⟩
  have e2 : gti (p :: ps) (j + 1) = gti ps j := by simp [gti]
  simp only [Nat.add_sub_cancel] at hb ⊢
  rw [e2] at hb
  omega
theorem zpq {n : Int} {p : Int} {ps : List Int} (h : zcn n (p :: ps) = true) : 0 ≤ p ∧ p < n ∧ ∀ q ∈ ps, q.toNat ≠ p.toNat := by
 have h0 := zd3 h (k := 0) (by simp)
 have e : gti (p :: ps) 0 = p := by simp [gti]
 rw [e] at h0
 refine ⟨h0.1, h0.2.1, fun q hq => ?_⟩
 obtain ⟨k, hk, rfl⟩ := zw1 hq
 have := zm5 h (k + 1) 0 (by omega) (by simp; omega)
 have e1 : gti (p :: ps) (k + 1) = gti ps k := by simp [gti]
 rw [e, e1] at this
 omega
theorem zl9 {n : Int} : ∀ {ps m : List Int}, zcn n ps = true → (∀ i, 0 ≤ gti m i) → (∀ p ∈ ps, 1 ≤ gti m p.toNat) → ∀ i, 0 ≤ gti (decL ps m) i
 | [], m, _, h, _, i => h i
 | p :: ps, m, hp, h, h1, i => by
  obtain ⟨hp0, hp1, hpn⟩ := zpq hp
  refine zl9 (zpp hp) (fun j => ?_) (fun q hq => ?_) i
  ·
   rw [gti_set]
   have := h j
   have := h1 p (List.mem_cons_self ..)
   split <;> omega
  ·
   rw [gti_set, if_neg (fun e => hpn q hq e.1.symm)]
   exact h1 q (List.mem_cons_of_mem _ hq)
theorem zlu : ∀ {ps m : List Int}, (∀ i, 0 ≤ gti m i) → ∀ i, 0 ≤ gti (incL ps m) i
 | [], m, h, i => h i
 | p :: ps, m, h, i => by
  rw [incL]
  refine zlu (fun j => ?_) i
  rw [gti_set]
  have := h j
  have := h p.toNat
  split <;> omega
theorem enB_at {t : Tr} {m : List Int} (h : enB t m = true) {p : Int} (hp : p ∈ t.inn) : gti m p.toNat ≠ 0 := by
 unfold enB at h
 simp only [Bool.not_eq_true', List.any_eq_false, decide_eq_true_eq] at h
 exact h p hp
theorem zqz : ∀ {m : List Int}, (∀ i, 0 ≤ gti m i) → zjb m = !m.any fun y => decide (100 < y)
 | [], _ => rfl
 | x :: m, h => by
  have h0 : 0 ≤ x := by have := h 0; simpa [gti] using this
  have := zqz (m := m) (fun i => by have := h (i + 1); simpa [gti] using this)
  simp only [zjb, List.any_cons]
  rw [this]
  grind
theorem zp7 {n : Net} {m : List Int} {t : Tr} (hm : zdp n m = true) (ht : zcn n.places t.inn = true) (he : enB t m = true) :
  zdp n (incL t.out (decL t.inn m)) = !(incL t.out (decL t.inn m)).any fun y => decide (100 < y) := by
 have hnn : ∀ i, 0 ≤ gti (incL t.out (decL t.inn m)) i := zlu (zl9 ht (fun i => (zf8 hm i).1) (fun p hp => by
  have := enB_at he hp
  have := (zf8 hm p.toNat).1
  omega))
 unfold zdp
 rw [if_neg (by rw [zoa, zok]; have := zfh hm; omega), zqz hnn]
theorem znk {n : Net} {m : List Int} {t : Int} (hm : zc9 n m = true) (h : (zjo n m t).2 = 0) : zc9 n (zjo n m t).1 = true := by
 unfold zc9 at hm ⊢
 simp only [Bool.and_eq_true] at hm ⊢
 refine ⟨hm.1, ?_⟩
 unfold zjo at h ⊢
 split
 ·
  rename_i h1; rw [if_pos h1] at h; simp at h
 ·
  rename_i h1
  rw [if_neg h1] at h
  split
  ·
   rename_i h2
   rw [if_pos h2] at h
   split
   ·
    rename_i h3; rw [if_pos h3] at h; simp at h
   ·
    rename_i h3
    have htr := zg3 hm.1 (gti_mem (l := n.trans) (k := t.toNat) (by omega))
    rw [zp7 hm.2 htr.2.1 h2]
    simpa using h3
  ·
   rename_i h2; rw [if_neg h2] at h; simp at h
def zci (n : Net) (m : List Int) (t : Int) : List Int × Int := if zc9 n m then zjo n m t else ([], 1)
set_option maxHeartbeats 1000000 in
theorem zow (n : Net) (m : List Int) (t : Int) (vt v : Value) (lo hi lo' hi' : Nat) (w : World) (hv : RdT w lo hi vt n.trans) (hm : RdI w lo' hi' v m) :
  Calls Tryz.prog 55 #[netV n vt, v, .int .i64 t] w (RetI w (zci n m t)) := by
 obtain ⟨A, c, rfl, hc, hmm⟩ := hv.form
 obtain ⟨A2, c2, rfl, hc2, hmm2⟩ := hm.form
 have HV := Lib.hid hv
 have HW := Lib.hid hm
 clear hv hm
 cases hvb : zc9 n m <;> have HVB := Lib.hid hvb <;> clear hvb
 all_goals
  refine zas fun R hR => ?_
  have HR := Lib.hid hR
  clear hR
  go_enter Tryz.func55, Tryz.ntmps55
  have M : Hid (Mem [Loc.k4 w.heap.size (.int .i64 n.places) (.slice A n.trans.length c) (.int .i64 n.source) (.int .i64 n.sink), Loc.bl w.heap.size w] (w.alloc (.cells #[.int .i64 n.places, .slice A n.trans.length c, .int .i64 n.source, .int .i64 n.sink] 24))) := Lib.hid ⟨K4.new w _ _ _ _ _, ⟨(Below.refl _ _).alloc (Nat.le_refl _) _, by simp⟩, True.intro⟩
  have hk4 := M.out.1
  go_wp2_with (first
   | (go_at_call 82; refine (zjl HVB.out _ _ lo hi lo' hi' _ (HV.out.after M.out.2.1.1) (HW.out.after M.out.2.1.1)).mono ?_; rintro e w1 ⟨rfl, hb1⟩; replace M := Lib.hid (M.out.below hb1); clear hb1; replace hk4 := M.out.1)
   | (go_at_call 83; refine (zzq n m t _ _ lo hi lo' hi' _ (HV.out.after M.out.2.1.1) (HW.out.after M.out.2.1.1) HVB.out).mono ?_; rintro e w2 ⟨A1, c1, rfl, hr1, hb1⟩; have HR1 := Lib.hid hr1; have hws := M.out.2.1.2; replace M := Lib.hid (M.out.below hb1); clear hb1 hr1))
 ·
  exact HR.out _ _ (RetI.nil (by rw [zci, HVB.out]; rfl) M.out.2.1.1)
 ·
  exact HR.out _ _ (RetI.mk (by rw [zci, HVB.out]; rfl) rfl HR1.out hws (Nat.le_refl _) M.out.2.1.1)
def canL (m : List Int) : List Int → Bool
 | [] => true
 | p :: ps => if gti m p.toNat < 1 then false else canL m ps
theorem zya {m : List Int} (hm : ∀ i, 0 ≤ gti m i) : ∀ ps : List Int, canL m ps = !ps.any fun p => decide (gti m p.toNat = 0)
 | [] => rfl
 | p :: ps => by
  have := hm p.toNat
  rw [canL, zya hm ps, List.any_cons]
  grind
set_option maxHeartbeats 1000000 in
theorem z3b (n : Net) (m : List Int) (t : Nat) (vt v : Value) (lo hi lo' hi' : Nat) (w : World) (hv : RdT w lo hi vt n.trans) (hm : RdI w lo' hi' v m) (ht : t < n.trans.length) (hin : ∀ k, k < (gti n.trans t).inn.length → 0 ≤ gti (gti n.trans t).inn k ∧ gti (gti n.trans t).inn k < m.length) :
  Calls Tryz.prog 119 #[netV n vt, v, .int .i64 t] w fun e w' => e = .returned (.bool (canL m (gti n.trans t).inn)) ∧ Below w.heap.size w w' := by
 obtain ⟨A, c, rfl, hc, hmm⟩ := hv.form
 obtain ⟨A2, c2, rfl, hc2, hmm2⟩ := hm.form
 obtain ⟨b, off, vi, vo, rfl, hbl, hbh, hcell, hri, hro⟩ := RdT.at3 hv ht
 obtain ⟨Ai, ci, rfl, hci, hmi⟩ := hri.form
 have HV := Lib.hid hv
 have HW := Lib.hid hm
 have HRI := Lib.hid hri
 have HN := Lib.hid hin
 clear hv hm hri hro hin
 generalize gti n.trans t = x at *
 refine zas fun R hR => ?_
 have HR := Lib.hid hR
 clear hR
 go_enter Tryz.func119, Tryz.ntmps119
 have M : Hid (Mem [Loc.k4 w.heap.size (.int .i64 n.places) (.slice (some ⟨b, off, none⟩) n.trans.length c) (.int .i64 n.source) (.int .i64 n.sink), Loc.bl w.heap.size w] (w.alloc (.cells #[.int .i64 n.places, .slice (some ⟨b, off, none⟩) n.trans.length c, .int .i64 n.source, .int .i64 n.sink] 24))) := Lib.hid ⟨K4.new w _ _ _ _ _, ⟨(Below.refl _ _).alloc (Nat.le_refl _) _, by simp⟩, True.intro⟩
 have hk4 := M.out.1
 replace hcell := C3.aft ((Below.refl w.heap.size w).alloc (Nat.le_refl _) (.cells #[.int .i64 n.places, .slice (some ⟨b, off, none⟩) n.trans.length c, .int .i64 n.source, .int .i64 n.sink] 24)) hcell
 go_wp2_with fail
 generalize w.alloc (.cells #[.int .i64 n.places, .slice (some ⟨b, off, none⟩) n.trans.length c, .int .i64 n.source, .int .i64 n.sink] 24) = W at *
 go_loop [7] (fun v7 => ∃ k : Nat, k ≤ x.inn.length ∧ v7 = .int .i64 k ∧ Hid (canL m (x.inn.drop k) = canL m x.inn)) (fun v7 => x.inn.length - (intOf v7).toNat)
 case atStart => exact ⟨0, by omega, rfl, Lib.hid rfl⟩
 case round =>
  obtain ⟨k, hk, rfl, HI⟩ := hrel
  by_cases hlt : k < x.inn.length
  ·
   have hpr := HN.out k hlt
   obtain ⟨bb, oo, rfl, _, _, hce⟩ := RdI.at1 (HRI.out.after M.out.2.1.1) hlt
   have HD := Lib.hid (zco hlt)
   generalize gti x.inn k = p at *
   obtain ⟨kp, rfl⟩ : ∃ j : Nat, p = j := ⟨p.toNat, by omega⟩
   have hkp : kp < m.length := by omega
   clear hpr
   obtain ⟨b2, o2, rfl, _, _, hce2⟩ := RdI.at1 (HW.out.after M.out.2.1.1) hkp
   have HJ : Hid (canL m x.inn = if gti m kp < 1 then false else canL m (x.inn.drop (k + 1))) := Lib.hid (by rw [← HI.out, HD.out, canL, Int.toNat_natCast])
   generalize gti m kp = y at *
   go_wp2_with fail
   all_goals have hj := HJ.out
   all_goals first
    | ((with_reducible refine HR.out _ _ ⟨?_, ?_⟩) <;> first | exact zcj (by clear HJ; go_light; grind) | exact M.out.2.1.1)
    | (refine ⟨⟨k + 1, by omega, by go_num, Lib.hid (by clear HJ; go_light; grind)⟩, by simp [intOf]; omega⟩)
  ·
   obtain rfl : k = x.inn.length := by omega
   have HE : Hid (canL m x.inn = true) := Lib.hid (by rw [← HI.out]; simp [canL])
   clear HI
   go_wp2_with fail
   all_goals ((with_reducible refine HR.out _ _ ⟨?_, ?_⟩) <;> first | exact zcj (by rw [HE.out]) | exact M.out.2.1.1)
end Go.Proofs.YtohmldibkojkfaaGreatDoor
end
section
namespace Go.Proofs.YtohmldibkojkfaaGreatDoor
open Go.RowKit
theorem zh9 {n : Net} {m : List Int} {b : Bool} (hb : zdp n m = b) (vt v : Value) (lo hi : Nat) (w : World) (hv : RdI w lo hi v m) :
  Calls Tryz.prog 118 #[netV n vt, v] w fun e w' => e = .returned (.bool b) ∧ Below w.heap.size w w' := hb ▸ zjw n vt m v lo hi w hv
theorem Mem.lit0 {L : List Loc} {w : World} (hM : Mem L w) : Mem (Loc.owI w.heap.size (w.heap.size + 1) (.slice (some ⟨w.heap.size, 0, none⟩) 0 0) [] :: L) (w.alloc (.cells #[] 3)) :=
 ⟨Own.lit w 3 w.heap.size [] #[] 0 rfl rfl (Nat.le_refl _) (Nat.zero_le _) (fun _ => rfl), hM.alloc _⟩
theorem Mem.lit1 {L : List Loc} {w : World} (hM : Mem L w) (x : Int) : Mem (Loc.owI w.heap.size (w.heap.size + 1) (.slice (some ⟨w.heap.size, 0, none⟩) 1 1) [x] :: L) (w.alloc (.cells #[.int .i64 x] 3)) :=
 ⟨Own.lit w 3 w.heap.size [x] #[.int .i64 x] 1 rfl rfl (Nat.le_refl _) (by decide) (fun _ => rfl), hM.alloc _⟩
theorem Mem.app0 {w : World} {L : List Loc} {lo hi : Nat} {A : Option Addr} {c : Nat} {m : List Int} (h : Mem (Loc.owI lo hi (.slice A (([] : List Int).length + m.length) c) ([] ++ m) :: L) w) : Mem (Loc.owI lo hi (.slice A m.length c) m :: L) w := by
 simpa only [List.length_nil, Nat.zero_add, List.nil_append] using h
set_option maxRecDepth 100000 in
set_option maxHeartbeats 4000000 in
theorem zwc (n : Net) (m : List Int) (t : Int) (vt v : Value) (lo hi lo' hi' : Nat) (w : World) (hv : RdT w lo hi vt n.trans) (hm : RdI w lo' hi' v m) :
  Calls Tryz.prog 88 #[netV n vt, v, .int .i64 t] w (RetI w (zci n m t)) := by
 obtain ⟨A, c, rfl, hc, hmm⟩ := hv.form
 obtain ⟨A2, c2, rfl, hc2, hmm2⟩ := hm.form
 have HV := Lib.hid hv
 have HW := Lib.hid hm
 clear hv hm
 cases hvb : zca n with
 | false =>
  have HVB := Lib.hid hvb
  clear hvb
  refine zas fun R hR => ?_
  have HR := Lib.hid hR
  clear hR
  go_enter Tryz.func88, Tryz.ntmps88
  have M : Hid (Mem [Loc.k4 w.heap.size (.int .i64 n.places) (.slice A n.trans.length c) (.int .i64 n.source) (.int .i64 n.sink), Loc.bl w.heap.size w] (w.alloc (.cells #[.int .i64 n.places, .slice A n.trans.length c, .int .i64 n.source, .int .i64 n.sink] 24))) := Lib.hid ⟨K4.new w _ _ _ _ _, ⟨(Below.refl _ _).alloc (Nat.le_refl _) _, by simp⟩, True.intro⟩
  have hk4 := M.out.1
  go_wp2_with (go_at_call 43; refine (zir HVB.out _ lo hi _ (HV.out.after M.out.2.1.1)).mono ?_; rintro e w1 ⟨rfl, hb1⟩; replace M := Lib.hid (M.out.below hb1); clear hb1; replace hk4 := M.out.1)
  exact HR.out _ _ (RetI.nil (by rw [zci, zc9, HVB.out]; rfl) M.out.2.1.1)
 | true =>
 cases hmb : zdp n m with
 | false =>
  have HVB := Lib.hid hvb
  have HMB := Lib.hid hmb
  clear hvb hmb
  refine zas fun R hR => ?_
  have HR := Lib.hid hR
  clear hR
  go_enter Tryz.func88, Tryz.ntmps88
  have M : Hid (Mem [Loc.k4 w.heap.size (.int .i64 n.places) (.slice A n.trans.length c) (.int .i64 n.source) (.int .i64 n.sink), Loc.bl w.heap.size w] (w.alloc (.cells #[.int .i64 n.places, .slice A n.trans.length c, .int .i64 n.source, .int .i64 n.sink] 24))) := Lib.hid ⟨K4.new w _ _ _ _ _, ⟨(Below.refl _ _).alloc (Nat.le_refl _) _, by simp⟩, True.intro⟩
  have hk4 := M.out.1
  go_wp2_with (first
   | (go_at_call 43; refine (zir HVB.out _ lo hi _ (HV.out.after M.out.2.1.1)).mono ?_; rintro e w1 ⟨rfl, hb1⟩; replace M := Lib.hid (M.out.below hb1); clear hb1; replace hk4 := M.out.1)
   | (go_at_call 118; refine (zh9 HMB.out _ _ lo' hi' _ (HW.out.after M.out.2.1.1)).mono ?_; rintro e w1 ⟨rfl, hb1⟩; replace M := Lib.hid (M.out.below hb1); clear hb1; replace hk4 := M.out.1))
  exact HR.out _ _ (RetI.nil (by rw [zci, zc9, HVB.out, HMB.out]; rfl) M.out.2.1.1)
 | true =>
 have HVB := Lib.hid hvb
 have HMB := Lib.hid hmb
 have hpl := zbo hvb
 have hlen := zfh hmb
 have HFF : Hid (zci n m t = zjo n m t) := Lib.hid (by rw [zci, zc9, hvb, hmb]; rfl)
 obtain ⟨np, hnp⟩ : ∃ k : Nat, n.places = k := ⟨n.places.toNat, by omega⟩
 have hml : m.length = np := by omega
 have hnp1 : 1 ≤ np := by omega
 have hnp40 : np ≤ 40 := by omega
 have HNP := Lib.hid hnp
 have HML := Lib.hid hml
 clear hpl hlen hnp hml hvb hmb
 by_cases ht : t < 0 ∨ n.trans.length ≤ t
 ·
  have HT := Lib.hid ht
  refine zas fun R hR => ?_
  have HR := Lib.hid hR
  clear hR
  go_enter Tryz.func88, Tryz.ntmps88
  have M : Hid (Mem [Loc.k4 w.heap.size (.int .i64 n.places) (.slice A n.trans.length c) (.int .i64 n.source) (.int .i64 n.sink), Loc.bl w.heap.size w] (w.alloc (.cells #[.int .i64 n.places, .slice A n.trans.length c, .int .i64 n.source, .int .i64 n.sink] 24))) := Lib.hid ⟨K4.new w _ _ _ _ _, ⟨(Below.refl _ _).alloc (Nat.le_refl _) _, by simp⟩, True.intro⟩
  have hk4 := M.out.1
  go_wp2_with (first
   | (go_at_call 43; refine (zir HVB.out _ lo hi _ (HV.out.after M.out.2.1.1)).mono ?_; rintro e w1 ⟨rfl, hb1⟩; replace M := Lib.hid (M.out.below hb1); clear hb1; replace hk4 := M.out.1)
   | (go_at_call 118; refine (zh9 HMB.out _ _ lo' hi' _ (HW.out.after M.out.2.1.1)).mono ?_; rintro e w1 ⟨rfl, hb1⟩; replace M := Lib.hid (M.out.below hb1); clear hb1; replace hk4 := M.out.1))
  all_goals first
   | exact HR.out _ _ (RetI.nil (by rw [HFF.out, zjo, if_pos HT.out]) M.out.2.1.1)
   | (exfalso; go_light; omega)
 ·
  have HT := Lib.hid ht
  obtain ⟨kt, rfl⟩ : ∃ k : Nat, t = k := ⟨t.toNat, by omega⟩
  have hlt : kt < n.trans.length := by omega
  clear ht
  obtain ⟨b, off, vi, vo, rfl, hbl, hbh, hcell, hri, hro⟩ := RdT.at3 HV.out hlt
  have HTR := Lib.hid (zg3 HVB.out (gti_mem hlt))
  obtain ⟨Ai, ci, rfl, hci, hmi⟩ := hri.form
  obtain ⟨Ao, co, rfl, hco, hmo⟩ := hro.form
  have HFE : Hid (zci n m kt = if enB (gti n.trans kt) m then
    if (incL (gti n.trans kt).out (decL (gti n.trans kt).inn m)).any (fun y => decide (100 < y)) then ([], 5)
    else (incL (gti n.trans kt).out (decL (gti n.trans kt).inn m), 0)
   else ([], 12)) := Lib.hid (by rw [HFF.out, zjo, if_neg HT.out, Int.toNat_natCast])
  have HCAN : Hid (∀ W, Below w.heap.size w W → Calls Tryz.prog 119 #[netV n (.slice (some ⟨b, off, none⟩) n.trans.length c), .slice A2 m.length c2, .int .i64 kt] W fun e w' => e = .returned (.bool (enB (gti n.trans kt) m)) ∧ Below W.heap.size W w') :=
   Lib.hid (fun W hW => by
    have h := z3b n m kt _ _ lo hi lo' hi' W (HV.out.after hW) (HW.out.after hW) hlt (fun k hk => by
     have := zd3 HTR.out.2.1 hk
     have := HNP.out
     have := HML.out
     omega)
    rw [zya (fun i => (zf8 HMB.out i).1)] at h
    exact h)
  have HFM : Hid (enB (gti n.trans kt) m = true → zdp n (incL (gti n.trans kt).out (decL (gti n.trans kt).inn m)) = !(incL (gti n.trans kt).out (decL (gti n.trans kt).inn m)).any fun y => decide (100 < y)) := Lib.hid (fun h => zp7 HMB.out HTR.out.2.1 h)
  generalize gti n.trans kt = x at *
  have HRI := Lib.hid hri
  have HRO := Lib.hid hro
  have hil : x.inn.length ≤ 40 := by have := zel HTR.out.2.1; have := HNP.out; omega
  have hol : x.out.length ≤ 40 := by have := zel HTR.out.2.2; have := HNP.out; omega
  have hx1 : ((kt : Int) < 0) = False := by simp
  have hx2 : ((n.trans.length : Int) ≤ (kt : Int)) = False := by simp; omega
  have HC := Lib.hid hcell
  clear hri hro HT HFF hcell
  refine zas fun R hR => ?_
  have HR := Lib.hid hR
  clear hR
  go_enter Tryz.func88, Tryz.ntmps88
  have M : Hid (Mem [Loc.k4 w.heap.size (.int .i64 n.places) (.slice (some ⟨b, off, none⟩) n.trans.length c) (.int .i64 n.source) (.int .i64 n.sink), Loc.bl w.heap.size w] (w.alloc (.cells #[.int .i64 n.places, .slice (some ⟨b, off, none⟩) n.trans.length c, .int .i64 n.source, .int .i64 n.sink] 24))) := Lib.hid ⟨K4.new w _ _ _ _ _, ⟨(Below.refl _ _).alloc (Nat.le_refl _) _, by simp⟩, True.intro⟩
  have hk4 := M.out.1
  go_wp2_with (first
   | (go_at_call 43; refine (zir HVB.out _ lo hi _ (HV.out.after M.out.2.1.1)).mono ?_; rintro e w1 ⟨rfl, hb1⟩; replace M := Lib.hid (M.out.below hb1); clear hb1; replace hk4 := M.out.1)
   | (go_at_call 118; refine (zh9 HMB.out _ _ lo' hi' _ (HW.out.after M.out.2.1.1)).mono ?_; rintro e w1 ⟨rfl, hb1⟩; replace M := Lib.hid (M.out.below hb1); clear hb1; replace hk4 := M.out.1)
   | (go_at_call 119; refine (HCAN.out _ M.out.2.1.1).mono ?_; rintro e w3 ⟨rfl, hb1⟩; replace M := Lib.hid (M.out.below hb1); clear hb1; replace hk4 := M.out.1; have hz3 := M.out.1.2.2.2.2)
   | (at_builtin; refine zd1 rfl _ _ rfl zh3 (fun _ => rfl) oneI rfl rfl (Mem.lit0 M.out) (by (repeat' (first | exact True.intro | refine And.intro (fun k hk e => ?_) ?_)) <;> (first | exact e | ((try dsimp only [Loc.c1, Loc.c2, Loc.k1, Loc.k2, Loc.k3, Loc.k4, Loc.k6, Loc.fr, Loc.bl, Loc.own, Loc.sz, Loc.rd, Loc.rdI, Loc.rdS, Loc.rdM, Loc.rdT, Loc.ow, Loc.owI] at hk e) <;> omega))) (HW.out.after (M.out.2.1.1.alloc M.out.2.1.2 _)) (by have := HML.out; simp; omega) (by have := HML.out; simp; omega) (by simp) ?_; intro A1 c1 w4 hM1 hs1 hch1; replace M := Lib.hid (Mem.app0 hM1); clear hM1 hch1; (try simp only [World.size_alloc] at hs1)))
  ·
   exact HR.out _ _ (RetI.nil (by have hfe := HFE.out; clear HFE; go_light; grind) M.out.2.1.1)
  ·
   have hEN : enB x m = true := by go_light; grind
   have HEN := Lib.hid hEN
   clear hEN
   obtain ⟨g, cap, hA1, hgl, hgh, hgs⟩ := M.out.1.blk (by have := HML.out; omega)
   injection hA1 with e1 _ e3
   subst e1 e3
   go_loopw [9] (fun v9 wr => ∃ (k : Nat) (cur : List Int), k ≤ x.inn.length ∧ v9 = .int .i64 k ∧ Hid (decL (x.inn.drop k) cur = decL x.inn m) ∧ Hid (Bnd (100 + k) cur) ∧ Hid (cur.length = m.length) ∧ Hid (Mem [Loc.owI w3.heap.size w4.heap.size (.slice (some ⟨g, 0, none⟩) m.length c1) cur, Loc.k4 w.heap.size (.int .i64 n.places) (.slice (some ⟨b, off, none⟩) n.trans.length c) (.int .i64 n.source) (.int .i64 n.sink), Loc.bl w.heap.size w, Loc.sz w4.heap.size] wr)) (fun v9 _ => x.inn.length - (intOf v9).toNat)
   case atStart => exact ⟨0, m, by omega, rfl, Lib.hid rfl, Lib.hid (fun i => by have := zf8 HMB.out i; omega), Lib.hid rfl, Lib.hid ⟨M.out.1, M.out.2.1, M.out.2.2.1, Nat.le_refl _, True.intro⟩⟩
   case round =>
    obtain ⟨k, cur, hk, rfl, HI, HBD, HCL, HM⟩ := hrel
    replace hk4 := HM.out.2.1
    have hcr := C3.aft HM.out.2.2.1.1 HC.out
    by_cases hltk : k < x.inn.length
    ·
     obtain ⟨bb, oo, rfl, _, _, hce⟩ := RdI.at1 (HRI.out.after HM.out.2.2.1.1) hltk
     have HD := Lib.hid (zco hltk)
     have hpr := zd3 HTR.out.2.1 hltk
     generalize gti x.inn k = p at *
     obtain ⟨kp, rfl⟩ : ∃ j : Nat, p = j := ⟨p.toNat, by omega⟩
     have hkp : kp < m.length := by have := HNP.out; have := HML.out; omega
     have hkc : kp < cur.length := by rw [HCL.out]; exact hkp
     have hat := OwnI.at1 HM.out.1 hkc
     have hbd := HBD.out kp
     have HO2 := Lib.hid (OwnI.set (HM.out.drew).1 kp (gti cur kp - 1))
     clear hpr hkc
     go_wp2_with fail
     go_still_tail 24, (by kernel_rfl)
     change wpList _ _ _ _ _ wr.drew
     go_wp2_with fail
     have hA : Hid (decL (x.inn.drop (k + 1)) (cur.set kp (gti cur kp - 1)) = decL x.inn m) := Lib.hid (by
      have h := HI.out
      rw [HD.out, decL, Int.toNat_natCast] at h
      exact h)
     have hB : Hid (Bnd (100 + ((k + 1 : Nat) : Int)) (cur.set kp (gti cur kp - 1))) := Lib.hid (by
      have := HBD.out.dec kp
      rw [show (100 + ((k + 1 : Nat) : Int)) = 100 + (k : Int) + 1 by omega]
      exact this)
     have hC : Hid ((cur.set kp (gti cur kp - 1)).length = m.length) := Lib.hid (by rw [List.length_set]; exact HCL.out)
     have hk1 : k + 1 ≤ x.inn.length := by omega
     have hMr := HM.out.drew.2.set (g := g) (i := kp) (u := .int .i64 (gti cur kp - 1)) (by (repeat' (first | exact True.intro | refine And.intro (fun k hk e => ?_) ?_)) <;> (first | exact e | ((try dsimp only [Loc.c1, Loc.c2, Loc.k1, Loc.k2, Loc.k3, Loc.k4, Loc.k6, Loc.fr, Loc.bl, Loc.own, Loc.sz, Loc.rd, Loc.rdI, Loc.rdS, Loc.rdM, Loc.rdT, Loc.ow, Loc.owI] at hk e) <;> omega)))
     go_roundw
     case rel => (first | exact ⟨k + 1, cur.set kp (gti cur kp - 1), hk1, rfl, hA, hB, hC, Lib.hid ⟨HO2.out, hMr⟩⟩ | ((repeat apply Exists.intro); exact ⟨⟨k + 1, cur.set kp (gti cur kp - 1), hk1, rfl, hA, hB, hC, Lib.hid ⟨HO2.out, hMr⟩⟩, rfl⟩))
     case measure => simp [intOf]; omega
    ·
     obtain rfl : k = x.inn.length := by omega
     have HE : Hid (cur = decL x.inn m) := Lib.hid (by have h := HI.out; simpa [decL] using h)
     clear HI
     go_wp2_with fail
     go_loopw [10] (fun v10 wr => ∃ (k : Nat) (cur : List Int), k ≤ x.out.length ∧ v10 = .int .i64 k ∧ Hid (incL (x.out.drop k) cur = incL x.out (decL x.inn m)) ∧ Hid (Bnd ((100 + x.inn.length) + k) cur) ∧ Hid (cur.length = m.length) ∧ Hid (Mem [Loc.owI w3.heap.size w4.heap.size (.slice (some ⟨g, 0, none⟩) m.length c1) cur, Loc.k4 w.heap.size (.int .i64 n.places) (.slice (some ⟨b, off, none⟩) n.trans.length c) (.int .i64 n.source) (.int .i64 n.sink), Loc.bl w.heap.size w, Loc.sz w4.heap.size] wr)) (fun v10 _ => x.out.length - (intOf v10).toNat)
     case atStart => exact ⟨0, cur, by omega, rfl, Lib.hid (by rw [HE.out]; rfl), Lib.hid (by simpa using HBD.out), HCL, HM⟩
     case round =>
      clear HE HBD HCL HM hk4 hcr
      obtain ⟨k, cur, hk, rfl, HI, HBD, HCL, HM⟩ := hrel
      have hk4 := HM.out.2.1
      have hcr := C3.aft HM.out.2.2.1.1 HC.out
      by_cases hltk : k < x.out.length
      ·
       obtain ⟨bb, oo, rfl, _, _, hce⟩ := RdI.at1 (HRO.out.after HM.out.2.2.1.1) hltk
       have HD := Lib.hid (zco hltk)
       have hpr := zd3 HTR.out.2.2 hltk
       generalize gti x.out k = p at *
       obtain ⟨kp, rfl⟩ : ∃ j : Nat, p = j := ⟨p.toNat, by omega⟩
       have hkp : kp < m.length := by have := HNP.out; have := HML.out; omega
       have hkc : kp < cur.length := by rw [HCL.out]; exact hkp
       have hat := OwnI.at1 HM.out.1 hkc
       have hbd := HBD.out kp
       have HO2 := Lib.hid (OwnI.set (HM.out.drew).1 kp (gti cur kp + 1))
       clear hpr hkc
       go_wp2_with fail
       go_still_tail 24, (by kernel_rfl)
       change wpList _ _ _ _ _ wr.drew
       go_wp2_with fail
       have hA : Hid (incL (x.out.drop (k + 1)) (cur.set kp (gti cur kp + 1)) = incL x.out (decL x.inn m)) := Lib.hid (by
        have h := HI.out
        rw [HD.out, incL, Int.toNat_natCast] at h
        exact h)
       have hB : Hid (Bnd ((100 + x.inn.length) + ((k + 1 : Nat) : Int)) (cur.set kp (gti cur kp + 1))) := Lib.hid (by
        have := HBD.out.inc kp
        rw [show ((100 + x.inn.length) + ((k + 1 : Nat) : Int)) = (100 + x.inn.length) + (k : Int) + 1 by omega]
        exact this)
       have hC : Hid ((cur.set kp (gti cur kp + 1)).length = m.length) := Lib.hid (by rw [List.length_set]; exact HCL.out)
       have hk1 : k + 1 ≤ x.out.length := by omega
       have hMr := HM.out.drew.2.set (g := g) (i := kp) (u := .int .i64 (gti cur kp + 1)) (by (repeat' (first | exact True.intro | refine And.intro (fun k hk e => ?_) ?_)) <;> (first | exact e | ((try dsimp only [Loc.c1, Loc.c2, Loc.k1, Loc.k2, Loc.k3, Loc.k4, Loc.k6, Loc.fr, Loc.bl, Loc.own, Loc.sz, Loc.rd, Loc.rdI, Loc.rdS, Loc.rdM, Loc.rdT, Loc.ow, Loc.owI] at hk e) <;> omega)))
       go_roundw
       case rel => (first | exact ⟨k + 1, cur.set kp (gti cur kp + 1), hk1, rfl, hA, hB, hC, Lib.hid ⟨HO2.out, hMr⟩⟩ | ((repeat apply Exists.intro); exact ⟨⟨k + 1, cur.set kp (gti cur kp + 1), hk1, rfl, hA, hB, hC, Lib.hid ⟨HO2.out, hMr⟩⟩, rfl⟩))
       case measure => simp [intOf]; omega
      ·
       obtain rfl : k = x.out.length := by omega
       have HE : Hid (cur = incL x.out (decL x.inn m)) := Lib.hid (by have h := HI.out; simpa [incL] using h)
       clear HI
       have M := HM
       clear HM
       go_wp2_with (go_at_call 118; refine (zjw n _ cur _ w3.heap.size w4.heap.size _ M.out.1.rd).mono ?_; rintro e w1 ⟨rfl, hb1⟩; replace M := Lib.hid (M.out.below hb1); clear hb1; skip)
       all_goals (have hfe := HFE.out; have he := HE.out; have hmg := HFM.out HEN.out; rw [← he] at hfe hmg; rw [if_pos HEN.out] at hfe)
       all_goals first
        | exact HR.out _ _ (RetI.nil (by clear HFE HE HFM he; go_light; grind) M.out.2.2.1.1)
        | exact HR.out _ _ (RetI.mk (l := cur) (by clear HFE HE HFM he; go_light; grind) HCL.out.symm M.out.1.rd (by omega) M.out.2.2.2.1 M.out.2.2.1.1)
end Go.Proofs.YtohmldibkojkfaaGreatDoor
end
section
namespace Go.Proofs.YtohmldibkojkfaaGreatDoor
open Go.RowKit
structure Mvx where
 fr : Int
 tt : Int
 sym : Int
instance : Inhabited Mvx := ⟨⟨0, 0, 0⟩⟩
structure Spc where
 st : List (List Int)
 mv : List Mvx
 full : Bool
def zdw (S : List (List Int)) (m : List Int) : Int := zds (fun x => decide (x = m)) S
def xstS (most : Int) (i : Nat) (s : Spc) (r : List Int × Int) (t : Int) : Option Spc :=
 if r.2 ≠ 0 ∨ (zdw s.st r.1 < 0 ∧ most ≤ s.st.length) then some ⟨s.st, s.mv, false⟩
 else if 20000 ≤ s.mv.length then none
 else some ⟨if zdw s.st r.1 < 0 then s.st ++ [r.1] else s.st, s.mv ++ [⟨i, if zdw s.st r.1 < 0 then s.st.length else zdw s.st r.1, t⟩], s.full⟩
theorem mem_gti' {α : Type} [Inhabited α] {l : List α} {x : α} (h : x ∈ l) : ∃ k, k < l.length ∧ gti l k = x := by
 obtain ⟨k, hk, rfl⟩ := List.getElem_of_mem h
 exact ⟨k, hk, by unfold gti; rw [List.getElem?_eq_getElem hk]; rfl⟩
theorem zhh {S : List (List Int)} {m : List Int} : zdw S m < 0 ↔ m ∉ S := by
 have h := zd0 (fun x => decide (x = m)) S
 unfold zdw
 rw [Bool.eq_iff_iff, List.any_eq_true] at h
 simp only [decide_eq_true_eq] at h
 constructor
 ·
  intro hn hm
  have := h.2 ⟨m, hm, rfl⟩
  omega
 ·
  intro hm
  by_cases h0 : 0 ≤ zds (fun x => decide (x = m)) S
  ·
   obtain ⟨x, hx, rfl⟩ := h.1 h0
   exact absurd hx hm
  ·
   omega
theorem zp9 {S : List (List Int)} {m : List Int} (h : 0 ≤ zdw S m) : ∃ k : Nat, zdw S m = k ∧ S[k]? = some m ∧ k < S.length := by
 unfold zdw zds at h ⊢
 cases e : S.findIdx? (fun x => decide (x = m)) with
 | none => rw [e] at h; simp at h
 | some k =>
  refine ⟨k, rfl, ?_, ?_⟩
  ·
   have := List.findIdx?_eq_some_iff_getElem.1 e
   obtain ⟨h1, h2, _⟩ := this
   rw [List.getElem?_eq_getElem h1]
   exact congrArg some (of_decide_eq_true h2)
  ·
   exact (List.findIdx?_eq_some_iff_getElem.1 e).1
theorem zzs {S : List (List Int)} {m : List Int} {k : Nat} (hk : S[k]? = some m) (hn : ∀ j, j < k → S[j]? ≠ some m) : zdw S m = k :=
 zdq hk (decide_eq_true rfl) (fun j a hj ha => decide_eq_false (fun e => hn j hj (by rw [ha, e])))
theorem zlz {S : List (List Int)} {m : List Int} (h : m ∉ S) : zdw (S ++ [m]) m = S.length :=
 zzs (by simp) (fun j hj e => h (by rw [List.getElem?_append_left hj] at e; exact List.mem_of_getElem? e))
theorem zmi {S : List (List Int)} {m x : List Int} (h : m ∈ S) : zdw (S ++ [x]) m = zdw S m := by
 obtain ⟨k, h1, h2, h3⟩ := zp9 (S := S) (m := m) (by by_cases h0 : zdw S m < 0; exact absurd h (zhh.1 h0); omega)
 unfold zdw zds at *
 rw [List.findIdx?_append]
 cases e : S.findIdx? (fun x => decide (x = m)) with
 | none => rw [e] at h1; simp at h1
 | some k => rfl
def keyL (m : List Int) : List UInt8 := m.flatMap fun n => [UInt8.ofNat n.toNat, 0]
theorem zxe (m : List Int) (n : Int) : keyL (m ++ [n]) = keyL m ++ [UInt8.ofNat n.toNat] ++ [0] := by simp [keyL]
theorem zn8 (m : List Int) : (keyL m).length = 2 * m.length := by
 induction m with
 | nil => rfl
 | cons a m ih =>
  have : keyL (a :: m) = [UInt8.ofNat a.toNat, 0] ++ keyL m := rfl
  rw [this, List.length_append, ih]
  simp
  omega
theorem zsg {n : Int} (h0 : 0 ≤ n) (h1 : n ≤ 255) : ((UInt8.ofNat n.toNat).toNat : Int) = n := by
 rw [UInt8.toNat_ofNat', Nat.mod_eq_of_lt (by omega)]
 omega
theorem ztl : ∀ {a b : List Int}, (∀ x ∈ a, 0 ≤ x ∧ x ≤ 255) → (∀ x ∈ b, 0 ≤ x ∧ x ≤ 255) → keyL a = keyL b → a = b
 | [], [], _, _, _ => rfl
 | [], y :: b, _, _, h => by simp [keyL] at h
 | x :: a, [], _, _, h => by simp [keyL] at h
 | x :: a, y :: b, ha, hb, h => by
  have h1 : keyL (x :: a) = [UInt8.ofNat x.toNat, 0] ++ keyL a := rfl
  have h2 : keyL (y :: b) = [UInt8.ofNat y.toNat, 0] ++ keyL b := rfl
  rw [h1, h2] at h
  simp only [List.cons_append, List.nil_append, List.cons.injEq, true_and] at h
  have e1 := zsg (ha x List.mem_cons_self).1 (ha x List.mem_cons_self).2
  have e2 := zsg (hb y List.mem_cons_self).1 (hb y List.mem_cons_self).2
  rw [h.1, e2] at e1
  rw [e1, ztl (fun z hz => ha z (List.mem_cons_of_mem _ hz)) (fun z hz => hb z (List.mem_cons_of_mem _ hz)) h.2]
theorem zjr {n : Net} {m : List Int} {t : Int} (hm : zc9 n m = true) (h : (zci n m t).2 = 0) : zc9 n (zci n m t).1 = true := by
 unfold zci at h ⊢
 rw [if_pos hm] at h ⊢
 exact znk hm h
theorem zie {n : Net} {m : List Int} (h : zc9 n m = true) : ∀ x ∈ m, 0 ≤ x ∧ x ≤ 255 := by
 intro x hx
 unfold zc9 at h
 simp only [Bool.and_eq_true] at h
 obtain ⟨k, _, rfl⟩ := mem_gti' hx
 have := zf8 h.2 k
 omega
theorem zll {n : Net} {m : List Int} (h : zc9 n m = true) : 1 ≤ m.length ∧ m.length ≤ 40 ∧ (m.length : Int) = n.places := by
 unfold zc9 at h
 simp only [Bool.and_eq_true] at h
 have := zfh h.2
 have := zbo h.1
 omega
structure SI (n : Net) (most : Int) (s : Spc) : Prop where
 marks : ∀ x ∈ s.st, zc9 n x = true
 nd : s.st.Nodup
 ne : 1 ≤ s.st.length
 le : (s.st.length : Int) ≤ most
 mvs : s.mv.length ≤ 20000
theorem SI.init {n : Net} {m : List Int} {most : Int} (h : zc9 n m = true) (h1 : ¬ most < 1) : SI n most ⟨[m], [], true⟩ :=
 ⟨fun x hx => by simp at hx; subst hx; exact h, by simp, by simp, by simp; omega, by simp⟩
theorem SI.step {n : Net} {most : Int} {s s' : Spc} {i : Nat} {x : List Int} {t : Int} (h : SI n most s) (hx : zc9 n x = true) (he : xstS most i s (zci n x t) t = some s') : SI n most s' := by
 unfold xstS at he
 split at he
 ·
  cases he; exact ⟨h.marks, h.nd, h.ne, h.le, h.mvs⟩
 ·
  rename_i h1
  split at he
  ·
   cases he
  ·
   rename_i h2
   cases he
   have h0 : (zci n x t).2 = 0 := Classical.byContradiction fun hc => h1 (.inl hc)
   by_cases hf : zdw s.st (zci n x t).1 < 0
   ·
    simp only [if_pos hf]
    have hlt : ¬ most ≤ s.st.length := fun hc => h1 (.inr ⟨hf, hc⟩)
    refine ⟨fun y hy => ?_, ?_, by simp, by simp; omega, by simp; omega⟩
    ·
     rcases List.mem_append.1 hy with hy | hy
     ·
      exact h.marks y hy
     ·
      simp at hy; subst hy; exact zjr hx h0
    ·
     refine List.nodup_append.2 ⟨h.nd, by simp, fun a ha b hb e => ?_⟩
     simp at hb
     subst hb e
     exact zhh.1 hf ha
   ·
    simp only [if_neg hf]
    exact ⟨h.marks, h.nd, h.ne, h.le, by simp; omega⟩
theorem SI.gti {n : Net} {most : Int} {s : Spc} (h : SI n most s) {i : Nat} (hi : i < s.st.length) : zc9 n (gti s.st i) = true := h.marks _ (gti_mem hi)
end Go.Proofs.YtohmldibkojkfaaGreatDoor
end
section
namespace Go.Proofs.YtohmldibkojkfaaGreatDoor.Dl
open Go.RowKit
structure Gr where
 st : List (List Int)
 ed : List Edg
def idx (S : List (List Int)) (x : List Int) : Nat := if zdw S x < 0 then S.length else (zdw S x).toNat
def oneD (most : Int) (i : Nat) (r : List Int × Int) (g : Gr) : Option Gr :=
 if zdw g.st r.1 < 0 ∧ most ≤ g.st.length then none
 else some ⟨if zdw g.st r.1 < 0 then g.st ++ [r.1] else g.st, g.ed ++ [⟨i, idx g.st r.1, r.2⟩]⟩
section
variable {nx : List Int → List (List Int × Int)} {s0 : List Int} {most : Int} {okS : List Int → Prop}
structure BI (nx : List Int → List (List Int × Int)) (s0 : List Int) (most : Int) (okS : List Int → Prop) (g : Gr) : Prop where
 h0 : g.st[0]? = some s0
 nd : g.st.Nodup
 le : (g.st.length : Int) ≤ most
 ok : ∀ x ∈ g.st, okS x
 eok : ∀ e ∈ g.ed, e.a < g.st.length ∧ e.b < g.st.length ∧ 0 ≤ e.c ∧ e.c ≤ 1000 ∧ (gti g.st e.b, e.c) ∈ nx (gti g.st e.a)
 rch : ∀ j, j < g.st.length → ∃ d, d ≤ 1000 * (j : Int) ∧ Way g.ed j 0 d
structure NxOk (nx : List Int → List (List Int × Int)) (okS : List Int → Prop) : Prop where
 ok : ∀ x, okS x → ∀ r ∈ nx x, okS r.1 ∧ 0 ≤ r.2 ∧ r.2 ≤ 1000
 len : ∀ x, okS x → (nx x).length ≤ 4000
theorem Way.mono {M M' : List Edg} (h : ∀ e ∈ M, e ∈ M') {t k : Nat} {d : Int} (w : Way M t k d) : Way M' t k d := by
 induction w with
 | nil => exact .nil
 | cons e d he _ ih => exact .cons e d (h e he) ih
theorem zrz {S : List (List Int)} {x : List Int} (h : zdw S x < 0) : idx S x = S.length := by unfold idx; rw [if_pos h]
theorem zig {S : List (List Int)} {x : List Int} (h : ¬ zdw S x < 0) : S[idx S x]? = some x ∧ idx S x < S.length ∧ ((idx S x : Nat) : Int) = zdw S x := by
 obtain ⟨k, h1, h2, h3⟩ := zp9 (S := S) (m := x) (by omega)
 have : idx S x = k := by unfold idx; rw [if_neg h, h1]; rfl
 rw [this]; exact ⟨h2, h3, h1.symm⟩
theorem zcz {α : Type} [Inhabited α] {L t : List α} {j : Nat} (h : j < L.length) : gti (L ++ t) j = gti L j := by unfold gti; rw [List.getElem?_append_left h]
theorem ze5 {α : Type} [Inhabited α] {L : List α} {x : α} : gti (L ++ [x]) L.length = x := by unfold gti; simp
theorem zed {α : Type} [Inhabited α] {L : List α} {x : α} {j : Nat} (h : L[j]? = some x) : gti L j = x := by unfold gti; rw [h]; rfl
theorem BI.init (h : okS s0) (hm : 1 ≤ most) : BI nx s0 most okS ⟨[s0], []⟩ :=
 ⟨rfl, by simp, by simpa using hm, fun x hx => by simp at hx; subst hx; exact h, by simp, fun j hj => by
  have : j = 0 := by simpa using hj
  subst this; exact ⟨0, by simp, .nil⟩⟩
theorem BI.step {g g' : Gr} {i : Nat} {r : List Int × Int} (hN : NxOk nx okS) (h : BI nx s0 most okS g) (hi : i < g.st.length) (hr : r ∈ nx (gti g.st i)) (he : oneD most i r g = some g') :
  BI nx s0 most okS g' ∧ (∃ T, g'.st = g.st ++ T) ∧ g'.ed = g.ed ++ [⟨i, idx g.st r.1, r.2⟩] ∧ g'.st[idx g.st r.1]? = some r.1 := by
 have hoi := hN.ok _ (h.ok _ (gti_mem hi)) r hr
 unfold oneD at he
 split at he
 ·
  cases he
 ·
  rename_i hno
  cases he
  have hx0 : gti g.st 0 = s0 := zed h.h0
  by_cases hf : zdw g.st r.1 < 0
  ·
   simp only [if_pos hf]
   have hid := zrz hf
   rw [hid]
   have hlt : ¬ most ≤ g.st.length := fun hc => hno ⟨hf, hc⟩
   have hnm : r.1 ∉ g.st := zhh.1 hf
   refine ⟨⟨?_, ?_, by simp; omega, fun x hx => ?_, fun e hx => ?_, fun j hj => ?_⟩, ⟨_, rfl⟩, trivial, by simp⟩
   ·
    show (g.st ++ [r.1])[0]? = _
    rw [List.getElem?_append_left (by omega)]; exact h.h0
   ·
    refine List.nodup_append.2 ⟨h.nd, by simp, fun a ha b hb e => ?_⟩
    simp at hb; subst hb e; exact hnm ha
   ·
    rcases List.mem_append.1 hx with hx | hx
    ·
     exact h.ok x hx
    ·
     simp at hx; subst hx; exact hoi.1
   ·
    have e1 : (g.st ++ [r.1]).length = g.st.length + 1 := by simp
    rcases List.mem_append.1 hx with hx | hx
    ·
     obtain ⟨q1, q2, q3, q4, q5⟩ := h.eok e hx
     refine ⟨by simp; omega, by simp; omega, q3, q4, ?_⟩
     show (gti (g.st ++ [r.1]) e.b, e.c) ∈ nx (gti (g.st ++ [r.1]) e.a)
     rw [zcz q1, zcz q2]; exact q5
    ·
     simp at hx; subst hx
     refine ⟨by simp; omega, by simp, hoi.2.1, hoi.2.2, ?_⟩
     show (gti (g.st ++ [r.1]) g.st.length, r.2) ∈ nx (gti (g.st ++ [r.1]) i)
     rw [zcz hi, ze5]; exact hr
   ·
    have hj2 : j < g.st.length + 1 := by simpa using hj
    by_cases hjn : j < g.st.length
    ·
     obtain ⟨d, hd, hw⟩ := h.rch j hjn
     exact ⟨d, hd, hw.mono (fun e he => List.mem_append_left _ he)⟩
    ·
     have : j = g.st.length := by omega
     subst this
     obtain ⟨d, hd, hw⟩ := h.rch i hi
     have hw2 := hw.mono (M' := g.ed ++ [⟨i, g.st.length, r.2⟩]) (fun e he => List.mem_append_left _ he)
     exact ⟨d + r.2, by have := hoi.2.2; omega, hw2.snoc (e := ⟨i, g.st.length, r.2⟩) (by simp) rfl⟩
  ·
   simp only [if_neg hf]
   obtain ⟨p1, p2, p3⟩ := zig hf
   refine ⟨⟨h.h0, h.nd, h.le, h.ok, fun e hx => ?_, fun j hj => ?_⟩, ⟨[], by simp⟩, trivial, p1⟩
   ·
    rcases List.mem_append.1 hx with hx | hx
    ·
     exact h.eok e hx
    ·
     simp at hx; subst hx
     refine ⟨hi, p2, hoi.2.1, hoi.2.2, ?_⟩
     show (gti g.st (idx g.st r.1), r.2) ∈ nx (gti g.st i)
     rw [zed p1]; exact hr
   ·
    obtain ⟨d, hd, hw⟩ := h.rch j hj
    exact ⟨d, hd, hw.mono (fun e he => List.mem_append_left _ he)⟩
def Clo (nx : List Int → List (List Int × Int)) (g : Gr) (i q : Nat) : Prop :=
 ∀ (k : Nat) r, k < q → (nx (gti g.st i))[k]? = some r → ∃ j, g.st[j]? = some r.1 ∧ (⟨i, j, r.2⟩ : Edg) ∈ g.ed
theorem Clo.grow {g g' : Gr} {i q : Nat} (hi : i < g.st.length) (h : Clo nx g i q) (hs : ∃ T, g'.st = g.st ++ T) (he : ∃ T, g'.ed = g.ed ++ T) : Clo nx g' i q := by
 obtain ⟨T, hs⟩ := hs
 obtain ⟨U, he⟩ := he
 intro k r hk hr
 rw [hs, zcz hi] at hr
 obtain ⟨j, h1, h2⟩ := h k r hk hr
 exact ⟨j, by rw [hs, List.getElem?_append_left (List.getElem?_eq_some_iff.1 h1).1]; exact h1, by rw [he]; exact List.mem_append_left _ h2⟩
end
end Go.Proofs.YtohmldibkojkfaaGreatDoor.Dl
end
section
namespace Go.Proofs.YtohmldibkojkfaaGreatDoor.Dl
open Go.RowKit
abbrev En := Int × Int
instance : Inhabited En := ⟨(0, 0)⟩
def ky (l : List En) (k : Nat) : Int := (gti l k).1
def swp (l : List En) (i j : Nat) : List En := (l.set i (gti l j)).set j (gti l i)
def upF : Nat → List En → Nat → List En
 | 0, l, _ => l
 | f + 1, l, j => if j = 0 then l else if ky l j < ky l ((j - 1) / 2) then upF f (swp l ((j - 1) / 2) j) ((j - 1) / 2) else l
def upD (l : List En) (j : Nat) : List En := upF j l j
theorem zst : ∀ (f g : Nat) (l : List En) (j : Nat), j ≤ f → j ≤ g → upF f l j = upF g l j
 | 0, 0, l, j, _, _ => rfl
 | 0, g + 1, l, j, h, _ => by
  have : j = 0 := by omega
  subst this; rfl
 | f + 1, 0, l, j, _, h => by
  have : j = 0 := by omega
  subst this; rfl
 | f + 1, g + 1, l, j, h1, h2 => by
  unfold upF
  split
  ·
   rfl
  ·
   split
   ·
    exact zst f g _ _ (by omega) (by omega)
   ·
    rfl
theorem zsu (l : List En) (j : Nat) : upD l j = if h : j = 0 then l else if ky l j < ky l ((j - 1) / 2) then upD (swp l ((j - 1) / 2) j) ((j - 1) / 2) else l := by
 unfold upD
 cases j with
 | zero => rfl
 | succ j =>
  rw [dif_neg (by omega)]
  show (if j + 1 = 0 then l else if ky l (j + 1) < ky l ((j + 1 - 1) / 2) then upF j (swp l ((j + 1 - 1) / 2) (j + 1)) ((j + 1 - 1) / 2) else l) = _
  rw [if_neg (by omega), zst j ((j + 1 - 1) / 2) _ _ (by omega) (Nat.le_refl _)]
def chD (l : List En) (n i : Nat) : Nat := if 2 * i + 2 < n ∧ ky l (2 * i + 2) < ky l (2 * i + 1) then 2 * i + 2 else 2 * i + 1
theorem zj6 {l : List En} {n i : Nat} (h : 2 * i + 1 < n) : i < chD l n i ∧ chD l n i < n ∧ (chD l n i - 1) / 2 = i := by
 unfold chD; split <;> omega
def dnF : Nat → List En → Nat → Nat → List En
 | 0, l, _, _ => l
 | f + 1, l, n, i => if 2 * i + 1 < n then (if ky l (chD l n i) < ky l i then dnF f (swp l i (chD l n i)) n (chD l n i) else l) else l
def dnD (l : List En) (n i : Nat) : List En := dnF (n - i) l n i
theorem zt5 : ∀ (f g : Nat) (l : List En) (n i : Nat), n - i ≤ f → n - i ≤ g → dnF f l n i = dnF g l n i
 | 0, 0, l, n, i, _, _ => rfl
 | 0, g + 1, l, n, i, h, _ => by unfold dnF; rw [if_neg (by omega)]
 | f + 1, 0, l, n, i, _, h => by unfold dnF; rw [if_neg (by omega)]
 | f + 1, g + 1, l, n, i, h1, h2 => by
  unfold dnF
  split
  ·
   rename_i h3
   have := zj6 (l := l) h3
   split
   ·
    exact zt5 f g _ _ _ (by omega) (by omega)
   ·
    rfl
  ·
   rfl
theorem zi8 (l : List En) (n i : Nat) : dnD l n i = if h : 2 * i + 1 < n then (if ky l (chD l n i) < ky l i then dnD (swp l i (chD l n i)) n (chD l n i) else l) else l := by
 unfold dnD
 by_cases h : 2 * i + 1 < n
 ·
  rw [dif_pos h]
  obtain ⟨f, hf⟩ : ∃ f, n - i = f + 1 := ⟨n - i - 1, by omega⟩
  have := zj6 (l := l) h
  rw [hf]
  show (if 2 * i + 1 < n then (if ky l (chD l n i) < ky l i then dnF f (swp l i (chD l n i)) n (chD l n i) else l) else l) = _
  rw [if_pos h, zt5 f (n - chD l n i) _ _ _ (by omega) (Nat.le_refl _)]
 ·
  rw [dif_neg h]
  cases n - i with
  | zero => rfl
  | succ f => show (if 2 * i + 1 < n then _ else l) = l; rw [if_neg h]
theorem zdf (l : List En) (i j : Nat) : (swp l i j).length = l.length := by unfold swp; simp
theorem gti_set (l : List En) (i k : Nat) (x : En) (hi : i < l.length) : gti (l.set i x) k = if i = k then x else gti l k := by
 unfold gti
 rw [List.getElem?_set]
 split
 ·
  rename_i h; subst h; first | rfl | (rw [if_pos hi]; rfl)
 ·
  rfl
theorem zjn {l : List En} {i j : Nat} (hi : i < l.length) (hj : j < l.length) (k : Nat) : gti (swp l i j) k = if k = j then gti l i else if k = i then gti l j else gti l k := by
 unfold swp
 rw [gti_set _ _ _ _ (by simpa using hj), gti_set _ _ _ _ hi]
 by_cases h : j = k
 ·
  subst h; simp
 ·
  by_cases h2 : i = k
  ·
   subst h2; rw [if_neg h, if_pos rfl, if_neg (fun e => h e.symm)]
  ·
   rw [if_neg h, if_neg h2, if_neg (fun e => h e.symm), if_neg (fun e => h2 e.symm)]
theorem zti {l : List En} {i j : Nat} (hi : i < l.length) (hj : j < l.length) (k : Nat) : ky (swp l i j) k = if k = j then ky l i else if k = i then ky l j else ky l k := by
 unfold ky
 rw [zjn hi hj]
 split
 ·
  rfl
 ·
  split <;> rfl
def Hp (l : List En) (n : Nat) : Prop := ∀ k, 1 ≤ k → k < n → ky l ((k - 1) / 2) ≤ ky l k
structure UpI (l : List En) (n j : Nat) : Prop where
 a : ∀ k, 1 ≤ k → k < n → k ≠ j → ky l ((k - 1) / 2) ≤ ky l k
 b : ∀ k, 1 ≤ k → k < n → (k - 1) / 2 = j → 1 ≤ j → ky l ((j - 1) / 2) ≤ ky l k
theorem zyn {l : List En} {n j : Nat} (hn : n ≤ l.length) (hj : j < n) (h0 : 1 ≤ j) (h : UpI l n j) (hlt : ky l j < ky l ((j - 1) / 2)) : UpI (swp l ((j - 1) / 2) j) n ((j - 1) / 2) := by
 obtain ⟨i, hi⟩ : ∃ i, (j - 1) / 2 = i := ⟨_, rfl⟩
 rw [hi] at hlt ⊢
 have hij : i < j := by omega
 have hs := zti (l := l) (i := i) (j := j) (by omega) (by omega)
 refine ⟨fun k h1 h2 h3 => ?_, fun k h1 h2 h3 h4 => ?_⟩
 ·
  rw [hs, hs]
  by_cases hkj : k = j
  ·
   subst hkj
   rw [if_pos rfl, hi, if_neg (by omega), if_pos rfl]
   omega
  ·
   rw [if_neg hkj, if_neg h3]
   have ha := h.a k h1 h2 hkj
   by_cases hpj : (k - 1) / 2 = j
   ·
    rw [if_pos hpj]
    have := h.b k h1 h2 hpj h0
    rwa [hi] at this
   ·
    rw [if_neg hpj]
    by_cases hpi : (k - 1) / 2 = i
    ·
     rw [if_pos hpi]; rw [hpi] at ha; omega
    ·
     rw [if_neg hpi]; exact ha
 ·
  have hai := h.a i h4 (by omega) (by omega)
  rw [hs, hs, if_neg (show (i - 1) / 2 ≠ j by omega), if_neg (show (i - 1) / 2 ≠ i by omega)]
  by_cases hkj : k = j
  ·
   rw [if_pos hkj]; exact hai
  ·
   rw [if_neg hkj, if_neg (show k ≠ i by omega)]
   have ha := h.a k h1 h2 hkj
   rw [h3] at ha
   omega
theorem upD_hp {l : List En} {n : Nat} (hn : n ≤ l.length) : ∀ j, j < n → UpI l n j → Hp (upD l j) n := by
 intro j
 induction j using Nat.strongRecOn generalizing l with
 | _ j ih =>
  intro hj h
  rw [zsu]
  split
  ·
   rename_i h0
   exact fun k h1 h2 => h.a k h1 h2 (by omega)
  ·
   rename_i h0
   split
   ·
    rename_i hlt
    exact ih ((j - 1) / 2) (by omega) (by rw [zdf]; exact hn) (by omega) (zyn hn hj (by omega) h hlt)
   ·
    rename_i hlt
    intro k h1 h2
    by_cases hk : k = j
    ·
     subst hk; omega
    ·
     exact h.a k h1 h2 hk
def Mm (l : List En) (n : Nat) (e : En) : Prop := ∃ k, k < n ∧ gti l k = e
theorem z0n {l : List En} {n i j : Nat} (hn : n ≤ l.length) (hi : i < n) (hj : j < n) (e : En) : Mm (swp l i j) n e ↔ Mm l n e := by
 have hs := fun k => zjn (l := l) (i := i) (j := j) (by omega) (by omega) k
 constructor
 ·
  rintro ⟨k, h1, h2⟩
  rw [hs] at h2
  by_cases h3 : k = j
  ·
   rw [if_pos h3] at h2; exact ⟨i, hi, h2⟩
  ·
   rw [if_neg h3] at h2
   by_cases h4 : k = i
   ·
    rw [if_pos h4] at h2; exact ⟨j, hj, h2⟩
   ·
    rw [if_neg h4] at h2; exact ⟨k, h1, h2⟩
 ·
  rintro ⟨k, h1, h2⟩
  by_cases h3 : k = j
  ·
   subst h3
   by_cases h4 : i = k
   ·
    subst h4; exact ⟨i, hi, by rw [hs, if_pos rfl]; exact h2⟩
   ·
    exact ⟨i, hi, by rw [hs, if_neg h4, if_pos rfl]; exact h2⟩
  ·
   by_cases h4 : k = i
   ·
    subst h4; exact ⟨j, hj, by rw [hs, if_pos rfl]; exact h2⟩
   ·
    exact ⟨k, h1, by rw [hs, if_neg h3, if_neg h4]; exact h2⟩
theorem z1l (l : List En) (j : Nat) : (upD l j).length = l.length := by
 induction j using Nat.strongRecOn generalizing l with
 | _ j ih =>
  rw [zsu]
  split
  ·
   rfl
  ·
   split
   ·
    rw [ih _ (by omega), zdf]
   ·
    rfl
theorem upD_mm {n : Nat} (e : En) : ∀ (j : Nat) (l : List En), n ≤ l.length → j < n → (Mm (upD l j) n e ↔ Mm l n e) := by
 intro j
 induction j using Nat.strongRecOn with
 | _ j ih =>
  intro l hn hj
  rw [zsu]
  split
  ·
   exact Iff.rfl
  ·
   split
   ·
    rw [ih _ (by omega) _ (by rw [zdf]; exact hn) (by omega)]
    exact z0n hn (by omega) hj e
   ·
    exact Iff.rfl
theorem z23 (n : Nat) : ∀ (m i : Nat) (l : List En), n - i ≤ m → (dnD l n i).length = l.length := by
 intro m
 induction m with
 | zero => intro i l h; rw [zi8, dif_neg (by omega)]
 | succ m ih =>
  intro i l h
  rw [zi8]
  split
  ·
   rename_i h1
   have hc := zj6 (l := l) h1
   split
   ·
    rw [ih _ _ (by omega), zdf]
   ·
    rfl
  ·
   rfl
theorem dnD_ge {n : Nat} : ∀ (m i : Nat) (l : List En), n - i ≤ m → n ≤ l.length → ∀ k, n ≤ k → gti (dnD l n i) k = gti l k := by
 intro m
 induction m with
 | zero => intro i l h _ k _; rw [zi8, dif_neg (by omega)]
 | succ m ih =>
  intro i l h hn k hk
  rw [zi8]
  split
  ·
   rename_i h1
   have hc := zj6 (l := l) h1
   split
   ·
    rw [ih _ _ (by omega) (by rw [zdf]; exact hn) k hk, zjn (by omega) (by omega), if_neg (by omega), if_neg (by omega)]
   ·
    rfl
  ·
   rfl
theorem z08 {n : Nat} (e : En) : ∀ (m i : Nat) (l : List En), n - i ≤ m → n ≤ l.length → (Mm (dnD l n i) n e ↔ Mm l n e) := by
 intro m
 induction m with
 | zero => intro i l h _; rw [zi8, dif_neg (by omega)]
 | succ m ih =>
  intro i l h hn
  rw [zi8]
  split
  ·
   rename_i h1
   have hc := zj6 (l := l) h1
   split
   ·
    rw [ih _ _ (by omega) (by rw [zdf]; exact hn)]
    exact z0n hn (by omega) (by omega) e
   ·
    exact Iff.rfl
  ·
   exact Iff.rfl
structure DnI (l : List En) (n i : Nat) : Prop where
 a : ∀ k, 1 ≤ k → k < n → (k - 1) / 2 ≠ i → ky l ((k - 1) / 2) ≤ ky l k
 b : ∀ k, 1 ≤ k → k < n → (k - 1) / 2 = i → 1 ≤ i → ky l ((i - 1) / 2) ≤ ky l k
theorem z1d {l : List En} {n i : Nat} (h : 2 * i + 1 < n) {k : Nat} (h1 : 1 ≤ k) (h2 : k < n) (h3 : (k - 1) / 2 = i) : ky l (chD l n i) ≤ ky l k := by
 have hk : k = 2 * i + 1 ∨ k = 2 * i + 2 := by omega
 unfold chD
 split
 ·
  rename_i h4
  rcases hk with rfl | rfl
  ·
   omega
  ·
   exact Int.le_refl _
 ·
  rename_i h4
  rcases hk with rfl | rfl
  ·
   exact Int.le_refl _
  ·
   rcases Decidable.not_and_iff_not_or_not.1 h4 with h5 | h5 <;> omega
theorem zzz {l : List En} {n i : Nat} (hn : n ≤ l.length) (h1 : 2 * i + 1 < n) (h : DnI l n i) (hlt : ky l (chD l n i) < ky l i) : DnI (swp l i (chD l n i)) n (chD l n i) := by
 have hle := fun k a b c => z1d (l := l) (n := n) (i := i) h1 (k := k) a b c
 obtain ⟨c1, c2, c3⟩ := zj6 (l := l) h1
 generalize chD l n i = j at hlt hle c1 c2 c3
 have hs := zti (l := l) (i := i) (j := j) (by omega) (by omega)
 refine ⟨fun k g1 g2 g3 => ?_, fun k g1 g2 g3 g4 => ?_⟩
 ·
  rw [hs, hs, if_neg g3]
  by_cases hp : (k - 1) / 2 = i
  ·
   rw [if_pos hp]
   by_cases hk : k = j
   ·
    rw [if_pos hk]; omega
   ·
    rw [if_neg hk, if_neg (show k ≠ i by omega)]
    exact hle k g1 g2 hp
  ·
   rw [if_neg hp]
   have ha := h.a k g1 g2 hp
   by_cases hk : k = i
   ·
    rw [if_neg (show k ≠ j by omega), if_pos hk]
    subst hk
    exact h.b j (by omega) c2 c3 g1
   ·
    rw [if_neg (show k ≠ j by intro e; subst e; exact hp c3), if_neg hk]
    exact ha
 ·
  rw [hs, hs, c3, if_neg (show i ≠ j by omega), if_pos rfl, if_neg (show k ≠ j by omega), if_neg (show k ≠ i by omega)]
  have := h.a k g1 g2 (by omega)
  rwa [g3] at this
theorem dnD_hp {n : Nat} : ∀ (m i : Nat) (l : List En), n - i ≤ m → n ≤ l.length → DnI l n i → Hp (dnD l n i) n := by
 intro m
 induction m with
 | zero =>
  intro i l h hn hI
  rw [zi8]
  rw [dif_neg (by omega)]
  exact fun k h1 h2 => hI.a k h1 h2 (by omega)
 | succ m ih =>
  intro i l h hn hI
  rw [zi8]
  split
  ·
   rename_i h1
   have hc := zj6 (l := l) h1
   split
   ·
    rename_i hlt
    exact ih _ _ (by omega) (by rw [zdf]; exact hn) (zzz hn h1 hI hlt)
   ·
    rename_i hlt
    intro k g1 g2
    by_cases hp : (k - 1) / 2 = i
    ·
     have := z1d (l := l) h1 g1 g2 hp
     rw [hp]; omega
    ·
     exact hI.a k g1 g2 hp
  ·
   rename_i h1
   exact fun k g1 g2 => hI.a k g1 g2 (by omega)
def zhy (l : List En) (e : En) : List En := upD (l ++ [e]) l.length
def popD (l : List En) : List En := dnD (swp l 0 (l.length - 1)) (l.length - 1) 0
theorem zpw {l : List En} {e : En} : e ∈ l ↔ Mm l l.length e := by
 constructor
 ·
  intro h
  obtain ⟨k, hk, rfl⟩ := List.mem_iff_getElem.1 h
  exact ⟨k, hk, zed (List.getElem?_eq_getElem hk)⟩
 ·
  rintro ⟨k, hk, rfl⟩; exact gti_mem hk
theorem zhr (l : List En) (e : En) : (zhy l e).length = l.length + 1 := by unfold zhy; rw [z1l]; simp
theorem zhq {l : List En} {e x : En} : x ∈ zhy l e ↔ x ∈ l ∨ x = e := by
 have h := upD_mm (n := l.length + 1) x l.length (l ++ [e]) (by simp) (by omega)
 rw [zpw, zhr]
 unfold zhy
 rw [h, show l.length + 1 = (l ++ [e]).length by simp, ← zpw]
 simp
theorem ztp {l : List En} {e : En} {k : Nat} (h : k < l.length) : gti (l ++ [e]) k = gti l k := by unfold gti; rw [List.getElem?_append_left h]
theorem zwi {l : List En} {e : En} (h : Hp l l.length) : Hp (zhy l e) (zhy l e).length := by
 rw [zhr]
 refine upD_hp (by simp) _ (by omega) ⟨fun k h1 h2 h3 => ?_, fun k h1 h2 h3 h4 => by omega⟩
 have := h k h1 (by omega)
 unfold ky at this ⊢
 rw [ztp (by omega), ztp (by omega)]
 exact this
theorem zf1 {l : List En} : (popD l).length = l.length := by unfold popD; rw [z23 _ _ _ _ (Nat.le_refl _), zdf]
theorem z18 {l : List En} (h : 0 < l.length) : gti (popD l) (l.length - 1) = gti l 0 := by
 unfold popD
 rw [dnD_ge _ _ _ (Nat.le_refl _) (by rw [zdf]; omega) _ (Nat.le_refl _), zjn h (by omega), if_pos rfl]
theorem zkk {l : List En} {m k : Nat} (h : k < m) : gti (l.take m) k = gti l k := by unfold gti; rw [List.getElem?_take, if_pos h]
theorem zvs {l : List En} {m : Nat} (hm : m ≤ l.length) {e : En} : e ∈ l.take m ↔ Mm l m e := by
 rw [zpw, List.length_take, Nat.min_eq_left hm]
 constructor
 ·
  rintro ⟨k, h1, h2⟩; exact ⟨k, h1, by rwa [zkk h1] at h2⟩
 ·
  rintro ⟨k, h1, h2⟩; exact ⟨k, h1, by rwa [zkk h1]⟩
theorem zny {l : List En} (h : 0 < l.length) {e : En} (he : e ∈ l) : e = gti l 0 ∨ e ∈ (popD l).take (l.length - 1) := by
 rw [zvs (by rw [zf1]; omega)]
 unfold popD
 rw [z08 e _ _ _ (Nat.le_refl _) (by rw [zdf]; omega)]
 have hs := fun k => zjn (l := l) (i := 0) (j := l.length - 1) h (by omega) k
 obtain ⟨k, h1, h2⟩ := zpw.1 he
 by_cases h0 : k = 0
 ·
  subst h0; exact .inl h2.symm
 ·
  right
  by_cases h3 : k = l.length - 1
  ·
   refine ⟨0, by omega, ?_⟩
   rw [hs, if_neg (by omega), if_pos rfl, ← h3]; exact h2
  ·
   exact ⟨k, by omega, by rw [hs, if_neg h3, if_neg h0]; exact h2⟩
theorem znx {l : List En} {e : En} (he : e ∈ (popD l).take (l.length - 1)) : e ∈ l := by
 have : e ∈ popD l := List.mem_of_mem_take he
 by_cases h : l.length = 0
 ·
  have : l = [] := List.eq_nil_of_length_eq_zero h
  subst this
  simp at he
 ·
  rw [zvs (by rw [zf1]; omega)] at he
  unfold popD at he
  rw [z08 e _ _ _ (Nat.le_refl _) (by rw [zdf]; omega)] at he
  obtain ⟨k, h1, h2⟩ := he
  rw [zjn (by omega) (by omega), if_neg (by omega)] at h2
  split at h2
  ·
   rw [← h2]; exact gti_mem (by omega)
  ·
   rw [← h2]; exact gti_mem (by omega)
theorem hp_min {l : List En} {n : Nat} (h : Hp l n) : ∀ k, k < n → ky l 0 ≤ ky l k := by
 intro k
 induction k using Nat.strongRecOn with
 | _ k ih =>
  intro hk
  by_cases h0 : k = 0
  ·
   subst h0; exact Int.le_refl _
  ·
   exact Int.le_trans (ih ((k - 1) / 2) (by omega) (by omega)) (h k (by omega) hk)
theorem z1o {l : List En} (h : Hp l l.length) {e : En} (he : e ∈ l) : (gti l 0).1 ≤ e.1 := by
 obtain ⟨k, h1, h2⟩ := zpw.1 he
 rw [← h2]
 exact hp_min h k h1
theorem z2q {l : List En} {m : Nat} (h : Hp l m) (hm : m ≤ l.length) : Hp (l.take m) (l.take m).length := by
 rw [List.length_take, Nat.min_eq_left hm]
 intro k h1 h2
 unfold ky
 rw [zkk (by omega), zkk h2]
 exact h k h1 h2
theorem ztc {l : List En} (h : Hp l l.length) : Hp ((popD l).take (l.length - 1)) ((popD l).take (l.length - 1)).length := by
 refine z2q ?_ (by rw [zf1]; omega)
 by_cases h0 : l.length = 0
 ·
  intro k h1 h2; omega
 refine dnD_hp _ _ _ (Nat.le_refl _) (by rw [zdf]; omega) ⟨fun k h1 h2 h3 => ?_, fun k h1 h2 h3 h4 => by omega⟩
 rw [zti (by omega) (by omega), zti (by omega) (by omega), if_neg (by omega), if_neg (by omega), if_neg (by omega), if_neg (by omega)]
 exact h k h1 (by omega)
end Go.Proofs.YtohmldibkojkfaaGreatDoor.Dl
end
section
namespace Go.Proofs.YtohmldibkojkfaaGreatDoor.Dl
open Go.RowKit
structure Sr where
 st : List (List Int)
 co : List Int
 dn : List Bool
 fr : List Int
 mv : List Stp
def metE (S : Sr) (y : List Int) (c f : Int) (m : Stp) : Sr :=
 if zdw S.st y < 0 then ⟨S.st ++ [y], S.co ++ [c], S.dn ++ [false], S.fr ++ [f], S.mv ++ [m]⟩
 else if c < gti S.co (idx S.st y) then ⟨S.st, S.co.set (idx S.st y) c, S.dn, S.fr.set (idx S.st y) f, S.mv.set (idx S.st y) m⟩ else S
def chpE (S : Sr) (y : List Int) (c : Int) : Bool := decide (zdw S.st y < 0) || decide (c < gti S.co (idx S.st y))
inductive Wk (nx : List Int → List (List Int × Int)) (s0 : List Int) : List Int → Int → Prop
 | nil : Wk nx s0 s0 0
 | step (x : List Int) (a : Int) (e : List Int × Int) (h : Wk nx s0 x a) (he : e ∈ nx x) : Wk nx s0 e.1 (a + e.2)
def Cl (S : Sr) (k : Nat) (e : List Int × Int) : Prop := ∃ j, j < S.st.length ∧ gti S.st j = e.1 ∧ gti S.co j ≤ gti S.co k + e.2
section
variable {nx : List Int → List (List Int × Int)} {s0 : List Int} {okS : List Int → Prop}
structure DB (nx : List Int → List (List Int × Int)) (s0 : List Int) (okS : List Int → Prop) (S : Sr) (cx : Int) : Prop where
 l1 : S.co.length = S.st.length
 l2 : S.dn.length = S.st.length
 l3 : S.fr.length = S.st.length
 l4 : S.mv.length = S.st.length
 nd : S.st.Nodup
 h0 : 0 < S.st.length
 z0 : gti S.st 0 = s0
 c0 : gti S.co 0 ≤ 0
 wk : ∀ k, k < S.st.length → Wk nx s0 (gti S.st k) (gti S.co k)
 lo : ∀ k, k < S.st.length → gti S.dn k = true → gti S.co k ≤ cx
 hi : ∀ k, k < S.st.length → gti S.dn k = false → cx ≤ gti S.co k
 ok : ∀ x ∈ S.st, okS x
structure DI (nx : List Int → List (List Int × Int)) (s0 : List Int) (okS : List Int → Prop) (S : Sr) (cx : Int) : Prop extends DB nx s0 okS S cx where
 cl : ∀ k, k < S.st.length → gti S.dn k = true → ∀ e ∈ nx (gti S.st k), Cl S k e
structure DR (nx : List Int → List (List Int × Int)) (s0 : List Int) (okS : List Int → Prop) (S : Sr) (cx : Int) (x : Nat) (pr : List (List Int × Int)) : Prop extends DB nx s0 okS S cx where
 xl : x < S.st.length
 xd : gti S.dn x = true
 xc : gti S.co x = cx
 cl : ∀ k, k < S.st.length → gti S.dn k = true → k ≠ x → ∀ e ∈ nx (gti S.st k), Cl S k e
 cx' : ∀ e ∈ pr, Cl S x e
structure Dn (S : Sr) (D : List (List Int)) : Prop where
 nd : D.Nodup
 iff : ∀ v, v ∈ D ↔ ∃ k, k < S.st.length ∧ gti S.dn k = true ∧ gti S.st k = v
theorem zgu (l : List Bool) (i k : Nat) (x : Bool) (hi : i < l.length) : gti (l.set i x) k = if i = k then x else gti l k := by
 unfold gti
 rw [List.getElem?_set]
 split
 ·
  rename_i h; subst h; first | rfl | (rw [if_pos hi]; rfl)
 ·
  rfl
theorem zi0 (l : List Int) (i k : Nat) (x : Int) (hi : i < l.length) : gti (l.set i x) k = if i = k then x else gti l k := by
 unfold gti
 rw [List.getElem?_set]
 split
 ·
  rename_i h; subst h; first | rfl | (rw [if_pos hi]; rfl)
 ·
  rfl
structure Le (S T : Sr) : Prop where
 len : S.st.length ≤ T.st.length
 st : ∀ k, k < S.st.length → gti T.st k = gti S.st k
 co : ∀ k, k < S.st.length → gti T.co k ≤ gti S.co k
 dn : ∀ k, k < S.st.length → gti T.dn k = gti S.dn k
 dc : ∀ k, k < S.st.length → gti S.dn k = true → gti T.co k = gti S.co k
theorem Cl.le {S T : Sr} {k : Nat} {e : List Int × Int} (h : Cl S k e) (hl : Le S T) (hk : k < S.st.length) (hd : gti S.dn k = true) : Cl T k e := by
 obtain ⟨j, h1, h2, h3⟩ := h
 have := hl.co j h1
 exact ⟨j, by have := hl.len; omega, by rw [hl.st j h1, h2], by rw [hl.dc k hk hd]; omega⟩
theorem zw0 {S : Sr} {cx : Int} {x : Nat} {pr : List (List Int × Int)} (h : DR nx s0 okS S cx x pr) {e : List Int × Int} (he : e ∈ nx (gti S.st x)) (h0 : 0 ≤ e.2) (hok : okS e.1) (f : Int) (m : Stp) :
  DR nx s0 okS (metE S e.1 (cx + e.2) f m) cx x (pr ++ [e]) ∧ Le S (metE S e.1 (cx + e.2) f m) := by
 have hwe : Wk nx s0 e.1 (cx + e.2) := by
  have := Wk.step (gti S.st x) (gti S.co x) e (h.wk x h.xl) he
  rwa [h.xc] at this
 unfold metE
 split
 ·
  rename_i hf
  have hnm := zhh.1 hf
  have gs : ∀ k, k < S.st.length → gti (S.st ++ [e.1]) k = gti S.st k := fun k hk => zcz hk
  have gc : ∀ k, k < S.st.length → gti (S.co ++ [cx + e.2]) k = gti S.co k := fun k hk => zcz (by rw [h.l1]; exact hk)
  have gd : ∀ k, k < S.st.length → gti (S.dn ++ [false]) k = gti S.dn k := fun k hk => zcz (by rw [h.l2]; exact hk)
  have gs1 : gti (S.st ++ [e.1]) S.st.length = e.1 := ze5
  have gc1 : gti (S.co ++ [cx + e.2]) S.st.length = cx + e.2 := by rw [← h.l1]; exact ze5
  have gd1 : gti (S.dn ++ [false]) S.st.length = false := by rw [← h.l2]; exact ze5
  have hle : Le S ⟨S.st ++ [e.1], S.co ++ [cx + e.2], S.dn ++ [false], S.fr ++ [f], S.mv ++ [m]⟩ := ⟨by simp, gs, fun k hk => by show gti (S.co ++ [cx + e.2]) k ≤ _; rw [gc k hk]; exact Int.le_refl _, gd, fun k hk _ => gc k hk⟩
  have hcase : ∀ k, k < (S.st ++ [e.1]).length → k < S.st.length ∨ k = S.st.length := fun k hk => by rw [List.length_append, List.length_singleton] at hk; omega
  refine ⟨⟨⟨by simp [h.l1], by simp [h.l2], by simp [h.l3], by simp [h.l4], ?_, by simp, ?_, ?_, fun k hk => ?_, fun k hk hd => ?_, fun k hk hd => ?_, fun y hy => ?_⟩, ?_, ?_, ?_, fun k hk hd hx e' he' => ?_, fun e' he' => ?_⟩, hle⟩
  ·
   show (S.st ++ [e.1]).Nodup
   rw [List.nodup_append]
   exact ⟨h.nd, by simp, fun a ha b hb => by rintro rfl; simp at hb; subst hb; exact hnm ha⟩
  ·
   show gti (S.st ++ [e.1]) 0 = s0
   rw [gs 0 h.h0]; exact h.z0
  ·
   show gti (S.co ++ [cx + e.2]) 0 ≤ 0
   rw [gc 0 h.h0]; exact h.c0
  ·
   show Wk nx s0 (gti (S.st ++ [e.1]) k) (gti (S.co ++ [cx + e.2]) k)
   rcases hcase k hk with h1 | h1
   ·
    rw [gs k h1, gc k h1]; exact h.wk k h1
   ·
    subst h1; rw [gs1, gc1]; exact hwe
  ·
   show gti (S.co ++ [cx + e.2]) k ≤ cx
   replace hd : gti (S.dn ++ [false]) k = true := hd
   rcases hcase k hk with h1 | h1
   ·
    rw [gc k h1]; rw [gd k h1] at hd; exact h.lo k h1 hd
   ·
    subst h1; rw [gd1] at hd; cases hd
  ·
   show cx ≤ gti (S.co ++ [cx + e.2]) k
   replace hd : gti (S.dn ++ [false]) k = false := hd
   rcases hcase k hk with h1 | h1
   ·
    rw [gc k h1]; rw [gd k h1] at hd; exact h.hi k h1 hd
   ·
    subst h1; rw [gc1]; omega
  ·
   rcases List.mem_append.1 hy with hy | hy
   ·
    exact h.ok y hy
   ·
    simp at hy; subst hy; exact hok
  ·
   show x < (S.st ++ [e.1]).length
   have := h.xl; simp; omega
  ·
   show gti (S.dn ++ [false]) x = true
   rw [gd x h.xl]; exact h.xd
  ·
   show gti (S.co ++ [cx + e.2]) x = cx
   rw [gc x h.xl]; exact h.xc
  ·
   replace hd : gti (S.dn ++ [false]) k = true := hd
   replace he' : e' ∈ nx (gti (S.st ++ [e.1]) k) := he'
   rcases hcase k hk with h1 | h1
   ·
    rw [gd k h1] at hd
    rw [gs k h1] at he'
    exact (h.cl k h1 hd hx e' he').le hle h1 hd
   ·
    subst h1; rw [gd1] at hd; cases hd
  ·
   rcases List.mem_append.1 he' with h1 | h1
   ·
    exact (h.cx' e' h1).le hle h.xl h.xd
   ·
    simp at h1; subst h1
    refine ⟨S.st.length, by simp, gs1, ?_⟩
    show gti (S.co ++ [cx + e'.2]) S.st.length ≤ gti (S.co ++ [cx + e'.2]) x + e'.2
    rw [gc1, gc x h.xl, h.xc]
    exact Int.le_refl _
 ·
  rename_i hf
  obtain ⟨p1, p2, p3⟩ := zig hf
  have hst : gti S.st (idx S.st e.1) = e.1 := zed p1
  generalize idx S.st e.1 = i at p1 p2 p3 hst
  split
  ·
   rename_i hlt
   have hni : gti S.dn i = false := by
    cases hd : gti S.dn i with
    | false => rfl
    | true => have := h.lo i p2 hd; omega
   have hix : i ≠ x := fun e1 => by rw [e1, h.xd] at hni; cases hni
   have gc : ∀ k, gti (S.co.set i (cx + e.2)) k = if i = k then cx + e.2 else gti S.co k := fun k => zi0 _ _ _ _ (by rw [h.l1]; exact p2)
   have hle : Le S ⟨S.st, S.co.set i (cx + e.2), S.dn, S.fr.set i f, S.mv.set i m⟩ := ⟨Nat.le_refl _, fun _ _ => rfl, fun k hk => by
    show gti (S.co.set i (cx + e.2)) k ≤ _
    rw [gc]; split
    ·
     rename_i h1; subst h1; omega
    ·
     exact Int.le_refl _, fun _ _ => rfl, fun k hk hd => by
    show gti (S.co.set i (cx + e.2)) k = _
    rw [gc, if_neg (by rintro rfl; rw [hni] at hd; cases hd)]⟩
   refine ⟨⟨⟨by simp [h.l1], h.l2, by simp [h.l3], by simp [h.l4], h.nd, h.h0, h.z0, ?_, fun k hk => ?_, fun k hk hd => ?_, fun k hk hd => ?_, h.ok⟩, h.xl, h.xd, ?_, fun k hk hd hx e' he' => (h.cl k hk hd hx e' he').le hle hk hd, fun e' he' => ?_⟩, hle⟩
   ·
    have h1 : gti (S.co.set i (cx + e.2)) 0 ≤ gti S.co 0 := hle.co 0 h.h0
    exact Int.le_trans h1 h.c0
   ·
    show Wk nx s0 (gti S.st k) (gti (S.co.set i (cx + e.2)) k)
    rw [gc]; split
    ·
     rename_i h1; subst h1; rw [hst]; exact hwe
    ·
     exact h.wk k hk
   ·
    show gti (S.co.set i (cx + e.2)) k ≤ cx
    rw [gc, if_neg (by rintro rfl; rw [hni] at hd; cases hd)]
    exact h.lo k hk hd
   ·
    show cx ≤ gti (S.co.set i (cx + e.2)) k
    rw [gc]; split
    ·
     omega
    ·
     exact h.hi k hk hd
   ·
    show gti (S.co.set i (cx + e.2)) x = cx
    rw [gc, if_neg hix]; exact h.xc
   ·
    rcases List.mem_append.1 he' with h1 | h1
    ·
     exact (h.cx' e' h1).le hle h.xl h.xd
    ·
     simp at h1; subst h1
     refine ⟨i, p2, hst, ?_⟩
     show gti (S.co.set i (cx + e'.2)) i ≤ gti (S.co.set i (cx + e'.2)) x + e'.2
     rw [gc, if_pos rfl, gc, if_neg hix, h.xc]
     exact Int.le_refl _
  ·
   rename_i hlt
   refine ⟨{ h with cx' := fun e' he' => ?_ }, ⟨Nat.le_refl _, fun _ _ => rfl, fun _ _ => Int.le_refl _, fun _ _ => rfl, fun _ _ _ => rfl⟩⟩
   rcases List.mem_append.1 he' with h1 | h1
   ·
    exact h.cx' e' h1
   ·
    simp at h1; subst h1
    exact ⟨i, p2, hst, by rw [h.xc]; omega⟩
theorem z0z {S : Sr} {D : List (List Int)} (h : Dn S D) (hl : S.dn.length = S.st.length) (y : List Int) (c f : Int) (m : Stp) : Dn (metE S y c f m) D := by
 unfold metE
 split
 ·
  refine ⟨h.nd, fun v => ?_⟩
  rw [h.iff]
  constructor
  ·
   rintro ⟨k, h1, h2, h3⟩
   exact ⟨k, by show k < (S.st ++ [y]).length; simp; omega, by show gti (S.dn ++ [false]) k = true; rw [zcz (by omega)]; exact h2, by show gti (S.st ++ [y]) k = v; rw [zcz h1]; exact h3⟩
  ·
   rintro ⟨k, h1, h2, h3⟩
   replace h1 : k < (S.st ++ [y]).length := h1
   replace h2 : gti (S.dn ++ [false]) k = true := h2
   replace h3 : gti (S.st ++ [y]) k = v := h3
   rw [List.length_append, List.length_singleton] at h1
   by_cases hk : k < S.st.length
   ·
    rw [zcz (by omega)] at h2
    rw [zcz hk] at h3
    exact ⟨k, hk, h2, h3⟩
   ·
    have : k = S.dn.length := by omega
    rw [this, ze5] at h2
    cases h2
 ·
  split
  ·
   exact ⟨h.nd, h.iff⟩
  ·
   exact h
theorem zlj {S : Sr} {cx : Int} (h : DI nx s0 okS S cx) {x : Nat} (hx : x < S.st.length) (hd : gti S.dn x = false) (hm : ∀ k, k < S.st.length → gti S.dn k = false → gti S.co x ≤ gti S.co k) :
  DR nx s0 okS { S with dn := S.dn.set x true } (gti S.co x) x [] := by
 have gd : ∀ k, gti (S.dn.set x true) k = if x = k then true else gti S.dn k := fun k => zgu _ _ _ _ (by rw [h.l2]; exact hx)
 have hcx := h.hi x hx hd
 refine ⟨⟨h.l1, by simp [h.l2], h.l3, h.l4, h.nd, h.h0, h.z0, h.c0, h.wk, fun k hk hdk => ?_, fun k hk hdk => ?_, h.ok⟩, hx, by show gti (S.dn.set x true) x = true; rw [gd, if_pos rfl], rfl, fun k hk hdk hkx e he => ?_, fun e he => by cases he⟩
 ·
  replace hdk : gti (S.dn.set x true) k = true := hdk
  rw [gd] at hdk
  split at hdk
  ·
   rename_i h1; subst h1; exact Int.le_refl _
  ·
   have := h.lo k hk hdk; exact Int.le_trans this hcx
 ·
  replace hdk : gti (S.dn.set x true) k = false := hdk
  rw [gd] at hdk
  split at hdk
  ·
   cases hdk
  ·
   exact hm k hk hdk
 ·
  replace hdk : gti (S.dn.set x true) k = true := hdk
  rw [gd, if_neg (fun e => hkx e.symm)] at hdk
  exact h.cl k hk hdk e he
theorem zlk {S : Sr} {D : List (List Int)} (h : Dn S D) (hnd : S.st.Nodup) (hl : S.dn.length = S.st.length) {x : Nat} (hx : x < S.st.length) (hd : gti S.dn x = false) : Dn { S with dn := S.dn.set x true } (gti S.st x :: D) := by
 have gd : ∀ k, gti (S.dn.set x true) k = if x = k then true else gti S.dn k := fun k => zgu _ _ _ _ (by rw [hl]; exact hx)
 refine ⟨List.nodup_cons.2 ⟨fun hm => ?_, h.nd⟩, fun v => ?_⟩
 ·
  obtain ⟨k, h1, h2, h3⟩ := (h.iff _).1 hm
  have : k = x := by
   have e1 := zbn h1
   have e2 := zbn hx
   rw [h3] at e1
   exact (List.getElem?_inj h1 hnd).1 (e1.trans e2.symm)
  rw [this, hd] at h2; cases h2
 ·
  rw [List.mem_cons, h.iff]
  constructor
  ·
   rintro (rfl | ⟨k, h1, h2, h3⟩)
   ·
    exact ⟨x, hx, by show gti (S.dn.set x true) x = true; rw [gd, if_pos rfl], rfl⟩
   ·
    exact ⟨k, h1, by show gti (S.dn.set x true) k = true; rw [gd]; split <;> first | rfl | exact h2, h3⟩
  ·
   rintro ⟨k, h1, h2, h3⟩
   replace h2 : gti (S.dn.set x true) k = true := h2
   rw [gd] at h2
   split at h2
   ·
    rename_i h4; subst h4; exact .inl h3.symm
   ·
    exact .inr ⟨k, h1, h2, h3⟩
theorem z07 {S : Sr} {cx : Int} {x : Nat} {pr : List (List Int × Int)} (h : DR nx s0 okS S cx x pr) (hp : ∀ e ∈ nx (gti S.st x), e ∈ pr) : DI nx s0 okS S cx :=
 ⟨h.toDB, fun k hk hd e he => by
  by_cases hx : k = x
  ·
   subst hx; exact h.cx' e (hp e he)
  ·
   exact h.cl k hk hd hx e he⟩
theorem wk_low {S : Sr} {cx : Int} (h : DI nx s0 okS S cx) {v : List Int} {a : Int} (hw : Wk nx s0 v a) (hnn : ∀ x, ∀ e ∈ nx x, okS x → 0 ≤ e.2 ∧ okS e.1) (hs : okS s0) :
  okS v ∧ ((∃ j, j < S.st.length ∧ gti S.st j = v ∧ gti S.co j ≤ a) ∨ ∃ u, u < S.st.length ∧ gti S.dn u = false ∧ gti S.co u ≤ a) := by
 induction hw with
 | nil => exact ⟨hs, .inl ⟨0, h.h0, h.z0, h.c0⟩⟩
 | step x a e hw he ih =>
  obtain ⟨hok, ih⟩ := ih
  obtain ⟨he0, heok⟩ := hnn x e he hok
  refine ⟨heok, ?_⟩
  rcases ih with ⟨j, h1, h2, h3⟩ | ⟨u, h1, h2, h3⟩
  ·
   cases hd : gti S.dn j with
   | true =>
    obtain ⟨i, g1, g2, g3⟩ := h.cl j h1 hd e (by rw [h2]; exact he)
    exact .inl ⟨i, g1, g2, by omega⟩
   | false => exact .inr ⟨j, h1, hd, by omega⟩
  ·
   exact .inr ⟨u, h1, h2, by omega⟩
end
end Go.Proofs.YtohmldibkojkfaaGreatDoor.Dl
end
section
namespace Go.Proofs.YtohmldibkojkfaaGreatDoor.Dl
open Go.RowKit
section
variable {nx : List Int → List (List Int × Int)} {s0 goal : List Int} {most : Int} {okS : List Int → Prop}
structure OkS (nx : List Int → List (List Int × Int)) (s0 goal : List Int) (most k : Int) : Prop where
 wk : Wk nx s0 goal k
 le : ∀ a, Wk nx s0 goal a → k ≤ a
 few : ∃ D : List (List Int), (D.length : Int) ≤ most ∧ ∀ v a, Wk nx s0 v a → a ≤ k → v ∈ D
structure NoneS (nx : List Int → List (List Int × Int)) (s0 goal : List Int) (most : Int) : Prop where
 no : ∀ a, ¬ Wk nx s0 goal a
 few : ∃ D : List (List Int), (D.length : Int) ≤ most ∧ ∀ v a, Wk nx s0 v a → v ∈ D
def LimS (nx : List Int → List (List Int × Int)) (s0 goal : List Int) (most : Int) : Prop :=
 ∃ D : List (List Int), D.Nodup ∧ most < (D.length : Int) ∧ ∀ v ∈ D, ∃ a, Wk nx s0 v a ∧ ∀ c, Wk nx s0 goal c → a ≤ c
inductive Out (nx : List Int → List (List Int × Int)) (s0 goal : List Int) (most : Int) (eN eL : Int) : Int → Int → Prop
 | ok (k : Int) (h : OkS nx s0 goal most k) : Out nx s0 goal most eN eL k 0
 | none (h : NoneS nx s0 goal most) : Out nx s0 goal most eN eL 0 eN
 | lim (h : LimS nx s0 goal most) : Out nx s0 goal most eN eL 0 eL
def NN (nx : List Int → List (List Int × Int)) (okS : List Int → Prop) : Prop := ∀ x, ∀ e ∈ nx x, okS x → 0 ≤ e.2 ∧ okS e.1
theorem DI.low {S : Sr} {cx : Int} (h : DI nx s0 okS S cx) (hn : NN nx okS) (hs : okS s0) {v : List Int} {a : Int} (hw : Wk nx s0 v a) :
  (∃ j, j < S.st.length ∧ gti S.st j = v ∧ gti S.co j ≤ a) ∨ ∃ u, u < S.st.length ∧ gti S.dn u = false ∧ gti S.co u ≤ a :=
 (wk_low h hw hn hs).2
theorem z0v {S : Sr} {cx : Int} {D : List (List Int)} (h : DI nx s0 okS S cx) (hn : NN nx okS) (hs : okS s0) (hD : Dn S D) (hl : (D.length : Int) ≤ most) {e : Nat} (he : e < S.st.length) (hg : gti S.st e = goal) (hde : gti S.dn e = true)
  (hu : ∀ u, u < S.st.length → gti S.dn u = false → gti S.co e < gti S.co u) : OkS nx s0 goal most (gti S.co e) := by
 have hj : ∀ {v : List Int} {a : Int}, Wk nx s0 v a → a ≤ gti S.co e → ∃ j, j < S.st.length ∧ gti S.st j = v ∧ gti S.co j ≤ a := fun hw ha => by
  rcases h.low hn hs hw with h1 | ⟨u, h1, h2, h3⟩
  ·
   exact h1
  ·
   have := hu u h1 h2; omega
 refine ⟨by rw [← hg]; exact h.wk e he, fun a ha => ?_, D, hl, fun v a hw ha => ?_⟩
 ·
  by_cases hc : gti S.co e ≤ a
  ·
   exact hc
  ·
   obtain ⟨j, h1, h2, h3⟩ := hj ha (by omega)
   have : j = e := by
    have e1 := zbn h1
    have e2 := zbn he
    rw [h2] at e1; rw [hg] at e2
    exact (List.getElem?_inj h1 h.nd).1 (e1.trans e2.symm)
   subst this
   exact absurd h3 hc
 ·
  obtain ⟨j, h1, h2, h3⟩ := hj hw ha
  refine (hD.iff v).2 ⟨j, h1, ?_, h2⟩
  cases hd : gti S.dn j with
  | true => rfl
  | false => have := hu j h1 hd; omega
theorem zy5 {S : Sr} {cx : Int} {D : List (List Int)} (h : DI nx s0 okS S cx) (hn : NN nx okS) (hs : okS s0) (hD : Dn S D) (hl : (D.length : Int) ≤ most) (hu : ∀ u, u < S.st.length → gti S.dn u = true) (hg : goal ∉ S.st) : NoneS nx s0 goal most := by
 have hj : ∀ {v : List Int} {a : Int}, Wk nx s0 v a → ∃ j, j < S.st.length ∧ gti S.st j = v := fun hw => by
  rcases h.low hn hs hw with ⟨j, h1, h2, _⟩ | ⟨u, h1, h2, h3⟩
  ·
   exact ⟨j, h1, h2⟩
  ·
   rw [hu u h1] at h2; cases h2
 refine ⟨fun a hw => ?_, D, hl, fun v a hw => ?_⟩
 ·
  obtain ⟨j, h1, h2⟩ := hj hw
  exact hg (by rw [← h2]; exact gti_mem h1)
 ·
  obtain ⟨j, h1, h2⟩ := hj hw
  exact (hD.iff v).2 ⟨j, h1, hu j h1, h2⟩
theorem z2b {S : Sr} {cx : Int} {D : List (List Int)} (h : DI nx s0 okS S cx) (hn : NN nx okS) (hs : okS s0) (hD : Dn S D) (hl : most ≤ (D.length : Int)) {x : Nat} (hx : x < S.st.length) (hd : gti S.dn x = false) (hm : ∀ k, k < S.st.length → gti S.dn k = false → gti S.co x ≤ gti S.co k)
  (hf : ∀ j, j < S.st.length → gti S.dn j = true → gti S.st j = goal → gti S.co x ≤ gti S.co j) : LimS nx s0 goal most := by
 have hD2 := zlk hD h.nd h.l2 hx hd
 refine ⟨_, hD2.nd, by simp only [List.length_cons]; omega, fun v hv => ?_⟩
 have hv2 : ∃ k, k < S.st.length ∧ gti S.st k = v ∧ gti S.co k ≤ gti S.co x := by
  rcases List.mem_cons.1 hv with rfl | hv
  ·
   exact ⟨x, hx, rfl, Int.le_refl _⟩
  ·
   obtain ⟨k, h1, h2, h3⟩ := (hD.iff v).1 hv
   exact ⟨k, h1, h3, Int.le_trans (h.lo k h1 h2) (h.hi x hx hd)⟩
 obtain ⟨k, h1, h2, h3⟩ := hv2
 refine ⟨gti S.co k, by rw [← h2]; exact h.wk k h1, fun c hc => ?_⟩
 rcases h.low hn hs hc with ⟨j, g1, g2, g3⟩ | ⟨u, g1, g2, g3⟩
 ·
  cases hdj : gti S.dn j with
  | true => have := hf j g1 hdj g2; omega
  | false => have := hm j g1 hdj; omega
 ·
  have := hm u g1 g2; omega
end
end Go.Proofs.YtohmldibkojkfaaGreatDoor.Dl
end
section
namespace Go.Proofs.YtohmldibkojkfaaGreatDoor
open Go.RowKit
def RetL (w : World) (l : List Int) (e : Ending) (w' : World) : Prop :=
 ∃ A c, e = .returned (.slice A l.length c) ∧ RdI w' w.heap.size w'.heap.size (.slice A l.length c) l ∧ Below w.heap.size w w'
theorem RetL.mk {w w' : World} {l : List Int} {n k : Nat} {A : Option Addr} (hn : n = l.length) {lo hi : Nat} (hr : RdI w' lo hi (.slice A n k) l) (hlo : w.heap.size ≤ lo) (hhi : hi ≤ w'.heap.size) (hb : Below w.heap.size w w') : RetL w l (.returned (.slice A n k)) w' := by
 subst hn
 exact ⟨A, k, rfl, hr.mono hlo hhi, hb⟩
def eqLs {α : Type} [DecidableEq α] : List α → List α → Bool
 | [], [] => true
 | x :: a, y :: b => if x = y then eqLs a b else false
 | _, _ => false
theorem ztx {α : Type} [DecidableEq α] : ∀ a b : List α, eqLs a b = decide (a = b)
 | [], [] => rfl
 | [], _ :: _ => by simp [eqLs]
 | _ :: _, [] => by simp [eqLs]
 | x :: a, y :: b => by
  rw [eqLs, ztx a b]
  by_cases h : x = y <;> simp [h]
theorem zzw {α : Type} [DecidableEq α] {a b : List α} (h : a.length ≠ b.length) : decide (a = b) = false := by
 simp
 intro e
 exact h (by rw [e])
set_option maxHeartbeats 1000000 in
theorem zu4 (a b : List Int) (lo hi lo2 hi2 : Nat) (v1 v2 : Value) (w : World) (h1 : RdI w lo hi v1 a) (h2 : RdI w lo2 hi2 v2 b) :
  Calls Tryz.prog 53 #[v1, v2] w fun e w' => e = .returned (.bool (decide (a = b))) ∧ Below w.heap.size w w' := by
 obtain ⟨A1, c1, rfl, hc1, hm1⟩ := h1.form
 obtain ⟨A2, c2, rfl, hc2, hm2⟩ := h2.form
 have H1 := Lib.hid h1
 have H2 := Lib.hid h2
 clear h1 h2
 refine zas fun R hR => ?_
 have HR := Lib.hid hR
 clear hR
 go_enter Tryz.func53, Tryz.ntmps53
 by_cases hl : a.length = b.length
 ·
  have hl' : (a.length : Int) = b.length := by omega
  have HL := Lib.hid hl
  clear hl
  go_wp2_with fail
  go_loopw [13, 5] (fun v13 _ wr => ∃ (k q : Nat), k ≤ a.length ∧ v13 = .int .i64 k ∧ wr = w.drewN q ∧ Hid (decide (a = b) = eqLs (a.drop k) (b.drop k))) (fun v13 _ _ => a.length - (intOf v13).toNat)
  case atStart => exact ⟨0, 0, by omega, rfl, rfl, Lib.hid (by rw [← ztx]; rfl)⟩
  case round =>
   obtain ⟨k, q, hk, rfl, rfl, HI⟩ := hrel
   by_cases hlt : k < a.length
   ·
    have hkd : decide ((k : Int) < (a.length : Int)) = true := by simp; omega
    have hkb : (k : Int) < (a.length : Int) := by omega
    have hkc : (k : Int) < (b.length : Int) := by omega
    obtain ⟨b1, o1, rfl, _, _, f1⟩ := RdI.at1 H1.out hlt
    obtain ⟨b2, o2, rfl, _, _, f2⟩ := RdI.at1 H2.out (k := k) (by have := HL.out; omega)
    have HJ : Hid (decide (a = b) = if gti a k = gti b k then eqLs (a.drop (k + 1)) (b.drop (k + 1)) else false) := Lib.hid (by rw [HI.out, zco hlt, zco (l := b) (k := k) (by have := HL.out; omega), eqLs])
    generalize gti a k = x at *
    generalize gti b k = y at *
    go_wp2
    go_quiet (fail)
    go_wp2
    all_goals have hj := HJ.out
    ·
     refine HR.out _ _ ⟨zcj ?_, below_drewN (below_drewN (Below.refl _ _) _) _⟩
     clear HJ HI; go_light; grind
    all_goals first
     | (refine ⟨⟨k + 1, q + nq, by omega, by go_num, by first | rfl | rw [World.drewN_drewN], Lib.hid (by clear HJ HI; go_light; grind)⟩, by simp [intOf]; omega⟩)
   ·
    have hkd : decide ((k : Int) < (a.length : Int)) = false := by simp; omega
    have HE : Hid (decide (a = b) = true) := Lib.hid (by rw [HI.out, List.drop_eq_nil_of_le (by omega), List.drop_eq_nil_of_le (by have := HL.out; omega)]; rfl)
    clear HI
    go_wp2
    exact HR.out _ _ ⟨zcj HE.out.symm, below_drewN (Below.refl _ _) _⟩
 ·
  have hl' : ¬ (a.length : Int) = b.length := by omega
  have HL := Lib.hid hl
  clear hl
  go_wp2_with fail
  exact HR.out _ _ ⟨zcj (zzw HL.out).symm, Below.refl _ _⟩
end Go.Proofs.YtohmldibkojkfaaGreatDoor
end
section
namespace Go.Proofs.YtohmldibkojkfaaGreatDoor
open Go.RowKit
theorem zph {t e size bytes : Nat} {z : Value} (ti : TI t e size bytes z) (w : World) (A : Option Addr) (n c k : Nat) (hk : k ≤ n) :
  (Instr.slice t (.slice A n c) (some (.int .i64 (k : Int))) none none).run Tryz.prog w = .ok (.slice (if c = k then A else A.map (·.add (k * size))) (n - k) (c - k)) w := by
 obtain ⟨i, ht, hi0, hz, hsize, hby, hzs, hsz⟩ := ti
 simp [Instr.slice, run_underlying ht, Instr.sliceBounds, Instr.sliceBound, asIntOf, sizeOf, typeInfo, hi0, hsize, hk]
theorem Rd.dropped {α : Type} {size : Nat} {enc : α → List Value} {w : World} {lo hi : Nat} {A : Option Addr} {c : Nat} {l : List α} (h : Rd size enc w lo hi (.slice A l.length c) l) (he : ∀ a, (enc a).length = size) (k : Nat) (hk : k ≤ l.length) (hc : l.length ≤ c) :
  Rd size enc w lo hi (.slice (if c = k then A else A.map (·.add (k * size))) (l.drop k).length (c - k)) (l.drop k) := by
 have hlen := h.form
 obtain ⟨A', c', e, _, h63⟩ := hlen
 refine ⟨zcw he _, _, _, rfl, by simp; omega, by simp [maxLen]; omega, fun hn => ?_⟩
 obtain ⟨b, off, rfl, h1, h2, hcell⟩ := RdC.cells h (by simp at hn; omega)
 have hck : ¬ c = k := by simp at hn; omega
 refine ⟨b, off + k * size, by rw [if_neg hck]; simp [zsl], h1, h2, fun j u hu => ?_⟩
 have := hcell (k * size + j) u (by
  have hsplit : l.flatMap enc = (l.take k).flatMap enc ++ (l.drop k).flatMap enc := by rw [← List.flatMap_append, List.take_append_drop]
  have hlt : (l.take k).length = k := by simp; omega
  rw [hsplit, List.getElem?_append_right (by rw [zcw he, hlt]; omega), zcw he, hlt]
  simpa using hu)
 rw [Nat.add_assoc]
 exact this
theorem RdI.tail1 {w : World} {lo hi : Nat} {A : Option Addr} {c : Nat} {l : List Int} (h : RdI w lo hi (.slice A l.length c) l) (hl : 1 ≤ l.length) (hc : l.length ≤ c) :
  ∃ A' c', (∀ W : World, (Instr.slice 48 (.slice A l.length c) (some (.int .i64 1)) none none).run Tryz.prog W = .ok (.slice A' (l.drop 1).length c') W) ∧ RdI w lo hi (.slice A' (l.drop 1).length c') (l.drop 1) := by
 refine ⟨_, _, fun W => ?_, Rd.dropped h (fun _ => rfl) 1 hl hc⟩
 have := zph zh3 W A l.length c 1 hl
 rw [List.length_drop]
 exact this
theorem toList_inj {x a : ByteArray} : x.toList = a.toList ↔ x = a := by
 rw [ByteArray.toList_eq, ByteArray.toList_eq]
 constructor
 ·
  intro h
  exact ByteArray.ext (Array.toList_inj.1 h)
 ·
  intro h; rw [h]
theorem zmt (x a : ByteArray) : (x.toList == a.toList) = decide (x = a) := by
 rw [Bool.eq_iff_iff]; simp [toList_inj]
theorem zms (x a : ByteArray) : decide (x.toList = a.toList) = decide (x = a) := by simp [toList_inj]
def atB (w : List ByteArray) (k : Int) (a : ByteArray) : Bool := decide (k < w.length) && decide (gti w k.toNat = a)
set_option maxHeartbeats 400000 in
theorem zyd (l : List ByteArray) (k : Int) (a : ByteArray) (lo hi : Nat) (v : Value) (w : World) (hv : RdS w lo hi v l) (hk : 0 ≤ k) :
  Calls Tryz.prog 124 #[v, .int .i64 k, .string a] w fun e w' => e = .returned (.bool (atB l k a)) ∧ Below w.heap.size w w' := by
 obtain ⟨A, c, rfl, hc, hm⟩ := hv.form
 obtain ⟨j, rfl⟩ : ∃ j : Nat, k = j := ⟨k.toNat, by omega⟩
 by_cases hlt : j < l.length
 ·
  obtain ⟨b, off, rfl, _, _, hcell⟩ := RdS.at1 hv hlt
  have HV := Lib.hid hv
  clear hv hk
  have hlt' : (j : Int) < l.length := by omega
  have HE : Hid (atB l j a = decide (gti l j = a)) := Lib.hid (by simp [atB, hlt])
  generalize gti l j = x at *
  refine zas fun R hR => ?_
  have HR := Lib.hid hR
  clear hR
  go_enter Tryz.func124, Tryz.ntmps124
  go_wp2_with fail
  all_goals (refine HR.out _ _ ⟨zcj ?_, Below.refl _ _⟩ <;> (first | exact HE.out.symm | (rw [HE.out]; go_light; first | rfl | exact zmt _ _ | exact zms _ _ | grind [toList_inj])))
 ·
  have hlt' : ¬ (j : Int) < l.length := by omega
  have HE : Hid (atB l j a = false) := Lib.hid (by simp [atB, hlt])
  clear hv hk
  refine zas fun R hR => ?_
  have HR := Lib.hid hR
  clear hR
  go_enter Tryz.func124, Tryz.ntmps124
  go_wp2_with fail
  all_goals (refine HR.out _ _ ⟨zcj ?_, Below.refl _ _⟩ <;> (first | exact HE.out.symm | (rw [HE.out]; go_light; first | rfl | exact zmt _ _ | exact zms _ _ | grind [toList_inj])))
def allN : List ByteArray → Bool
 | [] => true
 | a :: l => if zem a then allN l else false
theorem zov : ∀ l, allN l = l.all zem
 | [] => rfl
 | a :: l => by rw [allN, zov l, List.all_cons]; cases zem a <;> rfl
theorem zgb {l : List ByteArray} {b : Bool} (hb : ze9 l = b) (lo hi : Nat) (v : Value) (w : World) (hv : RdS w lo hi v l) :
  Calls Tryz.prog 120 #[v] w fun e w' => e = .returned (.bool b) ∧ Below w.heap.size w w' := hb ▸ znh l lo hi v w hv
def zc0 (n : Net) (w : List ByteArray) : List Int × Int := if zca n && ze9 w then (0 :: oneL n.places.toNat n.source, 0) else ([], 1)
def endE (n : Net) (w : List ByteArray) : List Int × Int := if zca n && ze9 w then (w.length :: oneL n.places.toNat n.sink, 0) else ([], 1)
theorem ziw (k : Nat) (p : Int) : (oneL k p).length = k := by simp [oneL]
theorem zpt {n : Net} (h : zca n = true) (p : Int) : oneE n p = (oneL n.places.toNat p, 0) := by rw [oneE, h]; rfl
theorem zm8 {n : Net} (h : zca n = false) (p : Int) : oneE n p = ([], 1) := by rw [oneE, h]; rfl
theorem RetI.of {w : World} {r r' : List Int × Int} {e : Ending} {w' : World} (h : RetI w r e w') (hr : r = r') : RetI w r' e w' := hr ▸ h
set_option maxHeartbeats 1000000 in
theorem zyh (n : Net) (l : List ByteArray) (vt v : Value) (lo hi lo' hi' : Nat) (w : World) (hv : RdT w lo hi vt n.trans) (hw : RdS w lo' hi' v l) :
  Calls Tryz.prog 90 #[netV n vt, v] w (RetI w (zc0 n l)) := by
 obtain ⟨A, c, rfl, hc, hmm⟩ := hv.form
 obtain ⟨A2, c2, rfl, hc2, hmm2⟩ := hw.form
 have HV := Lib.hid hv
 have HW := Lib.hid hw
 clear hv hw
 cases hvb : zca n with
 | false =>
  have HVB := Lib.hid hvb
  have HO := Lib.hid (zm8 hvb n.source)
  clear hvb
  refine zas fun R hR => ?_
  have HR := Lib.hid hR
  clear hR
  go_enter Tryz.func90, Tryz.ntmps90
  have M : Hid (Mem [Loc.k4 w.heap.size (.int .i64 n.places) (.slice A n.trans.length c) (.int .i64 n.source) (.int .i64 n.sink), Loc.bl w.heap.size w] (w.alloc (.cells #[.int .i64 n.places, .slice A n.trans.length c, .int .i64 n.source, .int .i64 n.sink] 24))) := Lib.hid ⟨K4.new w _ _ _ _ _, ⟨(Below.refl _ _).alloc (Nat.le_refl _) _, by simp⟩, True.intro⟩
  have hk4 := M.out.1
  go_wp2_with (first
   | (go_at_call 50; refine (zgs n _ lo hi _ (HV.out.after M.out.2.1.1)).mono ?_; rintro e w1 hret; replace hret := hret.of HO.out; obtain ⟨A1, c1, rfl, hr1, hb1⟩ := hret; replace M := Lib.hid (M.out.below hb1); replace hk4 := M.out.1; clear hb1 hr1))
  exact HR.out _ _ (RetI.nil (by rw [zc0, HVB.out]; rfl) M.out.2.1.1)
 | true =>
  have HVB := Lib.hid hvb
  have HO := Lib.hid (zpt hvb n.source)
  have hpl := zbo hvb
  have HPL := Lib.hid hpl
  clear hvb hpl
  cases hwb : ze9 l with
  | false =>
   have HWB := Lib.hid hwb
   clear hwb
   refine zas fun R hR => ?_
   have HR := Lib.hid hR
   clear hR
   go_enter Tryz.func90, Tryz.ntmps90
   have M : Hid (Mem [Loc.k4 w.heap.size (.int .i64 n.places) (.slice A n.trans.length c) (.int .i64 n.source) (.int .i64 n.sink), Loc.bl w.heap.size w] (w.alloc (.cells #[.int .i64 n.places, .slice A n.trans.length c, .int .i64 n.source, .int .i64 n.sink] 24))) := Lib.hid ⟨K4.new w _ _ _ _ _, ⟨(Below.refl _ _).alloc (Nat.le_refl _) _, by simp⟩, True.intro⟩
   have hk4 := M.out.1
   go_wp2_with (first
    | (go_at_call 50; refine (zgs n _ lo hi _ (HV.out.after M.out.2.1.1)).mono ?_; rintro e w1 hret; replace hret := hret.of HO.out; obtain ⟨A1, c1, rfl, hr1, hb1⟩ := hret; replace M := Lib.hid (M.out.below hb1); replace hk4 := M.out.1; clear hb1 hr1)
    | (go_at_call 120; refine (zgb HWB.out lo' hi' _ _ (HW.out.after M.out.2.1.1)).mono ?_; rintro e w1 ⟨rfl, hb1⟩; replace M := Lib.hid (M.out.below hb1); clear hb1; skip))
   exact HR.out _ _ (RetI.nil (by rw [zc0, HVB.out, HWB.out]; rfl) M.out.2.1.1)
  | true =>
   have HWB := Lib.hid hwb
   clear hwb
   refine zas fun R hR => ?_
   have HR := Lib.hid hR
   clear hR
   go_enter Tryz.func90, Tryz.ntmps90
   have M : Hid (Mem [Loc.k4 w.heap.size (.int .i64 n.places) (.slice A n.trans.length c) (.int .i64 n.source) (.int .i64 n.sink), Loc.bl w.heap.size w] (w.alloc (.cells #[.int .i64 n.places, .slice A n.trans.length c, .int .i64 n.source, .int .i64 n.sink] 24))) := Lib.hid ⟨K4.new w _ _ _ _ _, ⟨(Below.refl _ _).alloc (Nat.le_refl _) _, by simp⟩, True.intro⟩
   have hk4 := M.out.1
   go_wp2_with (first
    | (go_at_call 50; refine (zgs n _ lo hi _ (HV.out.after M.out.2.1.1)).mono ?_; rintro e w1 hret; replace hret := hret.of HO.out; obtain ⟨A1, c1, rfl, hr1, hb1⟩ := hret; have HR1 := Lib.hid hr1; have hz1 := M.out.2.1.2; replace M := Lib.hid (Mem.cons (a := Loc.rdI _ _ _ _) hr1 (M.out.below hb1)); replace hk4 := M.out.2.1; clear hb1 hr1)
    | (go_at_call 120; refine (zgb HWB.out lo' hi' _ _ (HW.out.after M.out.2.2.1.1)).mono ?_; rintro e w1 ⟨rfl, hb1⟩; replace M := Lib.hid (M.out.below hb1); clear hb1; have hz2 := M.out.2.2.1.2)
    | (at_builtin; refine zd1 rfl _ _ rfl zh3 (fun _ => rfl) oneI rfl rfl (Mem.lit1 M.out.2.2 0) (by (repeat' (first | exact True.intro | refine And.intro (fun k hk e => ?_) ?_)) <;> (first | exact e | ((try dsimp only [Loc.c1, Loc.c2, Loc.k1, Loc.k2, Loc.k3, Loc.k4, Loc.k6, Loc.fr, Loc.bl, Loc.own, Loc.sz, Loc.rd, Loc.rdI, Loc.rdS, Loc.rdM, Loc.rdT, Loc.ow, Loc.owI] at hk e) <;> omega))) (M.out.1.after ((Below.refl _ _).alloc (Nat.le_refl _) _)) (by have := HPL.out; simp [ziw]; omega) (by have := HPL.out; simp [ziw]; omega) (by simp) ?_; intro A1 c1 w9 hM1 hs1 hch1; replace M := Lib.hid hM1; clear hM1 hch1))
   exact HR.out _ _ (RetI.mk (l := 0 :: oneL n.places.toNat n.source) (by rw [zc0, HVB.out, HWB.out]; rfl) (by simp; omega) M.out.1.rd hz2 (Nat.le_refl _) M.out.2.1.1)
set_option maxHeartbeats 1000000 in
theorem z3o (n : Net) (l : List ByteArray) (vt v : Value) (lo hi lo' hi' : Nat) (w : World) (hv : RdT w lo hi vt n.trans) (hw : RdS w lo' hi' v l) :
  Calls Tryz.prog 91 #[netV n vt, v] w (RetI w (endE n l)) := by
 obtain ⟨A, c, rfl, hc, hmm⟩ := hv.form
 obtain ⟨A2, c2, rfl, hc2, hmm2⟩ := hw.form
 have HV := Lib.hid hv
 have HW := Lib.hid hw
 clear hv hw
 cases hvb : zca n with
 | false =>
  have HVB := Lib.hid hvb
  have HO := Lib.hid (zm8 hvb n.sink)
  clear hvb
  refine zas fun R hR => ?_
  have HR := Lib.hid hR
  clear hR
  go_enter Tryz.func91, Tryz.ntmps91
  have M : Hid (Mem [Loc.k4 w.heap.size (.int .i64 n.places) (.slice A n.trans.length c) (.int .i64 n.source) (.int .i64 n.sink), Loc.bl w.heap.size w] (w.alloc (.cells #[.int .i64 n.places, .slice A n.trans.length c, .int .i64 n.source, .int .i64 n.sink] 24))) := Lib.hid ⟨K4.new w _ _ _ _ _, ⟨(Below.refl _ _).alloc (Nat.le_refl _) _, by simp⟩, True.intro⟩
  have hk4 := M.out.1
  go_wp2_with (first
   | (go_at_call 51; refine (zi2 n _ lo hi _ (HV.out.after M.out.2.1.1)).mono ?_; rintro e w1 hret; replace hret := hret.of HO.out; obtain ⟨A1, c1, rfl, hr1, hb1⟩ := hret; replace M := Lib.hid (M.out.below hb1); replace hk4 := M.out.1; clear hb1 hr1))
  exact HR.out _ _ (RetI.nil (by rw [endE, HVB.out]; rfl) M.out.2.1.1)
 | true =>
  have HVB := Lib.hid hvb
  have HO := Lib.hid (zpt hvb n.sink)
  have hpl := zbo hvb
  have HPL := Lib.hid hpl
  clear hvb hpl
  cases hwb : ze9 l with
  | false =>
   have HWB := Lib.hid hwb
   clear hwb
   refine zas fun R hR => ?_
   have HR := Lib.hid hR
   clear hR
   go_enter Tryz.func91, Tryz.ntmps91
   have M : Hid (Mem [Loc.k4 w.heap.size (.int .i64 n.places) (.slice A n.trans.length c) (.int .i64 n.source) (.int .i64 n.sink), Loc.bl w.heap.size w] (w.alloc (.cells #[.int .i64 n.places, .slice A n.trans.length c, .int .i64 n.source, .int .i64 n.sink] 24))) := Lib.hid ⟨K4.new w _ _ _ _ _, ⟨(Below.refl _ _).alloc (Nat.le_refl _) _, by simp⟩, True.intro⟩
   have hk4 := M.out.1
   go_wp2_with (first
    | (go_at_call 51; refine (zi2 n _ lo hi _ (HV.out.after M.out.2.1.1)).mono ?_; rintro e w1 hret; replace hret := hret.of HO.out; obtain ⟨A1, c1, rfl, hr1, hb1⟩ := hret; replace M := Lib.hid (M.out.below hb1); replace hk4 := M.out.1; clear hb1 hr1)
    | (go_at_call 120; refine (zgb HWB.out lo' hi' _ _ (HW.out.after M.out.2.1.1)).mono ?_; rintro e w1 ⟨rfl, hb1⟩; replace M := Lib.hid (M.out.below hb1); clear hb1; skip))
   exact HR.out _ _ (RetI.nil (by rw [endE, HVB.out, HWB.out]; rfl) M.out.2.1.1)
  | true =>
   have HWB := Lib.hid hwb
   clear hwb
   refine zas fun R hR => ?_
   have HR := Lib.hid hR
   clear hR
   go_enter Tryz.func91, Tryz.ntmps91
   have M : Hid (Mem [Loc.k4 w.heap.size (.int .i64 n.places) (.slice A n.trans.length c) (.int .i64 n.source) (.int .i64 n.sink), Loc.bl w.heap.size w] (w.alloc (.cells #[.int .i64 n.places, .slice A n.trans.length c, .int .i64 n.source, .int .i64 n.sink] 24))) := Lib.hid ⟨K4.new w _ _ _ _ _, ⟨(Below.refl _ _).alloc (Nat.le_refl _) _, by simp⟩, True.intro⟩
   have hk4 := M.out.1
   go_wp2_with (first
    | (go_at_call 51; refine (zi2 n _ lo hi _ (HV.out.after M.out.2.1.1)).mono ?_; rintro e w1 hret; replace hret := hret.of HO.out; obtain ⟨A1, c1, rfl, hr1, hb1⟩ := hret; have HR1 := Lib.hid hr1; have hz1 := M.out.2.1.2; replace M := Lib.hid (Mem.cons (a := Loc.rdI _ _ _ _) hr1 (M.out.below hb1)); replace hk4 := M.out.2.1; clear hb1 hr1)
    | (go_at_call 120; refine (zgb HWB.out lo' hi' _ _ (HW.out.after M.out.2.2.1.1)).mono ?_; rintro e w1 ⟨rfl, hb1⟩; replace M := Lib.hid (M.out.below hb1); clear hb1; have hz2 := M.out.2.2.1.2)
    | (at_builtin; refine zd1 rfl _ _ rfl zh3 (fun _ => rfl) oneI rfl rfl (Mem.lit1 M.out.2.2 (l.length : Int)) (by (repeat' (first | exact True.intro | refine And.intro (fun k hk e => ?_) ?_)) <;> (first | exact e | ((try dsimp only [Loc.c1, Loc.c2, Loc.k1, Loc.k2, Loc.k3, Loc.k4, Loc.k6, Loc.fr, Loc.bl, Loc.own, Loc.sz, Loc.rd, Loc.rdI, Loc.rdS, Loc.rdM, Loc.rdT, Loc.ow, Loc.owI] at hk e) <;> omega))) (M.out.1.after ((Below.refl _ _).alloc (Nat.le_refl _) _)) (by have := HPL.out; simp [ziw]; omega) (by have := HPL.out; simp [ziw]; omega) (by simp) ?_; intro A1 c1 w9 hM1 hs1 hch1; replace M := Lib.hid hM1; clear hM1 hch1))
   exact HR.out _ _ (RetI.mk (l := (l.length : Int) :: oneL n.places.toNat n.sink) (by rw [endE, HVB.out, HWB.out]; rfl) (by simp; omega) M.out.1.rd hz2 (Nat.le_refl _) M.out.2.1.1)
end Go.Proofs.YtohmldibkojkfaaGreatDoor
end
section
namespace Go.Proofs.YtohmldibkojkfaaGreatDoor
open Go.RowKit
theorem C1.aft {w W : World} {b o : Nat} {x : Value} (hb : Below w.heap.size w W) (h : C1 w b o x) : C1 W b o x := (hb.cell (p := ⟨b, o, none⟩) (World.block_lt_of_cell? _ _ h)).trans h
def zdu (n : Net) (w : List ByteArray) (s : List Int) : Bool := ze9 w && decide (1 ≤ s.length) && decide (0 ≤ gti s 0) && decide (gti s 0 ≤ w.length) && zc9 n (s.drop 1)
theorem zdj {n : Net} {w : List ByteArray} {s : List Int} : zdu n w s = true ↔ ze9 w = true ∧ 1 ≤ s.length ∧ 0 ≤ gti s 0 ∧ gti s 0 ≤ w.length ∧ zc9 n (s.drop 1) = true := by
 simp [zdu, and_assoc]
theorem zog (n : Net) (m : List Int) : (zi5 n m).2 = if zc9 n m then 0 else 1 := by
 unfold zi5; split <;> rfl
set_option maxRecDepth 100000 in
set_option maxHeartbeats 2000000 in
theorem zru (n : Net) (l : List ByteArray) (s : List Int) (vt v vs : Value) (lo hi lo' hi' lo2 hi2 : Nat) (w : World) (hv : RdT w lo hi vt n.trans) (hw : RdS w lo' hi' v l) (hs : RdI w lo2 hi2 vs s) :
  Calls Tryz.prog 123 #[netV n vt, v, vs] w fun e w' => e = .returned (.bool (zdu n l s)) ∧ Below w.heap.size w w' := by
 obtain ⟨A, c, rfl, hc, hmm⟩ := hv.form
 obtain ⟨A2, c2, rfl, hc2, hmm2⟩ := hw.form
 obtain ⟨A3, c3, rfl, hc3, hmm3⟩ := hs.form
 have HV := Lib.hid hv
 have HW := Lib.hid hw
 have HS := Lib.hid hs
 clear hv hw
 by_cases h1 : 1 ≤ s.length
 ·
  obtain ⟨b, off, rfl, _, _, hcell⟩ := RdI.at1 hs (k := 0) (by omega)
  obtain ⟨At, ct, hsl, ht⟩ := RdI.tail1 hs h1 hc3
  obtain ⟨tl, htl⟩ : ∃ tl, s.drop 1 = tl := ⟨_, rfl⟩
  rw [htl] at hsl ht
  have HTL := Lib.hid htl
  clear htl
  have HT := Lib.hid ht
  have hne : ((s.length : Int) == 0) = false := by rw [beq_eq_false_iff_ne]; omega
  clear hs ht
  simp only [Nat.add_zero] at hcell
  have HC := Lib.hid hcell
  clear hcell
  cases hwb : ze9 l
  ·
   have HE : Hid (zdu n l s = false) := Lib.hid (by simp [zdu, hwb])
   have HWB := Lib.hid hwb
   clear hwb
   refine zas fun R hR => ?_
   have HR := Lib.hid hR
   clear hR
   go_enter Tryz.func123, Tryz.ntmps123
   have M : Hid (Mem [Loc.k4 w.heap.size (.int .i64 n.places) (.slice A n.trans.length c) (.int .i64 n.source) (.int .i64 n.sink), Loc.bl w.heap.size w] (w.alloc (.cells #[.int .i64 n.places, .slice A n.trans.length c, .int .i64 n.source, .int .i64 n.sink] 24))) := Lib.hid ⟨K4.new w _ _ _ _ _, ⟨(Below.refl _ _).alloc (Nat.le_refl _) _, by simp⟩, True.intro⟩
   have hk4 := M.out.1
   go_wp2_with (go_at_call 120; refine (zgb HWB.out lo' hi' _ _ (HW.out.after M.out.2.1.1)).mono ?_; rintro e w1 ⟨rfl, hb1⟩; replace M := Lib.hid (M.out.below hb1); clear hb1; skip)
   exact HR.out _ _ ⟨zcj HE.out.symm, M.out.2.1.1⟩
  ·
   have HWB := Lib.hid hwb
   have HE : Hid (zdu n l s = (decide (0 ≤ gti s 0) && decide (gti s 0 ≤ l.length) && zc9 n tl)) := Lib.hid (by rw [← HTL.out]; simp [zdu, hwb, h1])
   clear hwb
   generalize gti s 0 = p at *
   refine zas fun R hR => ?_
   have HR := Lib.hid hR
   clear hR
   go_enter Tryz.func123, Tryz.ntmps123
   have M : Hid (Mem [Loc.k4 w.heap.size (.int .i64 n.places) (.slice A n.trans.length c) (.int .i64 n.source) (.int .i64 n.sink), Loc.bl w.heap.size w] (w.alloc (.cells #[.int .i64 n.places, .slice A n.trans.length c, .int .i64 n.source, .int .i64 n.sink] 24))) := Lib.hid ⟨K4.new w _ _ _ _ _, ⟨(Below.refl _ _).alloc (Nat.le_refl _) _, by simp⟩, True.intro⟩
   have hk4 := M.out.1
   have hcell := C1.aft M.out.2.1.1 HC.out
   go_wp2_with (go_at_call 120; refine (zgb HWB.out lo' hi' _ _ (HW.out.after M.out.2.1.1)).mono ?_; rintro e w1 ⟨rfl, hb1⟩; replace M := Lib.hid (M.out.below hb1); clear hb1; replace hk4 := M.out.1; replace hcell := C1.aft M.out.2.1.1 HC.out)
   all_goals (try (first | (refine HR.out _ _ ⟨zcj ?_, M.out.2.1.1⟩; rw [HE.out]; clear HE; go_light; grind)))
   cases hmb : zc9 n tl
   all_goals
    have HMB := Lib.hid hmb
    have HCD := Lib.hid (zog n tl)
    rw [hmb] at HCD
    simp only [if_true, Bool.false_eq_true, if_false] at HCD
    clear hmb
    go_region_held3 (fun W => K4 W w.heap.size (.int .i64 n.places) (.slice A n.trans.length c) (.int .i64 n.source) (.int .i64 n.sink)) (exact hk4) (first | (go_at_call 149; refine (zsp n tl _ _ lo hi lo2 hi2 _ (HV.out.after (by first | exact M.out.2.1.1 | exact M.out.drew.2.1.1)) (HT.out.after (by first | exact M.out.2.1.1 | exact M.out.drew.2.1.1))).mono ?_; rintro e w6 ⟨A6, c6, rfl, hr6, hb6⟩; rw [HCD.out]; replace M := Lib.hid (Mem.below (by first | exact M.out | exact M.out.drew) hb6); replace hk4 := M.out.1; clear hb6 hr6))
    all_goals
     go_wp2_with fail
     refine HR.out _ _ ⟨zcj ?_, M.out.2.1.1⟩
     rw [HE.out, HMB.out]
     clear HE
     go_light
     grind
 ·
  have h0 : s = [] := List.eq_nil_of_length_eq_zero (by omega)
  subst h0
  have HE : Hid (zdu n l [] = false) := Lib.hid (by simp [zdu])
  clear hs
  refine zas fun R hR => ?_
  have HR := Lib.hid hR
  clear hR
  go_enter Tryz.func123, Tryz.ntmps123
  have M : Hid (Mem [Loc.k4 w.heap.size (.int .i64 n.places) (.slice A n.trans.length c) (.int .i64 n.source) (.int .i64 n.sink), Loc.bl w.heap.size w] (w.alloc (.cells #[.int .i64 n.places, .slice A n.trans.length c, .int .i64 n.source, .int .i64 n.sink] 24))) := Lib.hid ⟨K4.new w _ _ _ _ _, ⟨(Below.refl _ _).alloc (Nat.le_refl _) _, by simp⟩, True.intro⟩
  have hk4 := M.out.1
  go_wp2_with (go_at_call 120; refine (znh l lo' hi' _ _ (HW.out.after M.out.2.1.1)).mono ?_; rintro e w1 ⟨rfl, hb1⟩; replace M := Lib.hid (M.out.below hb1); clear hb1; skip)
  all_goals exact HR.out _ _ ⟨zcj HE.out.symm, M.out.2.1.1⟩
end Go.Proofs.YtohmldibkojkfaaGreatDoor
end
section
namespace Go.Proofs.YtohmldibkojkfaaGreatDoor
open Go.RowKit
def zeh (n : Net) (w : List ByteArray) (s : List Int) (m : Stp) : List Int × Int :=
 if m.kind = 2 then
  if m.trans ≠ -1 then ([], 2) else if zem m.act = false then ([], 8) else if atB w (gti s 0) m.act = false then ([], 10) else ((gti s 0 + 1) :: s.drop 1, 0)
 else if m.trans < 0 ∨ (n.trans.length : Int) ≤ m.trans then ([], 2)
 else if m.act ≠ (gti n.trans m.trans.toNat).label ∨ (gti n.trans m.trans.toNat).label.toList.isEmpty ≠ decide (m.kind = 4) then ([], 8)
 else if m.kind = 1 ∧ atB w (gti s 0) m.act = false then ([], 10)
 else if (zci n (s.drop 1) m.trans).2 ≠ 0 then ([], (zci n (s.drop 1) m.trans).2)
 else ((if m.kind = 1 then gti s 0 + 1 else gti s 0) :: (zci n (s.drop 1) m.trans).1, 0)
abbrev stpV (m : Stp) : Value := .agg #[.int .i64 m.kind, .int .i64 m.trans, .string m.act]
theorem zxq {n : Net} {m : List Int} {t : Int} : (zci n m t).1.length ≤ m.length := by
 unfold zci zjo
 split
 ·
  split
  ·
   simp
  ·
   split
   ·
    split
    ·
     simp
    ·
     simp [zoa, zok]
   ·
    simp
 ·
  simp
set_option maxRecDepth 100000 in
set_option maxHeartbeats 4000000 in
theorem zyf (n : Net) (l : List ByteArray) (s : List Int) (m : Stp) (vt v vs : Value) (lo hi lo' hi' lo2 hi2 : Nat) (w : World) (hv : RdT w lo hi vt n.trans) (hw : RdS w lo' hi' v l) (hs : RdI w lo2 hi2 vs s)
  (h1 : 1 ≤ s.length) (h2 : s.length ≤ 1000) (h3 : 0 ≤ gti s 0) (h4 : gti s 0 ≤ l.length) (h5 : l.length ≤ 1000) :
  Calls Tryz.prog 127 #[netV n vt, v, vs, stpV m] w (RetI w (zeh n l s m)) := by
 obtain ⟨A, c, rfl, hc, hmm⟩ := hv.form
 obtain ⟨A2, c2, rfl, hc2, hmm2⟩ := hw.form
 obtain ⟨A3, c3, rfl, hc3, hmm3⟩ := hs.form
 have HV := Lib.hid hv
 have HW := Lib.hid hw
 have HS := Lib.hid hs
 clear hv hw
 obtain ⟨b, off, rfl, _, _, hcell⟩ := RdI.at1 hs (k := 0) (by omega)
 obtain ⟨At, ct, hsl, ht⟩ := RdI.tail1 hs h1 hc3
 obtain ⟨tl, htl⟩ : ∃ tl, s.drop 1 = tl := ⟨_, rfl⟩
 have htl2 : tl.length ≤ 1000 := by rw [← htl]; simp; omega
 rw [htl] at hsl ht
 have HAE := Lib.hid (show zeh n l s m = _ from by unfold zeh; rfl)
 rw [htl] at HAE
 have HT := Lib.hid ht
 have hs0 : (0 : Int) < (s.length : Int) := by omega
 have hs2 : ¬ s = [] := by intro e; rw [e] at h1; simp at h1
 have hs3 : 0 < s.length := h1
 clear hs ht htl
 simp only [Nat.add_zero] at hcell
 have HC := Lib.hid hcell
 clear hcell
 generalize gti s 0 = p at *
 obtain ⟨kd, tr, ac⟩ := m
 simp only at HAE
 have hM : ∀ (w0 : World), Mem [Loc.k3 (w0.heap.size + 1) (.int .i64 kd) (.int .i64 tr) (.string ac), Loc.k4 w0.heap.size (.int .i64 n.places) (.slice A n.trans.length c) (.int .i64 n.source) (.int .i64 n.sink), Loc.bl w0.heap.size w0] ((w0.alloc (.cells #[.int .i64 n.places, .slice A n.trans.length c, .int .i64 n.source, .int .i64 n.sink] 24)).alloc (.cells #[.int .i64 kd, .int .i64 tr, .string ac] 143)) := fun w0 =>
  ⟨by have := K3.new (w0.alloc (.cells #[.int .i64 n.places, .slice A n.trans.length c, .int .i64 n.source, .int .i64 n.sink] 24)) (.int .i64 kd) (.int .i64 tr) (.string ac) 143; rw [World.size_alloc] at this; exact this, K4.aft ((Below.refl _ _).alloc (Nat.le_refl _) _) (K4.new w0 _ _ _ _ _), ⟨((Below.refl _ _).alloc (Nat.le_refl _) _).alloc (by simp) _, by simp; omega⟩, True.intro⟩
 by_cases hk2 : kd = 2
 ·
  subst hk2
  refine zas fun R hR => ?_
  have HR := Lib.hid hR
  clear hR
  go_enter Tryz.func127, Tryz.ntmps127
  have M := Lib.hid (hM w)
  clear hM
  have hk3 := M.out.1
  have hcell := C1.aft M.out.2.2.1.1 HC.out
  go_wp2_with fail
  go_quiet (fail)
  replace M := Lib.hid (M.out.drewN nq)
  replace hk3 := M.out.1
  generalize World.drewN _ nq = W at *
  go_wp2_with (first
   | (go_at_call 78; refine (zhu _ _).mono ?_; rintro e w1 ⟨rfl, hb1⟩; replace M := Lib.hid (M.out.below hb1); clear hb1; replace hk3 := M.out.1)
   | (go_at_call 124; refine (zyd l p _ lo' hi' _ _ (HW.out.after M.out.2.2.1.1) h3).mono ?_; rintro e w1 ⟨rfl, hb1⟩; replace M := Lib.hid (M.out.below hb1); clear hb1; replace hk3 := M.out.1; have hz1 := M.out.1.2.2.2; have hz0 := M.out.2.1.2.2.2.2)
   | (at_builtin; refine zd1 rfl _ _ rfl zh3 (fun _ => rfl) oneI rfl rfl (Mem.lit1 M.out (p + 1)) (by (repeat' (first | exact True.intro | refine And.intro (fun k hk e => ?_) ?_)) <;> (first | exact e | ((try dsimp only [Loc.c1, Loc.c2, Loc.k1, Loc.k2, Loc.k3, Loc.k4, Loc.k6, Loc.fr, Loc.bl, Loc.own, Loc.sz, Loc.rd, Loc.rdI, Loc.rdS, Loc.rdM, Loc.rdT, Loc.ow, Loc.owI] at hk e) <;> omega))) (HT.out.after (M.out.2.2.1.1.alloc M.out.2.2.1.2 _)) (by simp; omega) (by simp; omega) (by simp) ?_; intro A9 c9 w9 hM1 hs1 hch1; replace M := Lib.hid hM1; clear hM1 hch1))
  all_goals have hae := HAE.out
  all_goals clear HAE
  all_goals first
   | exact HR.out _ _ (RetI.nil (by rw [hae]; clear hae; go_light; grind) M.out.2.2.1.1)
   | exact HR.out _ _ (RetI.mk (l := (p + 1) :: tl) (by rw [hae]; clear hae; go_light; grind) (by simp; omega) M.out.1.rd (by omega) (Nat.le_refl _) M.out.2.2.2.1.1)
 ·
  by_cases ht : tr < 0 ∨ n.trans.length ≤ tr
  ·
   have HTT := Lib.hid ht
   have HK2 := Lib.hid hk2
   have hk2' : (kd == 2) = false := by simpa using hk2
   refine zas fun R hR => ?_
   have HR := Lib.hid hR
   clear hR
   go_enter Tryz.func127, Tryz.ntmps127
   have M := Lib.hid (hM w)
   clear hM
   have hk3 := M.out.1
   have hk4 := M.out.2.1
   have hcell := C1.aft M.out.2.2.1.1 HC.out
   go_wp2_with fail
   go_quiet (fail)
   replace M := Lib.hid (M.out.drewN nq)
   replace hk3 := M.out.1
   replace hk4 := M.out.2.1
   generalize World.drewN _ nq = W at *
   go_wp2_with fail
   all_goals have hae := HAE.out
   all_goals rw [if_neg HK2.out, if_pos HTT.out] at hae
   all_goals first
    | exact HR.out _ _ (RetI.nil hae M.out.2.2.1.1)
    | (exfalso; go_light; omega)
  ·
   have HTT := Lib.hid ht
   have HK2 := Lib.hid hk2
   have hk2' : (kd == 2) = false := by simpa using hk2
   obtain ⟨kt, rfl⟩ : ∃ k : Nat, tr = k := ⟨tr.toNat, by omega⟩
   have hlt : kt < n.trans.length := by omega
   clear ht
   obtain ⟨b4, off4, vi, vo, rfl, hbl, hbh, hcl, hri, hro⟩ := RdT.at3 HV.out hlt
   have HCL := Lib.hid hcl
   have hx1 : ((kt : Int) < 0) = False := by simp
   have hx2 : ((n.trans.length : Int) ≤ (kt : Int)) = False := by simp; omega
   have HFL := Lib.hid (zxq (n := n) (m := tl) (t := kt))
   rw [if_neg HK2.out, if_neg HTT.out, Int.toNat_natCast] at HAE
   generalize gti n.trans kt = x at *
   clear hri hro hcl
   have HFE := Lib.hid (fun (W : World) (h : Below w.heap.size w W) => zow n tl kt _ _ lo hi lo2 hi2 W (HV.out.after h) (HT.out.after h))
   obtain ⟨⟨fl, fe⟩, hfe⟩ : ∃ r, zci n tl kt = r := ⟨_, rfl⟩
   rw [hfe] at HAE HFE HFL
   simp only at HAE HFL
   clear hfe
   refine zas fun R hR => ?_
   have HR := Lib.hid hR
   clear hR
   go_enter Tryz.func127, Tryz.ntmps127
   have M := Lib.hid (hM w)
   clear hM
   have hk3 := M.out.1
   have hk4 := M.out.2.1
   have hcell := C1.aft M.out.2.2.1.1 HC.out
   go_wp2_with fail
   go_quiet (fail)
   replace M := Lib.hid (M.out.drewN nq)
   replace hk3 := M.out.1
   replace hk4 := M.out.2.1
   generalize World.drewN _ nq = W at *
   have hcr := C3.aft M.out.2.2.1.1 HCL.out
   go_wp2_with (first
    | (go_at_call 124; refine (zyd l p _ lo' hi' _ _ (HW.out.after M.out.2.2.1.1) h3).mono ?_; rintro e w1 ⟨rfl, hb1⟩; replace M := Lib.hid (M.out.below hb1); clear hb1; replace hk3 := M.out.1; replace hk4 := M.out.2.1)
    | (go_at_call 55; refine (HFE.out _ M.out.2.2.1.1).mono ?_; rintro e w6 ⟨A6, c6, rfl, hr6, hb6⟩; have hz0 := M.out.2.1.2.2.2.2; have hz1 := M.out.1.2.2.2; have hz6 := hb6.size; replace M := Lib.hid (M.out.below hb6); have HR6 := Lib.hid hr6; dsimp only at HR6 ⊢; clear hb6 hr6)
    | (at_builtin; refine zd1 rfl _ _ rfl zh3 (fun _ => rfl) oneI rfl rfl (Mem.lit1 M.out _) (by (repeat' (first | exact True.intro | refine And.intro (fun k hk e => ?_) ?_)) <;> (first | exact e | ((try dsimp only [Loc.c1, Loc.c2, Loc.k1, Loc.k2, Loc.k3, Loc.k4, Loc.k6, Loc.fr, Loc.bl, Loc.own, Loc.sz, Loc.rd, Loc.rdI, Loc.rdS, Loc.rdM, Loc.rdT, Loc.ow, Loc.owI] at hk e) <;> omega))) (HR6.out.after ((Below.refl _ _).alloc (Nat.le_refl _) _)) (by have := HFL.out; simp; omega) (by have := HFL.out; simp; omega) (by simp) ?_; intro A9 c9 w9 hM1 hs1 hch1; replace M := Lib.hid hM1; clear hM1 hch1))
   all_goals have hae := HAE.out
   all_goals clear HAE
   all_goals have hinj := @toList_inj ac x.label
   all_goals first
    | exact HR.out _ _ (RetI.nil (by rw [hae]; clear hae; go_light; grind) M.out.2.2.1.1)
    | exact HR.out _ _ (RetI.mk (by rw [hae]; clear hae; go_light; grind) (by simp; omega) M.out.1.rd (by omega) (Nat.le_refl _) M.out.2.2.2.1.1)
end Go.Proofs.YtohmldibkojkfaaGreatDoor
end
section
namespace Go.Proofs.YtohmldibkojkfaaGreatDoor
open Go.RowKit
def zbq (n : Net) (w : List ByteArray) (s : List Int) (m : Stp) : List Int × Int := if zdu n w s && zif m.kind then zeh n w s m else ([], 1)
theorem zjm {n : Net} {l : List ByteArray} {s : List Int} {z : Bool} (hz : zdu n l s = z) (vt v vs : Value) (lo hi lo' hi' lo2 hi2 : Nat) (w : World) (hv : RdT w lo hi vt n.trans) (hw : RdS w lo' hi' v l) (hs : RdI w lo2 hi2 vs s) :
  Calls Tryz.prog 123 #[netV n vt, v, vs] w fun e w' => e = .returned (.bool z) ∧ Below w.heap.size w w' := hz ▸ zru n l s vt v vs lo hi lo' hi' lo2 hi2 w hv hw hs
theorem z2o {k : Int} {z : Bool} (hz : zif k = z) (w : World) : Calls Tryz.prog 126 #[.int .i64 k] w fun e w' => e = .returned (.bool z) ∧ Below w.heap.size w w' := hz ▸ ztj k w
theorem zdn {n : Net} {l : List ByteArray} {s : List Int} (h : zdu n l s = true) : 1 ≤ s.length ∧ s.length ≤ 1000 ∧ 0 ≤ gti s 0 ∧ gti s 0 ≤ l.length ∧ l.length ≤ 200 := by
 obtain ⟨h1, h2, h3, h4, h5⟩ := zdj.1 h
 unfold zc9 at h5
 simp only [Bool.and_eq_true] at h5
 have h6 := zfh h5.2
 have h7 := zbo h5.1
 unfold ze9 at h1
 simp only [Bool.and_eq_true, decide_eq_true_eq] at h1
 simp at h6
 omega
theorem stepM (kd tr : Int) (ac : ByteArray) (n : Net) (vt : Value) (w0 : World) : Mem [Loc.k3 (w0.heap.size + 1) (.int .i64 kd) (.int .i64 tr) (.string ac), Loc.k4 w0.heap.size (.int .i64 n.places) (vt) (.int .i64 n.source) (.int .i64 n.sink), Loc.bl w0.heap.size w0] ((w0.alloc (.cells #[.int .i64 n.places, vt, .int .i64 n.source, .int .i64 n.sink] 24)).alloc (.cells #[.int .i64 kd, .int .i64 tr, .string ac] 143)) :=
 ⟨by have := K3.new (w0.alloc (.cells #[.int .i64 n.places, vt, .int .i64 n.source, .int .i64 n.sink] 24)) (.int .i64 kd) (.int .i64 tr) (.string ac) 143; rw [World.size_alloc] at this; exact this, K4.aft ((Below.refl _ _).alloc (Nat.le_refl _) _) (K4.new w0 _ _ _ _ _), ⟨((Below.refl _ _).alloc (Nat.le_refl _) _).alloc (by simp) _, by simp; omega⟩, True.intro⟩
set_option maxHeartbeats 1000000 in
theorem zyj (n : Net) (l : List ByteArray) (s : List Int) (m : Stp) (vt v vs : Value) (lo hi lo' hi' lo2 hi2 : Nat) (w : World) (hv : RdT w lo hi vt n.trans) (hw : RdS w lo' hi' v l) (hs : RdI w lo2 hi2 vs s) :
  Calls Tryz.prog 96 #[netV n vt, v, vs, stpV m] w (RetI w (zbq n l s m)) := by
 obtain ⟨A, c, rfl, hc, hmm⟩ := hv.form
 obtain ⟨A2, c2, rfl, hc2, hmm2⟩ := hw.form
 obtain ⟨A3, c3, rfl, hc3, hmm3⟩ := hs.form
 have HV := Lib.hid hv
 have HW := Lib.hid hw
 have HS := Lib.hid hs
 clear hv hw hs
 obtain ⟨z, hz⟩ : ∃ z, zdu n l s = z := ⟨_, rfl⟩
 obtain ⟨y, hy⟩ : ∃ y, zif m.kind = y := ⟨_, rfl⟩
 have HZ := Lib.hid hz
 have HY := Lib.hid hy
 have HAE : Hid (zbq n l s m = if z && y then zeh n l s m else ([], 1)) := Lib.hid (by rw [zbq, hz, hy])
 clear hz hy
 have hM := stepM m.kind m.trans m.act n (.slice A n.trans.length c)
 cases z <;> cases y
 all_goals
  refine zas fun R hR => ?_
  have HR := Lib.hid hR
  clear hR
  go_enter Tryz.func96, Tryz.ntmps96
  have M := Lib.hid (hM w)
  have hk3 := M.out.1
  have hk4 := M.out.2.1
  go_wp2_with (first
   | (go_at_call 123; refine (zjm HZ.out _ _ _ lo hi lo' hi' lo2 hi2 _ (HV.out.after M.out.2.2.1.1) (HW.out.after M.out.2.2.1.1) (HS.out.after M.out.2.2.1.1)).mono ?_; rintro e w1 ⟨rfl, hb1⟩; replace M := Lib.hid (M.out.below hb1); clear hb1; replace hk3 := M.out.1; replace hk4 := M.out.2.1)
   | (go_at_call 126; refine (z2o HY.out _).mono ?_; rintro e w1 ⟨rfl, hb1⟩; replace M := Lib.hid (M.out.below hb1); clear hb1; replace hk3 := M.out.1; replace hk4 := M.out.2.1)
   | (go_at_call 127; refine (zyf n l s m _ _ _ lo hi lo' hi' lo2 hi2 _ (HV.out.after M.out.2.2.1.1) (HW.out.after M.out.2.2.1.1) (HS.out.after M.out.2.2.1.1) (zdn HZ.out).1 (zdn HZ.out).2.1 (zdn HZ.out).2.2.1 (zdn HZ.out).2.2.2.1 (by have := (zdn HZ.out).2.2.2.2; omega)).mono ?_; rintro e w7 ⟨A7, c7, rfl, hr7, hb7⟩; have HR7 := Lib.hid hr7; have hz7 := M.out.2.2.1.2; replace M := Lib.hid (M.out.below hb7); clear hb7 hr7))
 ·
  exact HR.out _ _ (RetI.nil (by rw [HAE.out]; rfl) M.out.2.2.1.1)
 ·
  exact HR.out _ _ (RetI.nil (by rw [HAE.out]; rfl) M.out.2.2.1.1)
 ·
  exact HR.out _ _ (RetI.nil (by rw [HAE.out]; rfl) M.out.2.2.1.1)
 ·
  exact HR.out _ _ (RetI.mk (by rw [HAE.out]; rfl) rfl HR7.out hz7 (Nat.le_refl _) M.out.2.2.1.1)
end Go.Proofs.YtohmldibkojkfaaGreatDoor
end
section
namespace Go.Proofs.YtohmldibkojkfaaGreatDoor
open Go.RowKit
theorem zso {n : Net} {m : List Int} {t : Int} (h : (zci n m t).2 = 0) : zc9 n (zci n m t).1 = true := by
 unfold zci at h ⊢
 split
 ·
  rename_i hm; rw [if_pos hm] at h; exact znk hm h
 ·
  rename_i hm; rw [if_neg hm] at h; simp at h
theorem zlv {α : Type} [Inhabited α] (x : α) (l : List α) : gti (x :: l) 0 = x := by simp [gti]
theorem zzm {α : Type} [Inhabited α] (x : α) (l : List α) (k : Nat) : gti (x :: l) (k + 1) = gti l k := by simp [gti]
theorem zsk {n : Net} {w : List ByteArray} {s : List Int} {m : Stp} (hs : zdu n w s = true) (h : (zeh n w s m).2 = 0) : zdu n w (zeh n w s m).1 = true := by
 obtain ⟨h1, h2, h3, h4, h5⟩ := zdj.1 hs
 rw [zdj]
 have hat : ∀ a, ¬ atB w (gti s 0) a = false → gti s 0 + 1 ≤ w.length := by
  intro a ha
  unfold atB at ha
  simp at ha
  omega
 refine ⟨h1, ?_⟩
 unfold zeh at h ⊢
 by_cases c1 : m.kind = 2
 ·
  rw [if_pos c1] at h ⊢
  by_cases c2 : m.trans ≠ -1
  ·
   rw [if_pos c2] at h; simp at h
  rw [if_neg c2] at h ⊢
  by_cases c3 : zem m.act = false
  ·
   rw [if_pos c3] at h; simp at h
  rw [if_neg c3] at h ⊢
  by_cases c4 : atB w (gti s 0) m.act = false
  ·
   rw [if_pos c4] at h; simp at h
  rw [if_neg c4] at h ⊢
  have := hat _ c4
  simp only [zlv, List.length_cons, List.drop_succ_cons, List.drop_zero]
  exact ⟨by omega, by omega, this, h5⟩
 ·
  rw [if_neg c1] at h ⊢
  by_cases c2 : m.trans < 0 ∨ (n.trans.length : Int) ≤ m.trans
  ·
   rw [if_pos c2] at h; simp at h
  rw [if_neg c2] at h ⊢
  by_cases c3 : m.act ≠ (gti n.trans m.trans.toNat).label ∨ (gti n.trans m.trans.toNat).label.toList.isEmpty ≠ decide (m.kind = 4)
  ·
   rw [if_pos c3] at h; simp at h
  rw [if_neg c3] at h ⊢
  by_cases c4 : m.kind = 1 ∧ atB w (gti s 0) m.act = false
  ·
   rw [if_pos c4] at h; simp at h
  rw [if_neg c4] at h ⊢
  by_cases c5 : (zci n (s.drop 1) m.trans).2 ≠ 0
  ·
   rw [if_pos c5] at h; exact absurd h c5
  rw [if_neg c5] at h ⊢
  simp only [zlv, List.length_cons, List.drop_succ_cons, List.drop_zero]
  refine ⟨by omega, by split <;> omega, ?_, zso (by simpa using c5)⟩
  split
  ·
   rename_i hk
   exact hat _ (fun hf => c4 ⟨hk, hf⟩)
  ·
   exact h4
theorem zub : ∀ {m : List Int}, (∀ k, k < m.length → 0 ≤ gti m k ∧ gti m k ≤ 100) → zjb m = true
 | [], _ => rfl
 | x :: m, h => by
  have h0 := h 0 (by simp)
  rw [zlv] at h0
  rw [zjb, if_neg (by omega)]
  exact zub (fun k hk => by have := h (k + 1) (by simp; omega); rwa [zzm] at this)
theorem zps {n : Net} (p : Int) (h : 1 ≤ n.places) : zdp n (oneL n.places.toNat p) = true := by
 rw [zdp, if_neg (by rw [ziw]; omega)]
 refine zub (fun k hk => ?_)
 unfold oneL
 rw [gti_set]
 split
 ·
  omega
 ·
  unfold gti
  rw [List.getElem?_replicate]
  split <;> simp
theorem ze3 {n : Net} {w : List ByteArray} {s : List Int} {m : Stp} (hs : zdu n w s = true) (hk : zif m.kind = true) : zbq n w s m = zeh n w s m := by
 rw [zbq, hs, hk]; rfl
end Go.Proofs.YtohmldibkojkfaaGreatDoor
end
section
namespace Go.Proofs.YtohmldibkojkfaaGreatDoor
open Go.RowKit
structure Nd where
 k : Int
 m : List Int
 run : List Int
 deriving Inhabited
theorem gti_app {α : Type} [Inhabited α] (a b : List α) (i : Nat) : gti (a ++ b) i = if i < a.length then gti a i else gti b (i - a.length) := by
 unfold gti
 split
 ·
  rename_i h; rw [List.getElem?_append_left h]
 ·
  rename_i h; rw [List.getElem?_append_right (by omega)]
theorem one_mk {n : Net} (hv : zca n = true) (p : Int) : zc9 n (oneL n.places.toNat p) = true := by
 unfold zc9
 rw [hv, zps p (zbo hv).1]; rfl
end Go.Proofs.YtohmldibkojkfaaGreatDoor
namespace Go.Proofs.YtohmldibkojkfaaGreatDoor.Aw
abbrev eBA : ByteArray := { data := #[] }
end Go.Proofs.YtohmldibkojkfaaGreatDoor.Aw
end
