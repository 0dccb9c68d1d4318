import Derived.Test.YtjhdcgaiccnmeaaGreatDoorJB9
import Derived.StillTailTactics
import Derived.Test.YtjhdcgaiccnmeaaGreatDoorJB5
set_option linter.unusedSimpArgs false
set_option linter.unusedVariables false
set_option linter.unusedSectionVars false
namespace Go.Proofs.YtjhdcgaiccnmeaaGreatDoor
section
open Go.RowKit
theorem zmu {n : Int} {l : List Int} (h : zd7 n l = true) : ∀ (j i : Nat), i < j → j < l.length → gti l i < gti l j
 | 0, i, hij, _ => by omega
 | j + 1, i, hij, hj => by
  have hb : ¬ badP n l (j + 1) := fun hb => by rw [ze0 hj hb] at h; cases h
  unfold badP at hb
  simp only [Nat.add_sub_cancel] at hb
  by_cases hji : i = j
  ·
   subst hji; omega
  ·
   have := zmu h j i (by omega) (by omega)
   omega
theorem zo7 {n : Int} {p : Int} {ps : List Int} (h : zd7 n (p :: ps) = true) : zd7 n ps = true := by
 apply zhn
 intro k hk
 have hb : ¬ badP n (p :: ps) (k + 1) := fun hb => by rw [ze0 (by simp; omega) hb] at h; cases h
 unfold badP at hb ⊢
 have e1 : gti (p :: ps) (k + 1) = gti ps k := by simp [gti]
 rw [e1] at hb
 rcases Nat.eq_zero_or_pos k with rfl | hk0
 ·
  omega
 ·
  obtain ⟨j, rfl⟩ : ∃ j, k = j + 1 := ⟨k - 1, by omega⟩
  have e2 : gti (p :: ps) (j + 1) = gti ps j := by simp [gti]
  simp only [Nat.add_sub_cancel] at hb ⊢
  rw [e2] at hb
  omega
theorem zo8 {n : Int} {p : Int} {ps : List Int} (h : zd7 n (p :: ps) = true) : 0 ≤ p ∧ p < n ∧ ∀ q ∈ ps, q.toNat ≠ p.toNat := by
 have h0 := zdr h (k := 0) (by simp)
 have e : gti (p :: ps) 0 = p := by simp [gti]
 rw [e] at h0
 refine ⟨h0.1, h0.2.1, fun q hq => ?_⟩
 obtain ⟨k, hk, rfl⟩ := zvy hq
 have := zmu h (k + 1) 0 (by omega) (by simp; omega)
 have e1 : gti (p :: ps) (k + 1) = gti ps k := by simp [gti]
 rw [e, e1] at this
 omega
theorem zl1 {n : Int} : ∀ {ps m : List Int}, zd7 n ps = true → (∀ i, 0 ≤ gti m i) → (∀ p ∈ ps, 1 ≤ gti m p.toNat) → ∀ i, 0 ≤ gti (decL ps m) i
 | [], m, _, h, _, i => h i
 | p :: ps, m, hp, h, h1, i => by
  obtain ⟨hp0, hp1, hpn⟩ := zo8 hp
  refine zl1 (zo7 hp) (fun j => ?_) (fun q hq => ?_) i
  ·
   rw [zhq]
   have := h j
   have := h1 p (List.mem_cons_self ..)
   split <;> omega
  ·
   rw [zhq, if_neg (fun e => hpn q hq e.1.symm)]
   exact h1 q (List.mem_cons_of_mem _ hq)
theorem zlo : ∀ {ps m : List Int}, (∀ i, 0 ≤ gti m i) → ∀ i, 0 ≤ gti (incL ps m) i
 | [], m, h, i => h i
 | p :: ps, m, h, i => by
  rw [incL]
  refine zlo (fun j => ?_) i
  rw [zhq]
  have := h j
  have := h p.toNat
  split <;> omega
theorem enB_at {t : Tr} {m : List Int} (h : enB t m = true) {p : Int} (hp : p ∈ t.inn) : gti m p.toNat ≠ 0 := by
 unfold enB at h
 simp only [Bool.not_eq_true', List.any_eq_false, decide_eq_true_eq] at h
 exact h p hp
theorem zqe : ∀ {m : List Int}, (∀ i, 0 ≤ gti m i) → zje m = !m.any fun y => decide (100 < y)
 | [], _ => rfl
 | x :: m, h => by
  have h0 : 0 ≤ x := by have := h 0; simpa [gti] using this
  have := zqe (m := m) (fun i => by have := h (i + 1); simpa [gti] using this)
  simp only [zje, List.any_cons]
  rw [this]
  grind
theorem zpp {n : Net} {m : List Int} {t : Tr} (hm : zev n m = true) (ht : zd7 n.places t.inn = true) (he : enB t m = true) :
  zev n (incL t.out (decL t.inn m)) = !(incL t.out (decL t.inn m)).any fun y => decide (100 < y) := by
 have hnn : ∀ i, 0 ≤ gti (incL t.out (decL t.inn m)) i := zlo (zl1 ht (fun i => (zgl hm i).1) (fun p hp => by
  have := enB_at he hp
  have := (zgl hm p.toNat).1
  omega))
 unfold zev
 rw [if_neg (by rw [znt, zn8]; have := zfp hm; omega), zqe hnn]
theorem zm3 {n : Net} {m : List Int} {t : Int} (hm : zep n m = true) (h : (zkc n m t).2 = 0) : zep n (zkc n m t).1 = true := by
 unfold zep at hm ⊢
 simp only [Bool.and_eq_true] at hm ⊢
 refine ⟨hm.1, ?_⟩
 unfold zkc at h ⊢
 split
 ·
  rename_i h1; rw [if_pos h1] at h; simp at h
 ·
  rename_i h1
  rw [if_neg h1] at h
  split
  ·
   rename_i h2
   rw [if_pos h2] at h
   split
   ·
    rename_i h3; rw [if_pos h3] at h; simp at h
   ·
    rename_i h3
    have htr := ziu hm.1 (gti_mem (l := n.trans) (k := t.toNat) (by omega))
    rw [zpp hm.2 htr.2.1 h2]
    simpa using h3
  ·
   rename_i h2; rw [if_neg h2] at h; simp at h
def zdi (n : Net) (m : List Int) (t : Int) : List Int × Int := if zep n m then zkc n m t else ([], 1)
set_option maxHeartbeats 1000000 in
theorem zte (n : Net) (m : List Int) (t : Int) (vt v : Value) (lo hi lo' hi' : Nat) (w : World) (hv : RdT w lo hi vt n.trans) (hm : RdI w lo' hi' v m) :
  Calls Tryz.prog 115 #[netV n vt, v, .int .i64 t] w (RetI w (zdi n m t)) := by
 obtain ⟨A, c, rfl, hc, hmm⟩ := hv.form
 obtain ⟨A2, c2, rfl, hc2, hmm2⟩ := hm.form
 have HV := Lib.hid hv
 have HW := Lib.hid hm
 clear hv hm
 cases hvb : zep n m <;> have HVB := Lib.hid hvb <;> clear hvb
 all_goals
  refine zc3 fun R hR => ?_
  have HR := Lib.hid hR
  clear hR
  go_enter Tryz.func115, Tryz.ntmps115
  have M : Hid (Mem [Loc.k4 w.heap.size (.int .i64 n.places) (.slice A n.trans.length c) (.int .i64 n.source) (.int .i64 n.sink), Loc.bl w.heap.size w] (w.alloc (.cells #[.int .i64 n.places, .slice A n.trans.length c, .int .i64 n.source, .int .i64 n.sink] 24))) := Lib.hid ⟨K4.new w _ _ _ _ _, ⟨(Below.refl _ _).alloc (Nat.le_refl _) _, by simp⟩, True.intro⟩
  have hk4 := M.out.1
  go_wp2_with (first
   | (go_at_call 91; refine (zjm HVB.out _ _ lo hi lo' hi' _ (HV.out.after M.out.2.1.1) (HW.out.after M.out.2.1.1)).mono ?_; rintro e w1 ⟨rfl, hb1⟩; replace M := Lib.hid (M.out.below hb1); clear hb1; replace hk4 := M.out.1)
   | (go_at_call 93; refine (zza n m t _ _ lo hi lo' hi' _ (HV.out.after M.out.2.1.1) (HW.out.after M.out.2.1.1) HVB.out).mono ?_; rintro e w2 ⟨A1, c1, rfl, hr1, hb1⟩; have HR1 := Lib.hid hr1; have hws := M.out.2.1.2; replace M := Lib.hid (M.out.below hb1); clear hb1 hr1))
 ·
  exact HR.out _ _ (RetI.nil (by rw [zdi, HVB.out]; rfl) M.out.2.1.1)
 ·
  exact HR.out _ _ (RetI.mk (by rw [zdi, HVB.out]; rfl) rfl HR1.out hws (Nat.le_refl _) M.out.2.1.1)
def canL (m : List Int) : List Int → Bool
 | [] => true
 | p :: ps => if gti m p.toNat < 1 then false else canL m ps
theorem zxf {m : List Int} (hm : ∀ i, 0 ≤ gti m i) : ∀ ps : List Int, canL m ps = !ps.any fun p => decide (gti m p.toNat = 0)
 | [] => rfl
 | p :: ps => by
  have := hm p.toNat
  rw [canL, zxf hm ps, List.any_cons]
  grind
set_option maxHeartbeats 1000000 in
theorem z2e (n : Net) (m : List Int) (t : Nat) (vt v : Value) (lo hi lo' hi' : Nat) (w : World) (hv : RdT w lo hi vt n.trans) (hm : RdI w lo' hi' v m) (ht : t < n.trans.length) (hin : ∀ k, k < (gti n.trans t).inn.length → 0 ≤ gti (gti n.trans t).inn k ∧ gti (gti n.trans t).inn k < m.length) :
  Calls Tryz.prog 139 #[netV n vt, v, .int .i64 t] w fun e w' => e = .returned (.bool (canL m (gti n.trans t).inn)) ∧ Below w.heap.size w w' := by
 obtain ⟨A, c, rfl, hc, hmm⟩ := hv.form
 obtain ⟨A2, c2, rfl, hc2, hmm2⟩ := hm.form
 obtain ⟨b, off, vi, vo, rfl, hbl, hbh, hcell, hri, hro⟩ := RdT.at3 hv ht
 obtain ⟨Ai, ci, rfl, hci, hmi⟩ := hri.form
 have HV := Lib.hid hv
 have HW := Lib.hid hm
 have HRI := Lib.hid hri
 have HN := Lib.hid hin
 clear hv hm hri hro hin
 generalize gti n.trans t = x at *
 refine zc3 fun R hR => ?_
 have HR := Lib.hid hR
 clear hR
 go_enter Tryz.func139, Tryz.ntmps139
 have M : Hid (Mem [Loc.k4 w.heap.size (.int .i64 n.places) (.slice (some ⟨b, off, none⟩) n.trans.length c) (.int .i64 n.source) (.int .i64 n.sink), Loc.bl w.heap.size w] (w.alloc (.cells #[.int .i64 n.places, .slice (some ⟨b, off, none⟩) n.trans.length c, .int .i64 n.source, .int .i64 n.sink] 24))) := Lib.hid ⟨K4.new w _ _ _ _ _, ⟨(Below.refl _ _).alloc (Nat.le_refl _) _, by simp⟩, True.intro⟩
 have hk4 := M.out.1
 replace hcell := C3.aft ((Below.refl w.heap.size w).alloc (Nat.le_refl _) (.cells #[.int .i64 n.places, .slice (some ⟨b, off, none⟩) n.trans.length c, .int .i64 n.source, .int .i64 n.sink] 24)) hcell
 go_wp2_with fail
 generalize w.alloc (.cells #[.int .i64 n.places, .slice (some ⟨b, off, none⟩) n.trans.length c, .int .i64 n.source, .int .i64 n.sink] 24) = W at *
 go_loop [7] (fun v7 => ∃ k : Nat, k ≤ x.inn.length ∧ v7 = .int .i64 k ∧ Hid (canL m (x.inn.drop k) = canL m x.inn)) (fun v7 => x.inn.length - (intOf v7).toNat)
 case atStart => exact ⟨0, by omega, rfl, Lib.hid rfl⟩
 case round =>
  obtain ⟨k, hk, rfl, HI⟩ := hrel
  by_cases hlt : k < x.inn.length
  ·
   have hpr := HN.out k hlt
   obtain ⟨bb, oo, rfl, _, _, hce⟩ := RdI.at1 (HRI.out.after M.out.2.1.1) hlt
   have HD := Lib.hid (zea hlt)
   generalize gti x.inn k = p at *
   obtain ⟨kp, rfl⟩ : ∃ j : Nat, p = j := ⟨p.toNat, by omega⟩
   have hkp : kp < m.length := by omega
   clear hpr
   obtain ⟨b2, o2, rfl, _, _, hce2⟩ := RdI.at1 (HW.out.after M.out.2.1.1) hkp
   have HJ : Hid (canL m x.inn = if gti m kp < 1 then false else canL m (x.inn.drop (k + 1))) := Lib.hid (by rw [← HI.out, HD.out, canL, Int.toNat_natCast])
   generalize gti m kp = y at *
   go_wp2_with fail
   all_goals have hj := HJ.out
   all_goals first
    | ((with_reducible refine HR.out _ _ ⟨?_, ?_⟩) <;> first | exact zd0 (by clear HJ; go_light; grind) | exact M.out.2.1.1)
    | (refine ⟨⟨k + 1, by omega, by go_num, Lib.hid (by clear HJ; go_light; grind)⟩, by simp [intOf]; omega⟩)
  ·
   obtain rfl : k = x.inn.length := by omega
   have HE : Hid (canL m x.inn = true) := Lib.hid (by rw [← HI.out]; simp [canL])
   clear HI
   go_wp2_with fail
   all_goals ((with_reducible refine HR.out _ _ ⟨?_, ?_⟩) <;> first | exact zd0 (by rw [HE.out]) | exact M.out.2.1.1)
end
section
open Go.RowKit
theorem zig {n : Net} {m : List Int} {b : Bool} (hb : zev n m = b) (vt v : Value) (lo hi : Nat) (w : World) (hv : RdI w lo hi v m) :
  Calls Tryz.prog 82 #[netV n vt, v] w fun e w' => e = .returned (.bool b) ∧ Below w.heap.size w w' := hb ▸ zey n vt m v lo hi w hv
theorem Mem.lit0 {L : List Loc} {w : World} (hM : Mem L w) : Mem (Loc.owI w.heap.size (w.heap.size + 1) (.slice (some ⟨w.heap.size, 0, none⟩) 0 0) [] :: L) (w.alloc (.cells #[] 3)) :=
 ⟨Own.lit w 3 w.heap.size [] #[] 0 rfl rfl (Nat.le_refl _) (Nat.zero_le _) (fun _ => rfl), hM.alloc _⟩
theorem Mem.lit1 {L : List Loc} {w : World} (hM : Mem L w) (x : Int) : Mem (Loc.owI w.heap.size (w.heap.size + 1) (.slice (some ⟨w.heap.size, 0, none⟩) 1 1) [x] :: L) (w.alloc (.cells #[.int .i64 x] 3)) :=
 ⟨Own.lit w 3 w.heap.size [x] #[.int .i64 x] 1 rfl rfl (Nat.le_refl _) (by decide) (fun _ => rfl), hM.alloc _⟩
theorem Mem.app0 {w : World} {L : List Loc} {lo hi : Nat} {A : Option Addr} {c : Nat} {m : List Int} (h : Mem (Loc.owI lo hi (.slice A (([] : List Int).length + m.length) c) ([] ++ m) :: L) w) : Mem (Loc.owI lo hi (.slice A m.length c) m :: L) w := by
 simpa only [List.length_nil, Nat.zero_add, List.nil_append] using h
set_option maxRecDepth 100000 in
set_option maxHeartbeats 4000000 in
theorem zve (n : Net) (m : List Int) (t : Int) (vt v : Value) (lo hi lo' hi' : Nat) (w : World) (hv : RdT w lo hi vt n.trans) (hm : RdI w lo' hi' v m) :
  Calls Tryz.prog 109 #[netV n vt, v, .int .i64 t] w (RetI w (zdi n m t)) := by
 obtain ⟨A, c, rfl, hc, hmm⟩ := hv.form
 obtain ⟨A2, c2, rfl, hc2, hmm2⟩ := hm.form
 have HV := Lib.hid hv
 have HW := Lib.hid hm
 clear hv hm
 cases hvb : zd5 n with
 | false =>
  have HVB := Lib.hid hvb
  clear hvb
  refine zc3 fun R hR => ?_
  have HR := Lib.hid hR
  clear hR
  go_enter Tryz.func109, Tryz.ntmps109
  have M : Hid (Mem [Loc.k4 w.heap.size (.int .i64 n.places) (.slice A n.trans.length c) (.int .i64 n.source) (.int .i64 n.sink), Loc.bl w.heap.size w] (w.alloc (.cells #[.int .i64 n.places, .slice A n.trans.length c, .int .i64 n.source, .int .i64 n.sink] 24))) := Lib.hid ⟨K4.new w _ _ _ _ _, ⟨(Below.refl _ _).alloc (Nat.le_refl _) _, by simp⟩, True.intro⟩
  have hk4 := M.out.1
  go_wp2_with (go_at_call 20; refine (zee HVB.out _ lo hi _ (HV.out.after M.out.2.1.1)).mono ?_; rintro e w1 ⟨rfl, hb1⟩; replace M := Lib.hid (M.out.below hb1); clear hb1; replace hk4 := M.out.1)
  exact HR.out _ _ (RetI.nil (by rw [zdi, zep, HVB.out]; rfl) M.out.2.1.1)
 | true =>
 cases hmb : zev n m with
 | false =>
  have HVB := Lib.hid hvb
  have HMB := Lib.hid hmb
  clear hvb hmb
  refine zc3 fun R hR => ?_
  have HR := Lib.hid hR
  clear hR
  go_enter Tryz.func109, Tryz.ntmps109
  have M : Hid (Mem [Loc.k4 w.heap.size (.int .i64 n.places) (.slice A n.trans.length c) (.int .i64 n.source) (.int .i64 n.sink), Loc.bl w.heap.size w] (w.alloc (.cells #[.int .i64 n.places, .slice A n.trans.length c, .int .i64 n.source, .int .i64 n.sink] 24))) := Lib.hid ⟨K4.new w _ _ _ _ _, ⟨(Below.refl _ _).alloc (Nat.le_refl _) _, by simp⟩, True.intro⟩
  have hk4 := M.out.1
  go_wp2_with (first
   | (go_at_call 20; refine (zee HVB.out _ lo hi _ (HV.out.after M.out.2.1.1)).mono ?_; rintro e w1 ⟨rfl, hb1⟩; replace M := Lib.hid (M.out.below hb1); clear hb1; replace hk4 := M.out.1)
   | (go_at_call 82; refine (zig HMB.out _ _ lo' hi' _ (HW.out.after M.out.2.1.1)).mono ?_; rintro e w1 ⟨rfl, hb1⟩; replace M := Lib.hid (M.out.below hb1); clear hb1; replace hk4 := M.out.1))
  exact HR.out _ _ (RetI.nil (by rw [zdi, zep, HVB.out, HMB.out]; rfl) M.out.2.1.1)
 | true =>
 have HVB := Lib.hid hvb
 have HMB := Lib.hid hmb
 have hpl := zdy hvb
 have hlen := zfp hmb
 have HFF : Hid (zdi n m t = zkc n m t) := Lib.hid (by rw [zdi, zep, hvb, hmb]; rfl)
 obtain ⟨np, hnp⟩ : ∃ k : Nat, n.places = k := ⟨n.places.toNat, by omega⟩
 have hml : m.length = np := by omega
 have hnp1 : 1 ≤ np := by omega
 have hnp40 : np ≤ 40 := by omega
 have HNP := Lib.hid hnp
 have HML := Lib.hid hml
 clear hpl hlen hnp hml hvb hmb
 by_cases ht : t < 0 ∨ n.trans.length ≤ t
 ·
  have HT := Lib.hid ht
  refine zc3 fun R hR => ?_
  have HR := Lib.hid hR
  clear hR
  go_enter Tryz.func109, Tryz.ntmps109
  have M : Hid (Mem [Loc.k4 w.heap.size (.int .i64 n.places) (.slice A n.trans.length c) (.int .i64 n.source) (.int .i64 n.sink), Loc.bl w.heap.size w] (w.alloc (.cells #[.int .i64 n.places, .slice A n.trans.length c, .int .i64 n.source, .int .i64 n.sink] 24))) := Lib.hid ⟨K4.new w _ _ _ _ _, ⟨(Below.refl _ _).alloc (Nat.le_refl _) _, by simp⟩, True.intro⟩
  have hk4 := M.out.1
  go_wp2_with (first
   | (go_at_call 20; refine (zee HVB.out _ lo hi _ (HV.out.after M.out.2.1.1)).mono ?_; rintro e w1 ⟨rfl, hb1⟩; replace M := Lib.hid (M.out.below hb1); clear hb1; replace hk4 := M.out.1)
   | (go_at_call 82; refine (zig HMB.out _ _ lo' hi' _ (HW.out.after M.out.2.1.1)).mono ?_; rintro e w1 ⟨rfl, hb1⟩; replace M := Lib.hid (M.out.below hb1); clear hb1; replace hk4 := M.out.1))
  all_goals first
   | exact HR.out _ _ (RetI.nil (by rw [HFF.out, zkc, if_pos HT.out]) M.out.2.1.1)
   | (exfalso; go_light; omega)
 ·
  have HT := Lib.hid ht
  obtain ⟨kt, rfl⟩ : ∃ k : Nat, t = k := ⟨t.toNat, by omega⟩
  have hlt : kt < n.trans.length := by omega
  clear ht
  obtain ⟨b, off, vi, vo, rfl, hbl, hbh, hcell, hri, hro⟩ := RdT.at3 HV.out hlt
  have HTR := Lib.hid (ziu HVB.out (gti_mem hlt))
  obtain ⟨Ai, ci, rfl, hci, hmi⟩ := hri.form
  obtain ⟨Ao, co, rfl, hco, hmo⟩ := hro.form
  have HFE : Hid (zdi n m kt = if enB (gti n.trans kt) m then
    if (incL (gti n.trans kt).out (decL (gti n.trans kt).inn m)).any (fun y => decide (100 < y)) then ([], 5)
    else (incL (gti n.trans kt).out (decL (gti n.trans kt).inn m), 0)
   else ([], 12)) := Lib.hid (by rw [HFF.out, zkc, if_neg HT.out, Int.toNat_natCast])
  have HCAN : Hid (∀ W, Below w.heap.size w W → Calls Tryz.prog 139 #[netV n (.slice (some ⟨b, off, none⟩) n.trans.length c), .slice A2 m.length c2, .int .i64 kt] W fun e w' => e = .returned (.bool (enB (gti n.trans kt) m)) ∧ Below W.heap.size W w') :=
   Lib.hid (fun W hW => by
    have h := z2e n m kt _ _ lo hi lo' hi' W (HV.out.after hW) (HW.out.after hW) hlt (fun k hk => by
     have := zdr HTR.out.2.1 hk
     have := HNP.out
     have := HML.out
     omega)
    rw [zxf (fun i => (zgl HMB.out i).1)] at h
    exact h)
  have HFM : Hid (enB (gti n.trans kt) m = true → zev n (incL (gti n.trans kt).out (decL (gti n.trans kt).inn m)) = !(incL (gti n.trans kt).out (decL (gti n.trans kt).inn m)).any fun y => decide (100 < y)) := Lib.hid (fun h => zpp HMB.out HTR.out.2.1 h)
  generalize gti n.trans kt = x at *
  have HRI := Lib.hid hri
  have HRO := Lib.hid hro
  have hil : x.inn.length ≤ 40 := by have := zgz HTR.out.2.1; have := HNP.out; omega
  have hol : x.out.length ≤ 40 := by have := zgz HTR.out.2.2; have := HNP.out; omega
  have hx1 : ((kt : Int) < 0) = False := by simp
  have hx2 : ((n.trans.length : Int) ≤ (kt : Int)) = False := by simp; omega
  have HC := Lib.hid hcell
  clear hri hro HT HFF hcell
  refine zc3 fun R hR => ?_
  have HR := Lib.hid hR
  clear hR
  go_enter Tryz.func109, Tryz.ntmps109
  have M : Hid (Mem [Loc.k4 w.heap.size (.int .i64 n.places) (.slice (some ⟨b, off, none⟩) n.trans.length c) (.int .i64 n.source) (.int .i64 n.sink), Loc.bl w.heap.size w] (w.alloc (.cells #[.int .i64 n.places, .slice (some ⟨b, off, none⟩) n.trans.length c, .int .i64 n.source, .int .i64 n.sink] 24))) := Lib.hid ⟨K4.new w _ _ _ _ _, ⟨(Below.refl _ _).alloc (Nat.le_refl _) _, by simp⟩, True.intro⟩
  have hk4 := M.out.1
  go_wp2_with (first
   | (go_at_call 20; refine (zee HVB.out _ lo hi _ (HV.out.after M.out.2.1.1)).mono ?_; rintro e w1 ⟨rfl, hb1⟩; replace M := Lib.hid (M.out.below hb1); clear hb1; replace hk4 := M.out.1)
   | (go_at_call 82; refine (zig HMB.out _ _ lo' hi' _ (HW.out.after M.out.2.1.1)).mono ?_; rintro e w1 ⟨rfl, hb1⟩; replace M := Lib.hid (M.out.below hb1); clear hb1; replace hk4 := M.out.1)
   | (go_at_call 139; refine (HCAN.out _ M.out.2.1.1).mono ?_; rintro e w3 ⟨rfl, hb1⟩; replace M := Lib.hid (M.out.below hb1); clear hb1; replace hk4 := M.out.1; have hz3 := M.out.1.2.2.2.2)
   | (at_builtin; refine zec rfl _ _ rfl zhd (fun _ => rfl) oneI rfl rfl (Mem.lit0 M.out) (by (repeat' (first | exact True.intro | refine And.intro (fun k hk e => ?_) ?_)) <;> (first | exact e | ((try dsimp only [Loc.c1, Loc.c2, Loc.k1, Loc.k2, Loc.k3, Loc.k4, Loc.k6, Loc.fr, Loc.bl, Loc.own, Loc.sz, Loc.rd, Loc.rdI, Loc.rdS, Loc.rdM, Loc.rdT, Loc.ow, Loc.owI] at hk e) <;> omega))) (HW.out.after (M.out.2.1.1.alloc M.out.2.1.2 _)) (by have := HML.out; simp; omega) (by have := HML.out; simp; omega) (by simp) ?_; intro A1 c1 w4 hM1 hs1 hch1; replace M := Lib.hid (Mem.app0 hM1); clear hM1 hch1; (try simp only [World.size_alloc] at hs1)))
  ·
   exact HR.out _ _ (RetI.nil (by have hfe := HFE.out; clear HFE; go_light; grind) M.out.2.1.1)
  ·
   have hEN : enB x m = true := by go_light; grind
   have HEN := Lib.hid hEN
   clear hEN
   obtain ⟨g, cap, hA1, hgl, hgh, hgs⟩ := M.out.1.blk (by have := HML.out; omega)
   injection hA1 with e1 _ e3
   subst e1 e3
   go_loopw [9] (fun v9 wr => ∃ (k : Nat) (cur : List Int), k ≤ x.inn.length ∧ v9 = .int .i64 k ∧ Hid (decL (x.inn.drop k) cur = decL x.inn m) ∧ Hid (Bnd (100 + k) cur) ∧ Hid (cur.length = m.length) ∧ Hid (Mem [Loc.owI w3.heap.size w4.heap.size (.slice (some ⟨g, 0, none⟩) m.length c1) cur, Loc.k4 w.heap.size (.int .i64 n.places) (.slice (some ⟨b, off, none⟩) n.trans.length c) (.int .i64 n.source) (.int .i64 n.sink), Loc.bl w.heap.size w, Loc.sz w4.heap.size] wr)) (fun v9 _ => x.inn.length - (intOf v9).toNat)
   case atStart => exact ⟨0, m, by omega, rfl, Lib.hid rfl, Lib.hid (fun i => by have := zgl HMB.out i; omega), Lib.hid rfl, Lib.hid ⟨M.out.1, M.out.2.1, M.out.2.2.1, Nat.le_refl _, True.intro⟩⟩
   case round =>
    obtain ⟨k, cur, hk, rfl, HI, HBD, HCL, HM⟩ := hrel
    replace hk4 := HM.out.2.1
    have hcr := C3.aft HM.out.2.2.1.1 HC.out
    by_cases hltk : k < x.inn.length
    ·
     obtain ⟨bb, oo, rfl, _, _, hce⟩ := RdI.at1 (HRI.out.after HM.out.2.2.1.1) hltk
     have HD := Lib.hid (zea hltk)
     have hpr := zdr HTR.out.2.1 hltk
     generalize gti x.inn k = p at *
     obtain ⟨kp, rfl⟩ : ∃ j : Nat, p = j := ⟨p.toNat, by omega⟩
     have hkp : kp < m.length := by have := HNP.out; have := HML.out; omega
     have hkc : kp < cur.length := by rw [HCL.out]; exact hkp
     have hat := OwnI.at1 HM.out.1 hkc
     have hbd := HBD.out kp
     have HO2 := Lib.hid (OwnI.set (HM.out.drew).1 kp (gti cur kp - 1))
     clear hpr hkc
     go_wp2_with fail
     go_still_tail 24, (by kernel_rfl)
     change wpList _ _ _ _ _ wr.drew
     go_wp2_with fail
     have hA : Hid (decL (x.inn.drop (k + 1)) (cur.set kp (gti cur kp - 1)) = decL x.inn m) := Lib.hid (by
      have h := HI.out
      rw [HD.out, decL, Int.toNat_natCast] at h
      exact h)
     have hB : Hid (Bnd (100 + ((k + 1 : Nat) : Int)) (cur.set kp (gti cur kp - 1))) := Lib.hid (by
      have := HBD.out.dec kp
      rw [show (100 + ((k + 1 : Nat) : Int)) = 100 + (k : Int) + 1 by omega]
      exact this)
     have hC : Hid ((cur.set kp (gti cur kp - 1)).length = m.length) := Lib.hid (by rw [List.length_set]; exact HCL.out)
     have hk1 : k + 1 ≤ x.inn.length := by omega
     have hMr := HM.out.drew.2.set (g := g) (i := kp) (u := .int .i64 (gti cur kp - 1)) (by (repeat' (first | exact True.intro | refine And.intro (fun k hk e => ?_) ?_)) <;> (first | exact e | ((try dsimp only [Loc.c1, Loc.c2, Loc.k1, Loc.k2, Loc.k3, Loc.k4, Loc.k6, Loc.fr, Loc.bl, Loc.own, Loc.sz, Loc.rd, Loc.rdI, Loc.rdS, Loc.rdM, Loc.rdT, Loc.ow, Loc.owI] at hk e) <;> omega)))
     go_roundw
     case rel => (first | exact ⟨k + 1, cur.set kp (gti cur kp - 1), hk1, rfl, hA, hB, hC, Lib.hid ⟨HO2.out, hMr⟩⟩ | ((repeat apply Exists.intro); exact ⟨⟨k + 1, cur.set kp (gti cur kp - 1), hk1, rfl, hA, hB, hC, Lib.hid ⟨HO2.out, hMr⟩⟩, rfl⟩))
     case measure => simp [intOf]; omega
    ·
     obtain rfl : k = x.inn.length := by omega
     have HE : Hid (cur = decL x.inn m) := Lib.hid (by have h := HI.out; simpa [decL] using h)
     clear HI
     go_wp2_with fail
     go_loopw [10] (fun v10 wr => ∃ (k : Nat) (cur : List Int), k ≤ x.out.length ∧ v10 = .int .i64 k ∧ Hid (incL (x.out.drop k) cur = incL x.out (decL x.inn m)) ∧ Hid (Bnd ((100 + x.inn.length) + k) cur) ∧ Hid (cur.length = m.length) ∧ Hid (Mem [Loc.owI w3.heap.size w4.heap.size (.slice (some ⟨g, 0, none⟩) m.length c1) cur, Loc.k4 w.heap.size (.int .i64 n.places) (.slice (some ⟨b, off, none⟩) n.trans.length c) (.int .i64 n.source) (.int .i64 n.sink), Loc.bl w.heap.size w, Loc.sz w4.heap.size] wr)) (fun v10 _ => x.out.length - (intOf v10).toNat)
     case atStart => exact ⟨0, cur, by omega, rfl, Lib.hid (by rw [HE.out]; rfl), Lib.hid (by simpa using HBD.out), HCL, HM⟩
     case round =>
      clear HE HBD HCL HM hk4 hcr
      obtain ⟨k, cur, hk, rfl, HI, HBD, HCL, HM⟩ := hrel
      have hk4 := HM.out.2.1
      have hcr := C3.aft HM.out.2.2.1.1 HC.out
      by_cases hltk : k < x.out.length
      ·
       obtain ⟨bb, oo, rfl, _, _, hce⟩ := RdI.at1 (HRO.out.after HM.out.2.2.1.1) hltk
       have HD := Lib.hid (zea hltk)
       have hpr := zdr HTR.out.2.2 hltk
       generalize gti x.out k = p at *
       obtain ⟨kp, rfl⟩ : ∃ j : Nat, p = j := ⟨p.toNat, by omega⟩
       have hkp : kp < m.length := by have := HNP.out; have := HML.out; omega
       have hkc : kp < cur.length := by rw [HCL.out]; exact hkp
       have hat := OwnI.at1 HM.out.1 hkc
       have hbd := HBD.out kp
       have HO2 := Lib.hid (OwnI.set (HM.out.drew).1 kp (gti cur kp + 1))
       clear hpr hkc
       go_wp2_with fail
       go_still_tail 24, (by kernel_rfl)
       change wpList _ _ _ _ _ wr.drew
       go_wp2_with fail
       have hA : Hid (incL (x.out.drop (k + 1)) (cur.set kp (gti cur kp + 1)) = incL x.out (decL x.inn m)) := Lib.hid (by
        have h := HI.out
        rw [HD.out, incL, Int.toNat_natCast] at h
        exact h)
       have hB : Hid (Bnd ((100 + x.inn.length) + ((k + 1 : Nat) : Int)) (cur.set kp (gti cur kp + 1))) := Lib.hid (by
        have := HBD.out.inc kp
        rw [show ((100 + x.inn.length) + ((k + 1 : Nat) : Int)) = (100 + x.inn.length) + (k : Int) + 1 by omega]
        exact this)
       have hC : Hid ((cur.set kp (gti cur kp + 1)).length = m.length) := Lib.hid (by rw [List.length_set]; exact HCL.out)
       have hk1 : k + 1 ≤ x.out.length := by omega
       have hMr := HM.out.drew.2.set (g := g) (i := kp) (u := .int .i64 (gti cur kp + 1)) (by (repeat' (first | exact True.intro | refine And.intro (fun k hk e => ?_) ?_)) <;> (first | exact e | ((try dsimp only [Loc.c1, Loc.c2, Loc.k1, Loc.k2, Loc.k3, Loc.k4, Loc.k6, Loc.fr, Loc.bl, Loc.own, Loc.sz, Loc.rd, Loc.rdI, Loc.rdS, Loc.rdM, Loc.rdT, Loc.ow, Loc.owI] at hk e) <;> omega)))
       go_roundw
       case rel => (first | exact ⟨k + 1, cur.set kp (gti cur kp + 1), hk1, rfl, hA, hB, hC, Lib.hid ⟨HO2.out, hMr⟩⟩ | ((repeat apply Exists.intro); exact ⟨⟨k + 1, cur.set kp (gti cur kp + 1), hk1, rfl, hA, hB, hC, Lib.hid ⟨HO2.out, hMr⟩⟩, rfl⟩))
       case measure => simp [intOf]; omega
      ·
       obtain rfl : k = x.out.length := by omega
       have HE : Hid (cur = incL x.out (decL x.inn m)) := Lib.hid (by have h := HI.out; simpa [incL] using h)
       clear HI
       have M := HM
       clear HM
       go_wp2_with (go_at_call 82; refine (zey n _ cur _ w3.heap.size w4.heap.size _ M.out.1.rd).mono ?_; rintro e w1 ⟨rfl, hb1⟩; replace M := Lib.hid (M.out.below hb1); clear hb1; skip)
       all_goals (have hfe := HFE.out; have he := HE.out; have hmg := HFM.out HEN.out; rw [← he] at hfe hmg; rw [if_pos HEN.out] at hfe)
       all_goals first
        | exact HR.out _ _ (RetI.nil (by clear HFE HE HFM he; go_light; grind) M.out.2.2.1.1)
        | exact HR.out _ _ (RetI.mk (l := cur) (by clear HFE HE HFM he; go_light; grind) HCL.out.symm M.out.1.rd (by omega) M.out.2.2.2.1 M.out.2.2.1.1)
end
section
open Go.RowKit
def RetL (w : World) (l : List Int) (e : Ending) (w' : World) : Prop :=
 ∃ A c, e = .returned (.slice A l.length c) ∧ RdI w' w.heap.size w'.heap.size (.slice A l.length c) l ∧ Below w.heap.size w w'
theorem RetL.mk {w w' : World} {l : List Int} {n k : Nat} {A : Option Addr} (hn : n = l.length) {lo hi : Nat} (hr : RdI w' lo hi (.slice A n k) l) (hlo : w.heap.size ≤ lo) (hhi : hi ≤ w'.heap.size) (hb : Below w.heap.size w w') : RetL w l (.returned (.slice A n k)) w' := by
 subst hn
 exact ⟨A, k, rfl, hr.mono hlo hhi, hb⟩
def oneR (p : Int) (k : Nat) : List Int := (List.range k).map fun (i : Nat) => if (i : Int) = p then 1 else 0
theorem zvs (p : Int) (k : Nat) : oneR p (k + 1) = oneR p k ++ [if (k : Int) = p then 1 else 0] := by simp [oneR, List.range_succ]
theorem zsc (p : Int) (k : Nat) : (oneR p k).length = k := by simp [oneR]
theorem z1a {p : Int} {k : Nat} (h0 : 0 ≤ p) : oneR p k = oneL k p := by
 obtain ⟨q, rfl⟩ := Int.eq_ofNat_of_zero_le h0
 unfold oneR oneL
 apply List.ext_getElem?
 intro i
 rw [List.getElem?_set, Int.toNat_natCast]
 by_cases hi : i < k
 ·
  by_cases hq : q = i
  ·
   subst hq; simp [hi]
  ·
   have : ¬ (i : Int) = q := by omega
   simp [hi, hq, this]
 ·
  by_cases hq : q = i
  ·
   subst hq; simp [hi]
  ·
   simp [hi, hq]
set_option maxHeartbeats 1000000 in
theorem zz7 (n : Net) (p : Int) (np : Nat) (vt : Value) (w : World) (hnp : n.places = np) (h40 : np ≤ 40) (hp : 0 ≤ p) :
  Calls Tryz.prog 136 #[netV n vt, .int .i64 p] w (RetL w (oneL np p)) := by
 have HNP := Lib.hid hnp
 have HE := Lib.hid (z1a (k := np) hp)
 clear hnp
 refine zc3 fun R hR => ?_
 have HR := Lib.hid hR
 clear hR
 go_enter Tryz.func136, Tryz.ntmps136
 have M : Hid (Mem [Loc.k4 w.heap.size (.int .i64 n.places) (vt) (.int .i64 n.source) (.int .i64 n.sink), Loc.bl w.heap.size w] (w.alloc (.cells #[.int .i64 n.places, vt, .int .i64 n.source, .int .i64 n.sink] 24))) := Lib.hid ⟨K4.new w _ _ _ _ _, ⟨(Below.refl _ _).alloc (Nat.le_refl _) _, by simp⟩, True.intro⟩
 go_wp2_with fail
 go_loopw [6, 5, 7] (fun v6 v5 _ wr => ∃ (k : Nat) (B : Option Addr) (d hh : Nat), k ≤ np ∧ v6 = .int .i64 k ∧ v5 = .slice B k d ∧ hh ≤ wr.heap.size ∧ Hid (Mem [Loc.owI (w.heap.size + 1) hh (.slice B k d) (oneR p k), Loc.k4 w.heap.size (.int .i64 n.places) (vt) (.int .i64 n.source) (.int .i64 n.sink), Loc.bl w.heap.size w] wr)) (fun v6 _ _ _ => np - (intOf v6).toNat)
 case atStart => exact ⟨0, none, 0, 0, by omega, rfl, rfl, by omega, Lib.hid ⟨Own.nil _ _ _, M.out.1, M.out.2.1, True.intro⟩⟩
 case round =>
  clear M
  obtain ⟨k, B, d, hh, hk, rfl, rfl, hhs, M⟩ := hrel
  have hk4 := M.out.2.1
  have hz := M.out.2.1.2.2.2.2
  by_cases hlt : k < np
  ·
   have hi : (k : Int) < n.places := by have := HNP.out; omega
   have hol := zsc p k
   have HOL := Lib.hid hol
   clear hol
   have hsn : ∀ x : Int, x = (if (k : Int) = p then 1 else 0) → Hid (oneR p k ++ [x] = oneR p (k + 1)) := fun x hx => Lib.hid (by rw [zvs, hx])
   have HSN := Lib.hid hsn
   clear hsn
   go_wp2_with (at_builtin; refine zec rfl _ _ rfl zhd (fun _ => rfl) oneI rfl rfl (M.out.alloc _) (by (repeat' (first | exact True.intro | refine And.intro (fun k hk e => ?_) ?_)) <;> (first | exact e | ((try dsimp only [Loc.c1, Loc.c2, Loc.k1, Loc.k2, Loc.k3, Loc.k4, Loc.k6, Loc.fr, Loc.bl, Loc.own, Loc.sz, Loc.rd, Loc.rdI, Loc.rdS, Loc.rdM, Loc.rdT, Loc.ow, Loc.owI] at hk e) <;> omega))) (RdI.lit1 _ _ _) (by have := HOL.out; simp; omega) (by have := HOL.out; simp; omega) (by simp; omega) ?_; intro A1 c1 w1 hM1 hs1 hch1; rw [HOL.out] at hM1; replace M := Lib.hid hM1; clear hM1 hch1; (try simp only [World.size_alloc] at hs1))
   all_goals (refine ⟨⟨k + 1, A1, c1, _, by omega, by go_num, by simp [HOL.out], Nat.le_refl _, Lib.hid ?_⟩, by simp [intOf]; omega⟩)
   all_goals
    have hM := M.out
    rw [(HSN.out _ (by go_light; grind)).out] at hM
    simpa using hM
  ·
   obtain rfl : k = np := by omega
   have hi : ¬ (k : Int) < n.places := by have := HNP.out; omega
   go_wp2_with fail
   exact HR.out _ _ (RetL.mk (by rw [← HE.out, zsc]) (HE.out ▸ M.out.1.rd) (by omega) hhs M.out.2.2.1.1)
set_option maxHeartbeats 400000 in
theorem zo3 (n : Net) (np : Nat) (vt : Value) (w : World) (hnp : n.places = np) (h40 : np ≤ 40) (hp : 0 ≤ n.source) :
  Calls Tryz.prog 104 #[netV n vt] w (RetL w (oneL np n.source)) := by
 have HC := Lib.hid (fun W => zz7 n n.source np vt W hnp h40 hp)
 clear hnp hp
 refine zc3 fun R hR => ?_
 have HR := Lib.hid hR
 clear hR
 go_enter Tryz.func104, Tryz.ntmps104
 have M : Hid (Mem [Loc.k4 w.heap.size (.int .i64 n.places) (vt) (.int .i64 n.source) (.int .i64 n.sink), Loc.bl w.heap.size w] (w.alloc (.cells #[.int .i64 n.places, vt, .int .i64 n.source, .int .i64 n.sink] 24))) := Lib.hid ⟨K4.new w _ _ _ _ _, ⟨(Below.refl _ _).alloc (Nat.le_refl _) _, by simp⟩, True.intro⟩
 go_wp2_with (go_at_call 136; refine (HC.out _).mono ?_; rintro e w1 ⟨A1, c1, rfl, hr1, hb1⟩; have HR1 := Lib.hid hr1; replace M := Lib.hid (M.out.below hb1); clear hb1 hr1)
 exact HR.out _ _ ⟨_, _, rfl, (HR1.out.mono (by simp) (Nat.le_refl _)), M.out.2.1.1⟩
set_option maxHeartbeats 400000 in
theorem ztq (n : Net) (np : Nat) (vt : Value) (w : World) (hnp : n.places = np) (h40 : np ≤ 40) (hp : 0 ≤ n.sink) :
  Calls Tryz.prog 107 #[netV n vt] w (RetL w (oneL np n.sink)) := by
 have HC := Lib.hid (fun W => zz7 n n.sink np vt W hnp h40 hp)
 clear hnp hp
 refine zc3 fun R hR => ?_
 have HR := Lib.hid hR
 clear hR
 go_enter Tryz.func107, Tryz.ntmps107
 have M : Hid (Mem [Loc.k4 w.heap.size (.int .i64 n.places) (vt) (.int .i64 n.source) (.int .i64 n.sink), Loc.bl w.heap.size w] (w.alloc (.cells #[.int .i64 n.places, vt, .int .i64 n.source, .int .i64 n.sink] 24))) := Lib.hid ⟨K4.new w _ _ _ _ _, ⟨(Below.refl _ _).alloc (Nat.le_refl _) _, by simp⟩, True.intro⟩
 go_wp2_with (go_at_call 136; refine (HC.out _).mono ?_; rintro e w1 ⟨A1, c1, rfl, hr1, hb1⟩; have HR1 := Lib.hid hr1; replace M := Lib.hid (M.out.below hb1); clear hb1 hr1)
 exact HR.out _ _ ⟨_, _, rfl, (HR1.out.mono (by simp) (Nat.le_refl _)), M.out.2.1.1⟩
def eqLs {α : Type} [DecidableEq α] : List α → List α → Bool
 | [], [] => true
 | x :: a, y :: b => if x = y then eqLs a b else false
 | _, _ => false
theorem zso {α : Type} [DecidableEq α] : ∀ a b : List α, eqLs a b = decide (a = b)
 | [], [] => rfl
 | [], _ :: _ => by simp [eqLs]
 | _ :: _, [] => by simp [eqLs]
 | x :: a, y :: b => by
  rw [eqLs, zso a b]
  by_cases h : x = y <;> simp [h]
theorem zzj {α : Type} [DecidableEq α] {a b : List α} (h : a.length ≠ b.length) : decide (a = b) = false := by
 simp
 intro e
 exact h (by rw [e])
set_option maxHeartbeats 1000000 in
theorem zt6 (a b : List Int) (lo hi lo2 hi2 : Nat) (v1 v2 : Value) (w : World) (h1 : RdI w lo hi v1 a) (h2 : RdI w lo2 hi2 v2 b) :
  Calls Tryz.prog 18 #[v1, v2] w fun e w' => e = .returned (.bool (decide (a = b))) ∧ Below w.heap.size w w' := by
 obtain ⟨A1, c1, rfl, hc1, hm1⟩ := h1.form
 obtain ⟨A2, c2, rfl, hc2, hm2⟩ := h2.form
 have H1 := Lib.hid h1
 have H2 := Lib.hid h2
 clear h1 h2
 refine zc3 fun R hR => ?_
 have HR := Lib.hid hR
 clear hR
 go_enter Tryz.func18, Tryz.ntmps18
 by_cases hl : a.length = b.length
 ·
  have hl' : (a.length : Int) = b.length := by omega
  have HL := Lib.hid hl
  clear hl
  go_wp2_with fail
  go_loopw [13, 5] (fun v13 _ wr => ∃ (k q : Nat), k ≤ a.length ∧ v13 = .int .i64 k ∧ wr = w.drewN q ∧ Hid (decide (a = b) = eqLs (a.drop k) (b.drop k))) (fun v13 _ _ => a.length - (intOf v13).toNat)
  case atStart => exact ⟨0, 0, by omega, rfl, rfl, Lib.hid (by rw [← zso]; rfl)⟩
  case round =>
   obtain ⟨k, q, hk, rfl, rfl, HI⟩ := hrel
   by_cases hlt : k < a.length
   ·
    have hkd : decide ((k : Int) < (a.length : Int)) = true := by simp; omega
    have hkb : (k : Int) < (a.length : Int) := by omega
    have hkc : (k : Int) < (b.length : Int) := by omega
    obtain ⟨b1, o1, rfl, _, _, f1⟩ := RdI.at1 H1.out hlt
    obtain ⟨b2, o2, rfl, _, _, f2⟩ := RdI.at1 H2.out (k := k) (by have := HL.out; omega)
    have HJ : Hid (decide (a = b) = if gti a k = gti b k then eqLs (a.drop (k + 1)) (b.drop (k + 1)) else false) := Lib.hid (by rw [HI.out, zea hlt, zea (l := b) (k := k) (by have := HL.out; omega), eqLs])
    generalize gti a k = x at *
    generalize gti b k = y at *
    go_wp2
    go_quiet (fail)
    go_wp2
    all_goals have hj := HJ.out
    ·
     refine HR.out _ _ ⟨zd0 ?_, below_drewN (below_drewN (Below.refl _ _) _) _⟩
     clear HJ HI; go_light; grind
    all_goals first
     | (refine ⟨⟨k + 1, q + nq, by omega, by go_num, by first | rfl | rw [World.drewN_drewN], Lib.hid (by clear HJ HI; go_light; grind)⟩, by simp [intOf]; omega⟩)
   ·
    have hkd : decide ((k : Int) < (a.length : Int)) = false := by simp; omega
    have HE : Hid (decide (a = b) = true) := Lib.hid (by rw [HI.out, List.drop_eq_nil_of_le (by omega), List.drop_eq_nil_of_le (by have := HL.out; omega)]; rfl)
    clear HI
    go_wp2
    exact HR.out _ _ ⟨zd0 HE.out.symm, below_drewN (Below.refl _ _) _⟩
 ·
  have hl' : ¬ (a.length : Int) = b.length := by omega
  have HL := Lib.hid hl
  clear hl
  go_wp2_with fail
  exact HR.out _ _ ⟨zd0 (zzj HL.out).symm, Below.refl _ _⟩
set_option maxHeartbeats 400000 in
theorem zgf (p : Int) (m : List Int) (lo hi : Nat) (v : Value) (w : World) (hv : RdI w lo hi v m) (hl : m.length ≤ 1000000) :
  Calls Tryz.prog 103 #[.int .i64 p, v] w (RetL w (p :: m)) := by
 obtain ⟨A1, c1, rfl, hc1, hm1⟩ := hv.form
 have HV := Lib.hid hv
 have HL := Lib.hid hl
 clear hv hl
 have M : Hid (Mem [Loc.bl w.heap.size w] w) := Lib.hid ⟨⟨Below.refl _ _, Nat.le_refl _⟩, True.intro⟩
 refine zc3 fun R hR => ?_
 have HR := Lib.hid hR
 clear hR
 go_enter Tryz.func103, Tryz.ntmps103
 go_wp2_with (at_builtin; refine zec rfl _ _ rfl zhd (fun _ => rfl) oneI rfl rfl (Mem.lit1 M.out p) (by (repeat' (first | exact True.intro | refine And.intro (fun k hk e => ?_) ?_)) <;> (first | exact e | ((try dsimp only [Loc.c1, Loc.c2, Loc.k1, Loc.k2, Loc.k3, Loc.k4, Loc.k6, Loc.fr, Loc.bl, Loc.own, Loc.sz, Loc.rd, Loc.rdI, Loc.rdS, Loc.rdM, Loc.rdT, Loc.ow, Loc.owI] at hk e) <;> omega))) (HV.out.after (M.out.1.1.alloc M.out.1.2 _)) (by have := HL.out; simp; omega) (by have := HL.out; simp; omega) (by simp) ?_; intro A1 c1 w1 hM1 hs1 hch1; replace M := Lib.hid hM1; clear hM1 hch1)
 exact HR.out _ _ (RetL.mk (by simp; omega) M.out.1.rd (Nat.le_refl _) (Nat.le_refl _) M.out.2.1.1)
end
section
open Go.RowKit
theorem zou {t e size bytes : Nat} {z : Value} (ti : TI t e size bytes z) (w : World) (A : Option Addr) (n c k : Nat) (hk : k ≤ n) :
  (Instr.slice t (.slice A n c) (some (.int .i64 (k : Int))) none none).run Tryz.prog w = .ok (.slice (if c = k then A else A.map (·.add (k * size))) (n - k) (c - k)) w := by
 obtain ⟨i, ht, hi0, hz, hsize, hby, hzs, hsz⟩ := ti
 simp [Instr.slice, run_underlying ht, Instr.sliceBounds, Instr.sliceBound, asIntOf, sizeOf, typeInfo, hi0, hsize, hk]
theorem Rd.dropped {α : Type} {size : Nat} {enc : α → List Value} {w : World} {lo hi : Nat} {A : Option Addr} {c : Nat} {l : List α} (h : Rd size enc w lo hi (.slice A l.length c) l) (he : ∀ a, (enc a).length = size) (k : Nat) (hk : k ≤ l.length) (hc : l.length ≤ c) :
  Rd size enc w lo hi (.slice (if c = k then A else A.map (·.add (k * size))) (l.drop k).length (c - k)) (l.drop k) := by
 have hlen := h.form
 obtain ⟨A', c', e, _, h63⟩ := hlen
 refine ⟨zek he _, _, _, rfl, by simp; omega, by simp [maxLen]; omega, fun hn => ?_⟩
 obtain ⟨b, off, rfl, h1, h2, hcell⟩ := RdC.cells h (by simp at hn; omega)
 have hck : ¬ c = k := by simp at hn; omega
 refine ⟨b, off + k * size, by rw [if_neg hck]; simp [zrp], h1, h2, fun j u hu => ?_⟩
 have := hcell (k * size + j) u (by
  have hsplit : l.flatMap enc = (l.take k).flatMap enc ++ (l.drop k).flatMap enc := by rw [← List.flatMap_append, List.take_append_drop]
  have hlt : (l.take k).length = k := by simp; omega
  rw [hsplit, List.getElem?_append_right (by rw [zek he, hlt]; omega), zek he, hlt]
  simpa using hu)
 rw [Nat.add_assoc]
 exact this
theorem RdI.tail1 {w : World} {lo hi : Nat} {A : Option Addr} {c : Nat} {l : List Int} (h : RdI w lo hi (.slice A l.length c) l) (hl : 1 ≤ l.length) (hc : l.length ≤ c) :
  ∃ A' c', (∀ W : World, (Instr.slice 29 (.slice A l.length c) (some (.int .i64 1)) none none).run Tryz.prog W = .ok (.slice A' (l.drop 1).length c') W) ∧ RdI w lo hi (.slice A' (l.drop 1).length c') (l.drop 1) := by
 refine ⟨_, _, fun W => ?_, Rd.dropped h (fun _ => rfl) 1 hl hc⟩
 have := zou zhd W A l.length c 1 hl
 rw [List.length_drop]
 exact this
theorem toList_inj {x a : ByteArray} : x.toList = a.toList ↔ x = a := by
 rw [ByteArray.toList_eq, ByteArray.toList_eq]
 constructor
 ·
  intro h
  exact ByteArray.ext (Array.toList_inj.1 h)
 ·
  intro h; rw [h]
theorem zmj (x a : ByteArray) : (x.toList == a.toList) = decide (x = a) := by
 rw [Bool.eq_iff_iff]; simp [toList_inj]
theorem zmi (x a : ByteArray) : decide (x.toList = a.toList) = decide (x = a) := by simp [toList_inj]
def atB (w : List ByteArray) (k : Int) (a : ByteArray) : Bool := decide (k < w.length) && decide (gti w k.toNat = a)
set_option maxHeartbeats 400000 in
theorem zxk (l : List ByteArray) (k : Int) (a : ByteArray) (lo hi : Nat) (v : Value) (w : World) (hv : RdS w lo hi v l) (hk : 0 ≤ k) :
  Calls Tryz.prog 116 #[v, .int .i64 k, .string a] w fun e w' => e = .returned (.bool (atB l k a)) ∧ Below w.heap.size w w' := by
 obtain ⟨A, c, rfl, hc, hm⟩ := hv.form
 obtain ⟨j, rfl⟩ : ∃ j : Nat, k = j := ⟨k.toNat, by omega⟩
 by_cases hlt : j < l.length
 ·
  obtain ⟨b, off, rfl, _, _, hcell⟩ := RdS.at1 hv hlt
  have HV := Lib.hid hv
  clear hv hk
  have hlt' : (j : Int) < l.length := by omega
  have HE : Hid (atB l j a = decide (gti l j = a)) := Lib.hid (by simp [atB, hlt])
  generalize gti l j = x at *
  refine zc3 fun R hR => ?_
  have HR := Lib.hid hR
  clear hR
  go_enter Tryz.func116, Tryz.ntmps116
  go_wp2_with fail
  all_goals (refine HR.out _ _ ⟨zd0 ?_, Below.refl _ _⟩ <;> (first | exact HE.out.symm | (rw [HE.out]; go_light; first | rfl | exact zmj _ _ | exact zmi _ _ | grind [toList_inj])))
 ·
  have hlt' : ¬ (j : Int) < l.length := by omega
  have HE : Hid (atB l j a = false) := Lib.hid (by simp [atB, hlt])
  clear hv hk
  refine zc3 fun R hR => ?_
  have HR := Lib.hid hR
  clear hR
  go_enter Tryz.func116, Tryz.ntmps116
  go_wp2_with fail
  all_goals (refine HR.out _ _ ⟨zd0 ?_, Below.refl _ _⟩ <;> (first | exact HE.out.symm | (rw [HE.out]; go_light; first | rfl | exact zmj _ _ | exact zmi _ _ | grind [toList_inj])))
def allN : List ByteArray → Bool
 | [] => true
 | a :: l => if zgj a then allN l else false
theorem zxq : ∀ l, allN l = l.all zgj
 | [] => rfl
 | a :: l => by rw [allN, zxq l, List.all_cons]; cases zgj a <;> rfl
set_option maxHeartbeats 1000000 in
theorem zvv (l : List ByteArray) (lo hi : Nat) (v : Value) (w : World) (hv : RdS w lo hi v l) :
  Calls Tryz.prog 77 #[v] w fun e w' => e = .returned (.bool (allN l)) ∧ Below w.heap.size w w' := by
 obtain ⟨A, c, rfl, hc, hm⟩ := hv.form
 have HV := Lib.hid hv
 clear hv
 have M : Hid (Mem [Loc.bl w.heap.size w] w) := Lib.hid ⟨⟨Below.refl _ _, Nat.le_refl _⟩, True.intro⟩
 refine zc3 fun R hR => ?_
 have HR := Lib.hid hR
 clear hR
 go_enter Tryz.func77, Tryz.ntmps77
 go_wp2_with fail
 go_loopw [3] (fun v3 wr => ∃ k : Nat, k ≤ l.length ∧ v3 = .int .i64 k ∧ Hid (allN l = allN (l.drop k)) ∧ Hid (Mem [Loc.bl w.heap.size w] wr)) (fun v3 _ => l.length - (intOf v3).toNat)
 case atStart => exact ⟨0, by omega, rfl, Lib.hid rfl, M⟩
 case round =>
  clear M
  obtain ⟨k, hk, rfl, HI, M⟩ := hrel
  by_cases hlt : k < l.length
  ·
   obtain ⟨b, off, rfl, _, _, hcell⟩ := RdS.at1 (HV.out.after M.out.1.1) hlt
   have HJ : Hid (allN l = if zgj (gti l k) then allN (l.drop (k + 1)) else false) := Lib.hid (by rw [HI.out, zea hlt, allN])
   generalize gti l k = x at *
   go_wp2_with (go_at_call 75; refine (zfz _ _).mono ?_; rintro e w1 ⟨rfl, hb1⟩; replace M := Lib.hid (M.out.below hb1); clear hb1; skip)
   all_goals have hj := HJ.out
   all_goals first
    | ((with_reducible refine HR.out _ _ ⟨?_, ?_⟩) <;> first | exact zd0 (by clear HJ HI; go_light; grind) | exact M.out.1.1)
    | (refine ⟨⟨k + 1, by omega, by go_num, Lib.hid (by clear HJ HI; go_light; grind), M⟩, by simp [intOf]; omega⟩)
  ·
   obtain rfl : k = l.length := by omega
   have HE : Hid (allN l = true) := Lib.hid (by rw [HI.out]; simp [allN])
   clear HI
   go_wp2_with fail
   all_goals ((with_reducible refine HR.out _ _ ⟨?_, ?_⟩) <;> first | exact zd0 (by rw [HE.out]) | exact M.out.1.1)
set_option maxHeartbeats 400000 in
theorem zk8 (l : List ByteArray) (lo hi : Nat) (v : Value) (w : World) (hv : RdS w lo hi v l) :
  Calls Tryz.prog 21 #[v] w fun e w' => e = .returned (.bool (zew l)) ∧ Below w.heap.size w w' := by
 obtain ⟨A, c, rfl, hc, hm⟩ := hv.form
 have HV := Lib.hid hv
 clear hv
 have HE : Hid (zew l = (decide ((l.length : Int) ≤ 200) && allN l)) := Lib.hid (by rw [zew, zxq]; congr 1; simp; omega)
 have M : Hid (Mem [Loc.bl w.heap.size w] w) := Lib.hid ⟨⟨Below.refl _ _, Nat.le_refl _⟩, True.intro⟩
 refine zc3 fun R hR => ?_
 have HR := Lib.hid hR
 clear hR
 go_enter Tryz.func21, Tryz.ntmps21
 go_wp2_with (go_at_call 77; refine (zvv l lo hi _ _ (HV.out.after M.out.1.1)).mono ?_; rintro e w1 ⟨rfl, hb1⟩; replace M := Lib.hid (M.out.below hb1); clear hb1; skip)
 all_goals ((with_reducible refine HR.out _ _ ⟨?_, ?_⟩) <;> first | exact zd0 (by rw [HE.out]; go_light; grind) | exact M.out.1.1)
theorem zgo {l : List ByteArray} {b : Bool} (hb : zew l = b) (lo hi : Nat) (v : Value) (w : World) (hv : RdS w lo hi v l) :
  Calls Tryz.prog 102 #[v] w fun e w' => e = .returned (.bool b) ∧ Below w.heap.size w w' := hb ▸ zm1 l lo hi v w hv
theorem zcg {l : List ByteArray} {b : Bool} (hb : zew l = b) (lo hi : Nat) (v : Value) (w : World) (hv : RdS w lo hi v l) :
  Calls Tryz.prog 21 #[v] w fun e w' => e = .returned (.bool b) ∧ Below w.heap.size w w' := hb ▸ zk8 l lo hi v w hv
def zd9 (n : Net) (w : List ByteArray) : List Int × Int := if zd5 n && zew w then (0 :: oneL n.places.toNat n.source, 0) else ([], 1)
def endE (n : Net) (w : List ByteArray) : List Int × Int := if zd5 n && zew w then (w.length :: oneL n.places.toNat n.sink, 0) else ([], 1)
theorem zg1 (k : Nat) (p : Int) : (oneL k p).length = k := by simp [oneL]
theorem zo9 {n : Net} (h : zd5 n = true) (p : Int) : oneE n p = (oneL n.places.toNat p, 0) := by rw [oneE, h]; rfl
theorem zmv {n : Net} (h : zd5 n = false) (p : Int) : oneE n p = ([], 1) := by rw [oneE, h]; rfl
theorem RetI.of {w : World} {r r' : List Int × Int} {e : Ending} {w' : World} (h : RetI w r e w') (hr : r = r') : RetI w r' e w' := hr ▸ h
set_option maxHeartbeats 1000000 in
theorem zxu (n : Net) (l : List ByteArray) (vt v : Value) (lo hi lo' hi' : Nat) (w : World) (hv : RdT w lo hi vt n.trans) (hw : RdS w lo' hi' v l) :
  Calls Tryz.prog 51 #[netV n vt, v] w (RetI w (zd9 n l)) := by
 obtain ⟨A, c, rfl, hc, hmm⟩ := hv.form
 obtain ⟨A2, c2, rfl, hc2, hmm2⟩ := hw.form
 have HV := Lib.hid hv
 have HW := Lib.hid hw
 clear hv hw
 cases hvb : zd5 n with
 | false =>
  have HVB := Lib.hid hvb
  have HO := Lib.hid (zmv hvb n.source)
  clear hvb
  refine zc3 fun R hR => ?_
  have HR := Lib.hid hR
  clear hR
  go_enter Tryz.func51, Tryz.ntmps51
  have M : Hid (Mem [Loc.k4 w.heap.size (.int .i64 n.places) (.slice A n.trans.length c) (.int .i64 n.source) (.int .i64 n.sink), Loc.bl w.heap.size w] (w.alloc (.cells #[.int .i64 n.places, .slice A n.trans.length c, .int .i64 n.source, .int .i64 n.sink] 24))) := Lib.hid ⟨K4.new w _ _ _ _ _, ⟨(Below.refl _ _).alloc (Nat.le_refl _) _, by simp⟩, True.intro⟩
  have hk4 := M.out.1
  go_wp2_with (first
   | (go_at_call 38; refine (zim n _ lo hi _ (HV.out.after M.out.2.1.1)).mono ?_; rintro e w1 hret; replace hret := hret.of HO.out; obtain ⟨A1, c1, rfl, hr1, hb1⟩ := hret; replace M := Lib.hid (M.out.below hb1); replace hk4 := M.out.1; clear hb1 hr1))
  exact HR.out _ _ (RetI.nil (by rw [zd9, HVB.out]; rfl) M.out.2.1.1)
 | true =>
  have HVB := Lib.hid hvb
  have HO := Lib.hid (zo9 hvb n.source)
  have hpl := zdy hvb
  have HPL := Lib.hid hpl
  clear hvb hpl
  cases hwb : zew l with
  | false =>
   have HWB := Lib.hid hwb
   clear hwb
   refine zc3 fun R hR => ?_
   have HR := Lib.hid hR
   clear hR
   go_enter Tryz.func51, Tryz.ntmps51
   have M : Hid (Mem [Loc.k4 w.heap.size (.int .i64 n.places) (.slice A n.trans.length c) (.int .i64 n.source) (.int .i64 n.sink), Loc.bl w.heap.size w] (w.alloc (.cells #[.int .i64 n.places, .slice A n.trans.length c, .int .i64 n.source, .int .i64 n.sink] 24))) := Lib.hid ⟨K4.new w _ _ _ _ _, ⟨(Below.refl _ _).alloc (Nat.le_refl _) _, by simp⟩, True.intro⟩
   have hk4 := M.out.1
   go_wp2_with (first
    | (go_at_call 38; refine (zim n _ lo hi _ (HV.out.after M.out.2.1.1)).mono ?_; rintro e w1 hret; replace hret := hret.of HO.out; obtain ⟨A1, c1, rfl, hr1, hb1⟩ := hret; replace M := Lib.hid (M.out.below hb1); replace hk4 := M.out.1; clear hb1 hr1)
    | (go_at_call 102; refine (zgo HWB.out lo' hi' _ _ (HW.out.after M.out.2.1.1)).mono ?_; rintro e w1 ⟨rfl, hb1⟩; replace M := Lib.hid (M.out.below hb1); clear hb1; skip))
   exact HR.out _ _ (RetI.nil (by rw [zd9, HVB.out, HWB.out]; rfl) M.out.2.1.1)
  | true =>
   have HWB := Lib.hid hwb
   clear hwb
   refine zc3 fun R hR => ?_
   have HR := Lib.hid hR
   clear hR
   go_enter Tryz.func51, Tryz.ntmps51
   have M : Hid (Mem [Loc.k4 w.heap.size (.int .i64 n.places) (.slice A n.trans.length c) (.int .i64 n.source) (.int .i64 n.sink), Loc.bl w.heap.size w] (w.alloc (.cells #[.int .i64 n.places, .slice A n.trans.length c, .int .i64 n.source, .int .i64 n.sink] 24))) := Lib.hid ⟨K4.new w _ _ _ _ _, ⟨(Below.refl _ _).alloc (Nat.le_refl _) _, by simp⟩, True.intro⟩
   have hk4 := M.out.1
   go_wp2_with (first
    | (go_at_call 38; refine (zim n _ lo hi _ (HV.out.after M.out.2.1.1)).mono ?_; rintro e w1 hret; replace hret := hret.of HO.out; obtain ⟨A1, c1, rfl, hr1, hb1⟩ := hret; have HR1 := Lib.hid hr1; have hz1 := M.out.2.1.2; replace M := Lib.hid (Mem.cons (a := Loc.rdI _ _ _ _) hr1 (M.out.below hb1)); replace hk4 := M.out.2.1; clear hb1 hr1)
    | (go_at_call 102; refine (zgo HWB.out lo' hi' _ _ (HW.out.after M.out.2.2.1.1)).mono ?_; rintro e w1 ⟨rfl, hb1⟩; replace M := Lib.hid (M.out.below hb1); clear hb1; have hz2 := M.out.2.2.1.2)
    | (at_builtin; refine zec rfl _ _ rfl zhd (fun _ => rfl) oneI rfl rfl (Mem.lit1 M.out.2.2 0) (by (repeat' (first | exact True.intro | refine And.intro (fun k hk e => ?_) ?_)) <;> (first | exact e | ((try dsimp only [Loc.c1, Loc.c2, Loc.k1, Loc.k2, Loc.k3, Loc.k4, Loc.k6, Loc.fr, Loc.bl, Loc.own, Loc.sz, Loc.rd, Loc.rdI, Loc.rdS, Loc.rdM, Loc.rdT, Loc.ow, Loc.owI] at hk e) <;> omega))) (M.out.1.after ((Below.refl _ _).alloc (Nat.le_refl _) _)) (by have := HPL.out; simp [zg1]; omega) (by have := HPL.out; simp [zg1]; omega) (by simp) ?_; intro A1 c1 w9 hM1 hs1 hch1; replace M := Lib.hid hM1; clear hM1 hch1))
   exact HR.out _ _ (RetI.mk (l := 0 :: oneL n.places.toNat n.source) (by rw [zd9, HVB.out, HWB.out]; rfl) (by simp; omega) M.out.1.rd hz2 (Nat.le_refl _) M.out.2.1.1)
set_option maxHeartbeats 1000000 in
theorem z2n (n : Net) (l : List ByteArray) (vt v : Value) (lo hi lo' hi' : Nat) (w : World) (hv : RdT w lo hi vt n.trans) (hw : RdS w lo' hi' v l) :
  Calls Tryz.prog 71 #[netV n vt, v] w (RetI w (endE n l)) := by
 obtain ⟨A, c, rfl, hc, hmm⟩ := hv.form
 obtain ⟨A2, c2, rfl, hc2, hmm2⟩ := hw.form
 have HV := Lib.hid hv
 have HW := Lib.hid hw
 clear hv hw
 cases hvb : zd5 n with
 | false =>
  have HVB := Lib.hid hvb
  have HO := Lib.hid (zmv hvb n.sink)
  clear hvb
  refine zc3 fun R hR => ?_
  have HR := Lib.hid hR
  clear hR
  go_enter Tryz.func71, Tryz.ntmps71
  have M : Hid (Mem [Loc.k4 w.heap.size (.int .i64 n.places) (.slice A n.trans.length c) (.int .i64 n.source) (.int .i64 n.sink), Loc.bl w.heap.size w] (w.alloc (.cells #[.int .i64 n.places, .slice A n.trans.length c, .int .i64 n.source, .int .i64 n.sink] 24))) := Lib.hid ⟨K4.new w _ _ _ _ _, ⟨(Below.refl _ _).alloc (Nat.le_refl _) _, by simp⟩, True.intro⟩
  have hk4 := M.out.1
  go_wp2_with (first
   | (go_at_call 39; refine (zlu n _ lo hi _ (HV.out.after M.out.2.1.1)).mono ?_; rintro e w1 hret; replace hret := hret.of HO.out; obtain ⟨A1, c1, rfl, hr1, hb1⟩ := hret; replace M := Lib.hid (M.out.below hb1); replace hk4 := M.out.1; clear hb1 hr1))
  exact HR.out _ _ (RetI.nil (by rw [endE, HVB.out]; rfl) M.out.2.1.1)
 | true =>
  have HVB := Lib.hid hvb
  have HO := Lib.hid (zo9 hvb n.sink)
  have hpl := zdy hvb
  have HPL := Lib.hid hpl
  clear hvb hpl
  cases hwb : zew l with
  | false =>
   have HWB := Lib.hid hwb
   clear hwb
   refine zc3 fun R hR => ?_
   have HR := Lib.hid hR
   clear hR
   go_enter Tryz.func71, Tryz.ntmps71
   have M : Hid (Mem [Loc.k4 w.heap.size (.int .i64 n.places) (.slice A n.trans.length c) (.int .i64 n.source) (.int .i64 n.sink), Loc.bl w.heap.size w] (w.alloc (.cells #[.int .i64 n.places, .slice A n.trans.length c, .int .i64 n.source, .int .i64 n.sink] 24))) := Lib.hid ⟨K4.new w _ _ _ _ _, ⟨(Below.refl _ _).alloc (Nat.le_refl _) _, by simp⟩, True.intro⟩
   have hk4 := M.out.1
   go_wp2_with (first
    | (go_at_call 39; refine (zlu n _ lo hi _ (HV.out.after M.out.2.1.1)).mono ?_; rintro e w1 hret; replace hret := hret.of HO.out; obtain ⟨A1, c1, rfl, hr1, hb1⟩ := hret; replace M := Lib.hid (M.out.below hb1); replace hk4 := M.out.1; clear hb1 hr1)
    | (go_at_call 102; refine (zgo HWB.out lo' hi' _ _ (HW.out.after M.out.2.1.1)).mono ?_; rintro e w1 ⟨rfl, hb1⟩; replace M := Lib.hid (M.out.below hb1); clear hb1; skip))
   exact HR.out _ _ (RetI.nil (by rw [endE, HVB.out, HWB.out]; rfl) M.out.2.1.1)
  | true =>
   have HWB := Lib.hid hwb
   clear hwb
   refine zc3 fun R hR => ?_
   have HR := Lib.hid hR
   clear hR
   go_enter Tryz.func71, Tryz.ntmps71
   have M : Hid (Mem [Loc.k4 w.heap.size (.int .i64 n.places) (.slice A n.trans.length c) (.int .i64 n.source) (.int .i64 n.sink), Loc.bl w.heap.size w] (w.alloc (.cells #[.int .i64 n.places, .slice A n.trans.length c, .int .i64 n.source, .int .i64 n.sink] 24))) := Lib.hid ⟨K4.new w _ _ _ _ _, ⟨(Below.refl _ _).alloc (Nat.le_refl _) _, by simp⟩, True.intro⟩
   have hk4 := M.out.1
   go_wp2_with (first
    | (go_at_call 39; refine (zlu n _ lo hi _ (HV.out.after M.out.2.1.1)).mono ?_; rintro e w1 hret; replace hret := hret.of HO.out; obtain ⟨A1, c1, rfl, hr1, hb1⟩ := hret; have HR1 := Lib.hid hr1; have hz1 := M.out.2.1.2; replace M := Lib.hid (Mem.cons (a := Loc.rdI _ _ _ _) hr1 (M.out.below hb1)); replace hk4 := M.out.2.1; clear hb1 hr1)
    | (go_at_call 102; refine (zgo HWB.out lo' hi' _ _ (HW.out.after M.out.2.2.1.1)).mono ?_; rintro e w1 ⟨rfl, hb1⟩; replace M := Lib.hid (M.out.below hb1); clear hb1; have hz2 := M.out.2.2.1.2)
    | (at_builtin; refine zec rfl _ _ rfl zhd (fun _ => rfl) oneI rfl rfl (Mem.lit1 M.out.2.2 (l.length : Int)) (by (repeat' (first | exact True.intro | refine And.intro (fun k hk e => ?_) ?_)) <;> (first | exact e | ((try dsimp only [Loc.c1, Loc.c2, Loc.k1, Loc.k2, Loc.k3, Loc.k4, Loc.k6, Loc.fr, Loc.bl, Loc.own, Loc.sz, Loc.rd, Loc.rdI, Loc.rdS, Loc.rdM, Loc.rdT, Loc.ow, Loc.owI] at hk e) <;> omega))) (M.out.1.after ((Below.refl _ _).alloc (Nat.le_refl _) _)) (by have := HPL.out; simp [zg1]; omega) (by have := HPL.out; simp [zg1]; omega) (by simp) ?_; intro A1 c1 w9 hM1 hs1 hch1; replace M := Lib.hid hM1; clear hM1 hch1))
   exact HR.out _ _ (RetI.mk (l := (l.length : Int) :: oneL n.places.toNat n.sink) (by rw [endE, HVB.out, HWB.out]; rfl) (by simp; omega) M.out.1.rd hz2 (Nat.le_refl _) M.out.2.1.1)
set_option maxHeartbeats 1000000 in
theorem zto (n : Net) (l : List ByteArray) (vt v : Value) (lo hi lo' hi' : Nat) (w : World) (hv : RdT w lo hi vt n.trans) (hw : RdS w lo' hi' v l) :
  Calls Tryz.prog 54 #[netV n vt, v] w (RetI w (zd9 n l)) := by
 obtain ⟨A, c, rfl, hc, hmm⟩ := hv.form
 obtain ⟨A2, c2, rfl, hc2, hmm2⟩ := hw.form
 have HV := Lib.hid hv
 have HW := Lib.hid hw
 clear hv hw
 cases hvb : zd5 n with
 | false =>
  have HVB := Lib.hid hvb
  clear hvb
  refine zc3 fun R hR => ?_
  have HR := Lib.hid hR
  clear hR
  go_enter Tryz.func54, Tryz.ntmps54
  have M : Hid (Mem [Loc.k4 w.heap.size (.int .i64 n.places) (.slice A n.trans.length c) (.int .i64 n.source) (.int .i64 n.sink), Loc.bl w.heap.size w] (w.alloc (.cells #[.int .i64 n.places, .slice A n.trans.length c, .int .i64 n.source, .int .i64 n.sink] 24))) := Lib.hid ⟨K4.new w _ _ _ _ _, ⟨(Below.refl _ _).alloc (Nat.le_refl _) _, by simp⟩, True.intro⟩
  have hk4 := M.out.1
  go_wp2_with (go_at_call 20; refine (zee HVB.out _ lo hi _ (HV.out.after M.out.2.1.1)).mono ?_; rintro e w1 ⟨rfl, hb1⟩; replace M := Lib.hid (M.out.below hb1); clear hb1; replace hk4 := M.out.1)
  exact HR.out _ _ (RetI.nil (by rw [zd9, HVB.out]; rfl) M.out.2.1.1)
 | true =>
  have HVB := Lib.hid hvb
  have hpl := zdy hvb
  have HPL := Lib.hid hpl
  have HIN := Lib.hid (fun W => zo3 n n.places.toNat (.slice A n.trans.length c) W (by omega) (by omega) (zgt hvb).1.1)
  clear hvb hpl
  cases hwb : zew l with
  | false =>
   have HWB := Lib.hid hwb
   clear hwb
   refine zc3 fun R hR => ?_
   have HR := Lib.hid hR
   clear hR
   go_enter Tryz.func54, Tryz.ntmps54
   have M : Hid (Mem [Loc.k4 w.heap.size (.int .i64 n.places) (.slice A n.trans.length c) (.int .i64 n.source) (.int .i64 n.sink), Loc.bl w.heap.size w] (w.alloc (.cells #[.int .i64 n.places, .slice A n.trans.length c, .int .i64 n.source, .int .i64 n.sink] 24))) := Lib.hid ⟨K4.new w _ _ _ _ _, ⟨(Below.refl _ _).alloc (Nat.le_refl _) _, by simp⟩, True.intro⟩
   have hk4 := M.out.1
   go_wp2_with (first
    | (go_at_call 20; refine (zee HVB.out _ lo hi _ (HV.out.after M.out.2.1.1)).mono ?_; rintro e w1 ⟨rfl, hb1⟩; replace M := Lib.hid (M.out.below hb1); clear hb1; replace hk4 := M.out.1)
    | (go_at_call 21; refine (zcg HWB.out lo' hi' _ _ (HW.out.after M.out.2.1.1)).mono ?_; rintro e w1 ⟨rfl, hb1⟩; replace M := Lib.hid (M.out.below hb1); clear hb1; replace hk4 := M.out.1))
   exact HR.out _ _ (RetI.nil (by rw [zd9, HVB.out, HWB.out]; rfl) M.out.2.1.1)
  | true =>
   have HWB := Lib.hid hwb
   clear hwb
   refine zc3 fun R hR => ?_
   have HR := Lib.hid hR
   clear hR
   go_enter Tryz.func54, Tryz.ntmps54
   have M : Hid (Mem [Loc.k4 w.heap.size (.int .i64 n.places) (.slice A n.trans.length c) (.int .i64 n.source) (.int .i64 n.sink), Loc.bl w.heap.size w] (w.alloc (.cells #[.int .i64 n.places, .slice A n.trans.length c, .int .i64 n.source, .int .i64 n.sink] 24))) := Lib.hid ⟨K4.new w _ _ _ _ _, ⟨(Below.refl _ _).alloc (Nat.le_refl _) _, by simp⟩, True.intro⟩
   have hk4 := M.out.1
   go_wp2_with (first
    | (go_at_call 20; refine (zee HVB.out _ lo hi _ (HV.out.after M.out.2.1.1)).mono ?_; rintro e w1 ⟨rfl, hb1⟩; replace M := Lib.hid (M.out.below hb1); clear hb1; replace hk4 := M.out.1)
    | (go_at_call 21; refine (zcg HWB.out lo' hi' _ _ (HW.out.after M.out.2.1.1)).mono ?_; rintro e w1 ⟨rfl, hb1⟩; replace M := Lib.hid (M.out.below hb1); clear hb1; replace hk4 := M.out.1)
    | (go_at_call 104; refine (HIN.out _).mono ?_; rintro e w5 ⟨A5, c5, rfl, hr5, hb5⟩; have HR5 := Lib.hid hr5; replace M := Lib.hid (M.out.below hb5); have hz5 := M.out.2.1.2; clear hb5 hr5)
    | (go_at_call 103; refine (zgf _ _ _ _ _ _ HR5.out (by have := HPL.out; rw [zg1]; omega)).mono ?_; rintro e w6 ⟨A6, c6, rfl, hr6, hb6⟩; have HR6 := Lib.hid hr6; replace M := Lib.hid (M.out.below hb6); clear hb6 hr6))
   exact HR.out _ _ (RetI.mk (l := 0 :: oneL n.places.toNat n.source) (by rw [zd9, HVB.out, HWB.out]; rfl) rfl HR6.out hz5 (Nat.le_refl _) M.out.2.1.1)
set_option maxHeartbeats 1000000 in
theorem zyg (n : Net) (l : List ByteArray) (vt v : Value) (lo hi lo' hi' : Nat) (w : World) (hv : RdT w lo hi vt n.trans) (hw : RdS w lo' hi' v l) :
  Calls Tryz.prog 59 #[netV n vt, v] w (RetI w (endE n l)) := by
 obtain ⟨A, c, rfl, hc, hmm⟩ := hv.form
 obtain ⟨A2, c2, rfl, hc2, hmm2⟩ := hw.form
 have HV := Lib.hid hv
 have HW := Lib.hid hw
 clear hv hw
 cases hvb : zd5 n with
 | false =>
  have HVB := Lib.hid hvb
  clear hvb
  refine zc3 fun R hR => ?_
  have HR := Lib.hid hR
  clear hR
  go_enter Tryz.func59, Tryz.ntmps59
  have M : Hid (Mem [Loc.k4 w.heap.size (.int .i64 n.places) (.slice A n.trans.length c) (.int .i64 n.source) (.int .i64 n.sink), Loc.bl w.heap.size w] (w.alloc (.cells #[.int .i64 n.places, .slice A n.trans.length c, .int .i64 n.source, .int .i64 n.sink] 24))) := Lib.hid ⟨K4.new w _ _ _ _ _, ⟨(Below.refl _ _).alloc (Nat.le_refl _) _, by simp⟩, True.intro⟩
  have hk4 := M.out.1
  go_wp2_with (go_at_call 20; refine (zee HVB.out _ lo hi _ (HV.out.after M.out.2.1.1)).mono ?_; rintro e w1 ⟨rfl, hb1⟩; replace M := Lib.hid (M.out.below hb1); clear hb1; replace hk4 := M.out.1)
  exact HR.out _ _ (RetI.nil (by rw [endE, HVB.out]; rfl) M.out.2.1.1)
 | true =>
  have HVB := Lib.hid hvb
  have hpl := zdy hvb
  have HPL := Lib.hid hpl
  have HIN := Lib.hid (fun W => ztq n n.places.toNat (.slice A n.trans.length c) W (by omega) (by omega) (zgt hvb).2.1)
  clear hvb hpl
  cases hwb : zew l with
  | false =>
   have HWB := Lib.hid hwb
   clear hwb
   refine zc3 fun R hR => ?_
   have HR := Lib.hid hR
   clear hR
   go_enter Tryz.func59, Tryz.ntmps59
   have M : Hid (Mem [Loc.k4 w.heap.size (.int .i64 n.places) (.slice A n.trans.length c) (.int .i64 n.source) (.int .i64 n.sink), Loc.bl w.heap.size w] (w.alloc (.cells #[.int .i64 n.places, .slice A n.trans.length c, .int .i64 n.source, .int .i64 n.sink] 24))) := Lib.hid ⟨K4.new w _ _ _ _ _, ⟨(Below.refl _ _).alloc (Nat.le_refl _) _, by simp⟩, True.intro⟩
   have hk4 := M.out.1
   go_wp2_with (first
    | (go_at_call 20; refine (zee HVB.out _ lo hi _ (HV.out.after M.out.2.1.1)).mono ?_; rintro e w1 ⟨rfl, hb1⟩; replace M := Lib.hid (M.out.below hb1); clear hb1; replace hk4 := M.out.1)
    | (go_at_call 21; refine (zcg HWB.out lo' hi' _ _ (HW.out.after M.out.2.1.1)).mono ?_; rintro e w1 ⟨rfl, hb1⟩; replace M := Lib.hid (M.out.below hb1); clear hb1; replace hk4 := M.out.1))
   exact HR.out _ _ (RetI.nil (by rw [endE, HVB.out, HWB.out]; rfl) M.out.2.1.1)
  | true =>
   have HWB := Lib.hid hwb
   clear hwb
   refine zc3 fun R hR => ?_
   have HR := Lib.hid hR
   clear hR
   go_enter Tryz.func59, Tryz.ntmps59
   have M : Hid (Mem [Loc.k4 w.heap.size (.int .i64 n.places) (.slice A n.trans.length c) (.int .i64 n.source) (.int .i64 n.sink), Loc.bl w.heap.size w] (w.alloc (.cells #[.int .i64 n.places, .slice A n.trans.length c, .int .i64 n.source, .int .i64 n.sink] 24))) := Lib.hid ⟨K4.new w _ _ _ _ _, ⟨(Below.refl _ _).alloc (Nat.le_refl _) _, by simp⟩, True.intro⟩
   have hk4 := M.out.1
   go_wp2_with (first
    | (go_at_call 20; refine (zee HVB.out _ lo hi _ (HV.out.after M.out.2.1.1)).mono ?_; rintro e w1 ⟨rfl, hb1⟩; replace M := Lib.hid (M.out.below hb1); clear hb1; replace hk4 := M.out.1)
    | (go_at_call 21; refine (zcg HWB.out lo' hi' _ _ (HW.out.after M.out.2.1.1)).mono ?_; rintro e w1 ⟨rfl, hb1⟩; replace M := Lib.hid (M.out.below hb1); clear hb1; replace hk4 := M.out.1)
    | (go_at_call 107; refine (HIN.out _).mono ?_; rintro e w5 ⟨A5, c5, rfl, hr5, hb5⟩; have HR5 := Lib.hid hr5; replace M := Lib.hid (M.out.below hb5); have hz5 := M.out.2.1.2; clear hb5 hr5)
    | (go_at_call 103; refine (zgf _ _ _ _ _ _ HR5.out (by have := HPL.out; rw [zg1]; omega)).mono ?_; rintro e w6 ⟨A6, c6, rfl, hr6, hb6⟩; have HR6 := Lib.hid hr6; replace M := Lib.hid (M.out.below hb6); clear hb6 hr6))
   exact HR.out _ _ (RetI.mk (l := (l.length : Int) :: oneL n.places.toNat n.sink) (by rw [endE, HVB.out, HWB.out]; rfl) rfl HR6.out hz5 (Nat.le_refl _) M.out.2.1.1)
end
section
open Go.RowKit
theorem C1.aft {w W : World} {b o : Nat} {x : Value} (hb : Below w.heap.size w W) (h : C1 w b o x) : C1 W b o x := (hb.cell (p := ⟨b, o, none⟩) (World.block_lt_of_cell? _ _ h)).trans h
def zd3 (n : Net) (w : List ByteArray) (s : List Int) : Bool := zew w && decide (1 ≤ s.length) && decide (0 ≤ gti s 0) && decide (gti s 0 ≤ w.length) && zep n (s.drop 1)
theorem zce {n : Net} {w : List ByteArray} {s : List Int} : zd3 n w s = true ↔ zew w = true ∧ 1 ≤ s.length ∧ 0 ≤ gti s 0 ∧ gti s 0 ≤ w.length ∧ zep n (s.drop 1) = true := by
 simp [zd3, and_assoc]
theorem zn0 (n : Net) (m : List Int) : (zi9 n m).2 = if zep n m then 0 else 1 := by
 unfold zi9; split <;> rfl
set_option maxRecDepth 100000 in
set_option maxHeartbeats 2000000 in
theorem zq5 (n : Net) (l : List ByteArray) (s : List Int) (vt v vs : Value) (lo hi lo' hi' lo2 hi2 : Nat) (w : World) (hv : RdT w lo hi vt n.trans) (hw : RdS w lo' hi' v l) (hs : RdI w lo2 hi2 vs s) :
  Calls Tryz.prog 114 #[netV n vt, v, vs] w fun e w' => e = .returned (.bool (zd3 n l s)) ∧ Below w.heap.size w w' := by
 obtain ⟨A, c, rfl, hc, hmm⟩ := hv.form
 obtain ⟨A2, c2, rfl, hc2, hmm2⟩ := hw.form
 obtain ⟨A3, c3, rfl, hc3, hmm3⟩ := hs.form
 have HV := Lib.hid hv
 have HW := Lib.hid hw
 have HS := Lib.hid hs
 clear hv hw
 by_cases h1 : 1 ≤ s.length
 ·
  obtain ⟨b, off, rfl, _, _, hcell⟩ := RdI.at1 hs (k := 0) (by omega)
  obtain ⟨At, ct, hsl, ht⟩ := RdI.tail1 hs h1 hc3
  obtain ⟨tl, htl⟩ : ∃ tl, s.drop 1 = tl := ⟨_, rfl⟩
  rw [htl] at hsl ht
  have HTL := Lib.hid htl
  clear htl
  have HT := Lib.hid ht
  have hne : ((s.length : Int) == 0) = false := by rw [beq_eq_false_iff_ne]; omega
  clear hs ht
  simp only [Nat.add_zero] at hcell
  have HC := Lib.hid hcell
  clear hcell
  cases hwb : zew l
  ·
   have HE : Hid (zd3 n l s = false) := Lib.hid (by simp [zd3, hwb])
   have HWB := Lib.hid hwb
   clear hwb
   refine zc3 fun R hR => ?_
   have HR := Lib.hid hR
   clear hR
   go_enter Tryz.func114, Tryz.ntmps114
   have M : Hid (Mem [Loc.k4 w.heap.size (.int .i64 n.places) (.slice A n.trans.length c) (.int .i64 n.source) (.int .i64 n.sink), Loc.bl w.heap.size w] (w.alloc (.cells #[.int .i64 n.places, .slice A n.trans.length c, .int .i64 n.source, .int .i64 n.sink] 24))) := Lib.hid ⟨K4.new w _ _ _ _ _, ⟨(Below.refl _ _).alloc (Nat.le_refl _) _, by simp⟩, True.intro⟩
   have hk4 := M.out.1
   go_wp2_with (go_at_call 102; refine (zgo HWB.out lo' hi' _ _ (HW.out.after M.out.2.1.1)).mono ?_; rintro e w1 ⟨rfl, hb1⟩; replace M := Lib.hid (M.out.below hb1); clear hb1; skip)
   exact HR.out _ _ ⟨zd0 HE.out.symm, M.out.2.1.1⟩
  ·
   have HWB := Lib.hid hwb
   have HE : Hid (zd3 n l s = (decide (0 ≤ gti s 0) && decide (gti s 0 ≤ l.length) && zep n tl)) := Lib.hid (by rw [← HTL.out]; simp [zd3, hwb, h1])
   clear hwb
   generalize gti s 0 = p at *
   refine zc3 fun R hR => ?_
   have HR := Lib.hid hR
   clear hR
   go_enter Tryz.func114, Tryz.ntmps114
   have M : Hid (Mem [Loc.k4 w.heap.size (.int .i64 n.places) (.slice A n.trans.length c) (.int .i64 n.source) (.int .i64 n.sink), Loc.bl w.heap.size w] (w.alloc (.cells #[.int .i64 n.places, .slice A n.trans.length c, .int .i64 n.source, .int .i64 n.sink] 24))) := Lib.hid ⟨K4.new w _ _ _ _ _, ⟨(Below.refl _ _).alloc (Nat.le_refl _) _, by simp⟩, True.intro⟩
   have hk4 := M.out.1
   have hcell := C1.aft M.out.2.1.1 HC.out
   go_wp2_with (go_at_call 102; refine (zgo HWB.out lo' hi' _ _ (HW.out.after M.out.2.1.1)).mono ?_; rintro e w1 ⟨rfl, hb1⟩; replace M := Lib.hid (M.out.below hb1); clear hb1; replace hk4 := M.out.1; replace hcell := C1.aft M.out.2.1.1 HC.out)
   all_goals (try (first | (refine HR.out _ _ ⟨zd0 ?_, M.out.2.1.1⟩; rw [HE.out]; clear HE; go_light; grind)))
   cases hmb : zep n tl
   all_goals
    have HMB := Lib.hid hmb
    have HCD := Lib.hid (zn0 n tl)
    rw [hmb] at HCD
    simp only [if_true, Bool.false_eq_true, if_false] at HCD
    clear hmb
    go_region_held3 (fun W => K4 W w.heap.size (.int .i64 n.places) (.slice A n.trans.length c) (.int .i64 n.source) (.int .i64 n.sink)) (exact hk4) (first | (go_at_call 142; refine (zrs n tl _ _ lo hi lo2 hi2 _ (HV.out.after (by first | exact M.out.2.1.1 | exact M.out.drew.2.1.1)) (HT.out.after (by first | exact M.out.2.1.1 | exact M.out.drew.2.1.1))).mono ?_; rintro e w6 ⟨A6, c6, rfl, hr6, hb6⟩; rw [HCD.out]; replace M := Lib.hid (Mem.below (by first | exact M.out | exact M.out.drew) hb6); replace hk4 := M.out.1; clear hb6 hr6))
    all_goals
     go_wp2_with fail
     refine HR.out _ _ ⟨zd0 ?_, M.out.2.1.1⟩
     rw [HE.out, HMB.out]
     clear HE
     go_light
     grind
 ·
  have h0 : s = [] := List.eq_nil_of_length_eq_zero (by omega)
  subst h0
  have HE : Hid (zd3 n l [] = false) := Lib.hid (by simp [zd3])
  clear hs
  refine zc3 fun R hR => ?_
  have HR := Lib.hid hR
  clear hR
  go_enter Tryz.func114, Tryz.ntmps114
  have M : Hid (Mem [Loc.k4 w.heap.size (.int .i64 n.places) (.slice A n.trans.length c) (.int .i64 n.source) (.int .i64 n.sink), Loc.bl w.heap.size w] (w.alloc (.cells #[.int .i64 n.places, .slice A n.trans.length c, .int .i64 n.source, .int .i64 n.sink] 24))) := Lib.hid ⟨K4.new w _ _ _ _ _, ⟨(Below.refl _ _).alloc (Nat.le_refl _) _, by simp⟩, True.intro⟩
  have hk4 := M.out.1
  go_wp2_with (go_at_call 102; refine (zm1 l lo' hi' _ _ (HW.out.after M.out.2.1.1)).mono ?_; rintro e w1 ⟨rfl, hb1⟩; replace M := Lib.hid (M.out.below hb1); clear hb1; skip)
  all_goals exact HR.out _ _ ⟨zd0 HE.out.symm, M.out.2.1.1⟩
theorem zq1 {n : Net} {s : List Int} (hp : 1 ≤ n.places) (h : ¬ (s.length : Int) = n.places + 1) : (decide (1 ≤ s.length) && zev n (s.drop 1)) = false := by
 by_cases h1 : 1 ≤ s.length
 ·
  rw [zev, if_pos (by simp; omega)]
  simp
 ·
  simp [h1]
theorem ztk {n : Net} {w : List ByteArray} {s : List Int} (hp : 1 ≤ n.places) (h : ¬ (s.length : Int) = n.places + 1) : zd3 n w s = false := by
 have := zq1 hp h
 unfold zd3 zep
 grind
set_option maxRecDepth 100000 in
set_option maxHeartbeats 4000000 in
theorem zj6 (n : Net) (l : List ByteArray) (s : List Int) (vt v vs : Value) (lo hi lo' hi' lo2 hi2 : Nat) (w : World) (hv : RdT w lo hi vt n.trans) (hw : RdS w lo' hi' v l) (hs : RdI w lo2 hi2 vs s) :
  Calls Tryz.prog 31 #[netV n vt, v, vs] w fun e w' => e = .returned (.bool (zd3 n l s)) ∧ Below w.heap.size w w' := by
 obtain ⟨A, c, rfl, hc, hmm⟩ := hv.form
 obtain ⟨A2, c2, rfl, hc2, hmm2⟩ := hw.form
 obtain ⟨A3, c3, rfl, hc3, hmm3⟩ := hs.form
 have HV := Lib.hid hv
 have HW := Lib.hid hw
 clear hv hw
 have tl : List Int := []
 have HT : Hid (RdI w lo2 hi2 (.slice none 0 0) ([] : List Int)) := Lib.hid (Rd.nil _ _ _)
 cases hvb : zd5 n with
 | false =>
  have HVB := Lib.hid hvb
  have HE : Hid (zd3 n l s = false) := Lib.hid (by simp [zd3, zep, hvb])
  have HWB : Hid (zew l = zew l) := Lib.hid rfl
  clear hvb hs
  refine zc3 fun R hR => ?_
  have HR := Lib.hid hR
  clear hR
  go_enter Tryz.func31, Tryz.ntmps31
  have M : Hid (Mem [Loc.k4 w.heap.size (.int .i64 n.places) (.slice A n.trans.length c) (.int .i64 n.source) (.int .i64 n.sink), Loc.bl w.heap.size w] (w.alloc (.cells #[.int .i64 n.places, .slice A n.trans.length c, .int .i64 n.source, .int .i64 n.sink] 24))) := Lib.hid ⟨K4.new w _ _ _ _ _, ⟨(Below.refl _ _).alloc (Nat.le_refl _) _, by simp⟩, True.intro⟩
  have hk4 := M.out.1
  go_wp2_with fail
  refine zez (C := (Mem [Loc.k4 w.heap.size (.int .i64 n.places) (.slice A n.trans.length c) (.int .i64 n.source) (.int .i64 n.sink), Loc.bl w.heap.size w])) (by kernel_rfl) (by kernel_rfl) (by exact M.out.drew) ?_
  repeat (first
   | (refine BigFrame.wpQuiet_skip (by rfl) ?_; simp only [Act.put, List.setIfInBounds_toArray, List.set_cons_zero, List.set_cons_succ])
   | (refine BigFrame.wpQuiet_want (by rfl) (fun K hK => ?_); refine BigFrame.quiet_move _ rfl (hK _ ?_); clear hK K; simp only [Act.put, Act.eval, List.setIfInBounds_toArray, List.set_cons_zero, List.set_cons_succ, List.getD_toArray, List.getD_cons_zero, List.getD_cons_succ])
   | (refine BigFrame.wpQuiet_want (by rfl) (fun K hK => ?_); refine BigFrame.quiet_assign _ rfl (hK _ ?_); clear hK K; simp only [Act.put, Act.eval, List.setIfInBounds_toArray, List.set_cons_zero, List.set_cons_succ, List.getD_toArray, List.getD_cons_zero, List.getD_cons_succ])
   | (refine BigFrame.wpQuiet_want (by rfl) (fun K hK => ?_); refine zgy (v := ?_) (fun W hW => ?_) (hK _ ?_); rotate_left; ((have hq1 := hW.1; dsimp only [Loc.k4] at hq1); go_simp; try (with_reducible rfl)); clear hK K; simp only [Act.put, List.setIfInBounds_toArray, List.set_cons_zero, List.set_cons_succ])
   | (refine BigFrame.wpQuiet_want (by rfl) (fun K hK => ?_); go_simp; apply Exists.intro; refine ⟨fun W hW => ?_, hK _ ?_⟩; (first
    | exact (zee HVB.out _ lo hi _ (HV.out.after hW.2.1.1)).mono (fun e w' h => ⟨h.1, hW.below h.2⟩)
    | exact (zcg HWB.out lo' hi' _ _ (HW.out.after hW.2.1.1)).mono (fun e w' h => ⟨h.1, hW.below h.2⟩)
    | exact (zey n _ tl _ lo2 hi2 _ (HT.out.after hW.2.1.1)).mono (fun e w' h => ⟨h.1, hW.below h.2⟩)); clear hK K; try simp only [Act.put, List.setIfInBounds_toArray, List.set_cons_zero, List.set_cons_succ])
   | fail)
  refine wpQuiet_nil ?_
  intro W hW
  go_wp2_with fail
  refine HR.out _ _ ⟨zd0 ?_, hW.2.1.1⟩
  first | exact HE.out.symm | (rw [HE.out]; rfl)
 | true =>
 have hpl := zdy hvb
 have hwr : IntKind.i64.wrap (n.places + 1) = n.places + 1 := IntWalk.i64_in _ (by omega)
 have HVB := Lib.hid hvb
 clear hvb
 cases hwb : zew l with
 | false =>
  have HE : Hid (zd3 n l s = false) := Lib.hid (by simp [zd3, hwb])
  have HWB := Lib.hid hwb
  clear hwb hs
  refine zc3 fun R hR => ?_
  have HR := Lib.hid hR
  clear hR
  go_enter Tryz.func31, Tryz.ntmps31
  have M : Hid (Mem [Loc.k4 w.heap.size (.int .i64 n.places) (.slice A n.trans.length c) (.int .i64 n.source) (.int .i64 n.sink), Loc.bl w.heap.size w] (w.alloc (.cells #[.int .i64 n.places, .slice A n.trans.length c, .int .i64 n.source, .int .i64 n.sink] 24))) := Lib.hid ⟨K4.new w _ _ _ _ _, ⟨(Below.refl _ _).alloc (Nat.le_refl _) _, by simp⟩, True.intro⟩
  have hk4 := M.out.1
  go_wp2_with fail
  refine zez (C := (Mem [Loc.k4 w.heap.size (.int .i64 n.places) (.slice A n.trans.length c) (.int .i64 n.source) (.int .i64 n.sink), Loc.bl w.heap.size w])) (by kernel_rfl) (by kernel_rfl) (by exact M.out.drew) ?_
  repeat (first
   | (refine BigFrame.wpQuiet_skip (by rfl) ?_; simp only [Act.put, List.setIfInBounds_toArray, List.set_cons_zero, List.set_cons_succ])
   | (refine BigFrame.wpQuiet_want (by rfl) (fun K hK => ?_); refine BigFrame.quiet_move _ rfl (hK _ ?_); clear hK K; simp only [Act.put, Act.eval, List.setIfInBounds_toArray, List.set_cons_zero, List.set_cons_succ, List.getD_toArray, List.getD_cons_zero, List.getD_cons_succ])
   | (refine BigFrame.wpQuiet_want (by rfl) (fun K hK => ?_); refine BigFrame.quiet_assign _ rfl (hK _ ?_); clear hK K; simp only [Act.put, Act.eval, List.setIfInBounds_toArray, List.set_cons_zero, List.set_cons_succ, List.getD_toArray, List.getD_cons_zero, List.getD_cons_succ])
   | (refine BigFrame.wpQuiet_want (by rfl) (fun K hK => ?_); refine zgy (v := ?_) (fun W hW => ?_) (hK _ ?_); rotate_left; ((have hq1 := hW.1; dsimp only [Loc.k4] at hq1); go_simp; try (with_reducible rfl)); clear hK K; simp only [Act.put, List.setIfInBounds_toArray, List.set_cons_zero, List.set_cons_succ])
   | (refine BigFrame.wpQuiet_want (by rfl) (fun K hK => ?_); go_simp; apply Exists.intro; refine ⟨fun W hW => ?_, hK _ ?_⟩; (first
    | exact (zee HVB.out _ lo hi _ (HV.out.after hW.2.1.1)).mono (fun e w' h => ⟨h.1, hW.below h.2⟩)
    | exact (zcg HWB.out lo' hi' _ _ (HW.out.after hW.2.1.1)).mono (fun e w' h => ⟨h.1, hW.below h.2⟩)
    | exact (zey n _ tl _ lo2 hi2 _ (HT.out.after hW.2.1.1)).mono (fun e w' h => ⟨h.1, hW.below h.2⟩)); clear hK K; try simp only [Act.put, List.setIfInBounds_toArray, List.set_cons_zero, List.set_cons_succ])
   | fail)
  refine wpQuiet_nil ?_
  intro W hW
  go_wp2_with fail
  refine HR.out _ _ ⟨zd0 ?_, hW.2.1.1⟩
  first | exact HE.out.symm | (rw [HE.out]; rfl)
 | true =>
 have HWB := Lib.hid hwb
 by_cases h1 : (s.length : Int) = n.places + 1
 ·
  have h1' : 1 ≤ s.length := by omega
  have hs0 : (0 : Int) < (s.length : Int) := by omega
  have hs2 : ¬ s = [] := by intro e; rw [e] at h1'; simp at h1'
  have hs3 : 0 < s.length := h1'
  have b1 : ((s.length : Int) == n.places + 1) = true := by rw [beq_iff_eq]; exact h1
  obtain ⟨b, off, rfl, _, _, hcell⟩ := RdI.at1 hs (k := 0) (by omega)
  obtain ⟨At, ct, hsl, ht⟩ := RdI.tail1 hs h1' hc3
  clear tl HT
  obtain ⟨tl, htl⟩ : ∃ tl, s.drop 1 = tl := ⟨_, rfl⟩
  rw [htl] at hsl ht
  have HE : Hid (zd3 n l s = (decide (0 ≤ gti s 0) && decide (gti s 0 ≤ l.length) && zev n tl)) := Lib.hid (by rw [← htl]; simp [zd3, hwb, h1', zep, HVB.out])
  have HTL := Lib.hid htl
  clear htl
  have HT := Lib.hid ht
  clear hs ht hwb
  simp only [Nat.add_zero] at hcell
  have HC := Lib.hid hcell
  clear hcell
  generalize gti s 0 = p at *
  have H1 := Lib.hid h1
  clear h1
  by_cases g1 : 0 ≤ p
  ·
   have b2 := decide_eq_true g1
   by_cases g2 : p ≤ l.length
   ·
    have b3 := decide_eq_true g2
    replace HE : Hid (zd3 n l s = zev n tl) := Lib.hid (by rw [HE.out, b2, b3]; rfl)
    refine zc3 fun R hR => ?_
    have HR := Lib.hid hR
    clear hR
    go_enter Tryz.func31, Tryz.ntmps31
    have M : Hid (Mem [Loc.k4 w.heap.size (.int .i64 n.places) (.slice (A) n.trans.length c) (.int .i64 n.source) (.int .i64 n.sink), Loc.bl w.heap.size w] (w.alloc (.cells #[.int .i64 n.places, .slice (A) n.trans.length c, .int .i64 n.source, .int .i64 n.sink] 24))) := Lib.hid ⟨K4.new w _ _ _ _ _, ⟨(Below.refl _ _).alloc (Nat.le_refl _) _, by simp⟩, True.intro⟩
    have hk4 := M.out.1
    have hcell := C1.aft M.out.2.1.1 HC.out
    go_wp2_with fail
    refine zez (C := (Mem [Loc.k4 w.heap.size (.int .i64 n.places) (.slice A n.trans.length c) (.int .i64 n.source) (.int .i64 n.sink), Loc.bl w.heap.size w, Loc.c1 b off (.int .i64 p)])) (by kernel_rfl) (by kernel_rfl) (by exact Mem.drew (l := [_, _, Loc.c1 _ _ _]) ⟨M.out.1, M.out.2.1, hcell, True.intro⟩) ?_
    repeat (first
     | (refine BigFrame.wpQuiet_skip (by rfl) ?_; simp only [Act.put, List.setIfInBounds_toArray, List.set_cons_zero, List.set_cons_succ])
     | (refine BigFrame.wpQuiet_want (by rfl) (fun K hK => ?_); refine BigFrame.quiet_move _ rfl (hK _ ?_); clear hK K; simp only [Act.put, Act.eval, List.setIfInBounds_toArray, List.set_cons_zero, List.set_cons_succ, List.getD_toArray, List.getD_cons_zero, List.getD_cons_succ])
     | (refine BigFrame.wpQuiet_want (by rfl) (fun K hK => ?_); refine BigFrame.quiet_assign _ rfl (hK _ ?_); clear hK K; simp only [Act.put, Act.eval, List.setIfInBounds_toArray, List.set_cons_zero, List.set_cons_succ, List.getD_toArray, List.getD_cons_zero, List.getD_cons_succ])
     | (refine BigFrame.wpQuiet_want (by rfl) (fun K hK => ?_); refine zgy (v := ?_) (fun W hW => ?_) (hK _ ?_); rotate_left; ((have hq1 := hW.1; have hq2 := hW.2.2.1; dsimp only [Loc.k4, Loc.c1] at hq1 hq2); go_simp; try (with_reducible rfl)); clear hK K; simp only [Act.put, List.setIfInBounds_toArray, List.set_cons_zero, List.set_cons_succ])
     | (refine BigFrame.wpQuiet_want (by rfl) (fun K hK => ?_); go_simp; apply Exists.intro; refine ⟨fun W hW => ?_, hK _ ?_⟩; (first
      | exact (zee HVB.out _ lo hi _ (HV.out.after hW.2.1.1)).mono (fun e w' h => ⟨h.1, hW.below h.2⟩)
      | exact (zcg HWB.out lo' hi' _ _ (HW.out.after hW.2.1.1)).mono (fun e w' h => ⟨h.1, hW.below h.2⟩)
      | exact (zey n _ tl _ lo2 hi2 _ (HT.out.after hW.2.1.1)).mono (fun e w' h => ⟨h.1, hW.below h.2⟩)); clear hK K; try simp only [Act.put, List.setIfInBounds_toArray, List.set_cons_zero, List.set_cons_succ])
     | fail)
    refine wpQuiet_nil ?_
    intro W hW
    go_wp2_with fail
    refine HR.out _ _ ⟨zd0 ?_, hW.2.1.1⟩
    first | exact HE.out.symm | (rw [HE.out]; rfl)
   ·
    have b3 := decide_eq_false g2
    replace HE : Hid (zd3 n l s = false) := Lib.hid (by rw [HE.out, b2, b3]; rfl)
    refine zc3 fun R hR => ?_
    have HR := Lib.hid hR
    clear hR
    go_enter Tryz.func31, Tryz.ntmps31
    have M : Hid (Mem [Loc.k4 w.heap.size (.int .i64 n.places) (.slice (A) n.trans.length c) (.int .i64 n.source) (.int .i64 n.sink), Loc.bl w.heap.size w] (w.alloc (.cells #[.int .i64 n.places, .slice (A) n.trans.length c, .int .i64 n.source, .int .i64 n.sink] 24))) := Lib.hid ⟨K4.new w _ _ _ _ _, ⟨(Below.refl _ _).alloc (Nat.le_refl _) _, by simp⟩, True.intro⟩
    have hk4 := M.out.1
    have hcell := C1.aft M.out.2.1.1 HC.out
    go_wp2_with fail
    refine zez (C := (Mem [Loc.k4 w.heap.size (.int .i64 n.places) (.slice A n.trans.length c) (.int .i64 n.source) (.int .i64 n.sink), Loc.bl w.heap.size w, Loc.c1 b off (.int .i64 p)])) (by kernel_rfl) (by kernel_rfl) (by exact Mem.drew (l := [_, _, Loc.c1 _ _ _]) ⟨M.out.1, M.out.2.1, hcell, True.intro⟩) ?_
    repeat (first
     | (refine BigFrame.wpQuiet_skip (by rfl) ?_; simp only [Act.put, List.setIfInBounds_toArray, List.set_cons_zero, List.set_cons_succ])
     | (refine BigFrame.wpQuiet_want (by rfl) (fun K hK => ?_); refine BigFrame.quiet_move _ rfl (hK _ ?_); clear hK K; simp only [Act.put, Act.eval, List.setIfInBounds_toArray, List.set_cons_zero, List.set_cons_succ, List.getD_toArray, List.getD_cons_zero, List.getD_cons_succ])
     | (refine BigFrame.wpQuiet_want (by rfl) (fun K hK => ?_); refine BigFrame.quiet_assign _ rfl (hK _ ?_); clear hK K; simp only [Act.put, Act.eval, List.setIfInBounds_toArray, List.set_cons_zero, List.set_cons_succ, List.getD_toArray, List.getD_cons_zero, List.getD_cons_succ])
     | (refine BigFrame.wpQuiet_want (by rfl) (fun K hK => ?_); refine zgy (v := ?_) (fun W hW => ?_) (hK _ ?_); rotate_left; ((have hq1 := hW.1; have hq2 := hW.2.2.1; dsimp only [Loc.k4, Loc.c1] at hq1 hq2); go_simp; try (with_reducible rfl)); clear hK K; simp only [Act.put, List.setIfInBounds_toArray, List.set_cons_zero, List.set_cons_succ])
     | (refine BigFrame.wpQuiet_want (by rfl) (fun K hK => ?_); go_simp; apply Exists.intro; refine ⟨fun W hW => ?_, hK _ ?_⟩; (first
      | exact (zee HVB.out _ lo hi _ (HV.out.after hW.2.1.1)).mono (fun e w' h => ⟨h.1, hW.below h.2⟩)
      | exact (zcg HWB.out lo' hi' _ _ (HW.out.after hW.2.1.1)).mono (fun e w' h => ⟨h.1, hW.below h.2⟩)
      | exact (zey n _ tl _ lo2 hi2 _ (HT.out.after hW.2.1.1)).mono (fun e w' h => ⟨h.1, hW.below h.2⟩)); clear hK K; try simp only [Act.put, List.setIfInBounds_toArray, List.set_cons_zero, List.set_cons_succ])
     | fail)
    refine wpQuiet_nil ?_
    intro W hW
    go_wp2_with fail
    refine HR.out _ _ ⟨zd0 ?_, hW.2.1.1⟩
    first | exact HE.out.symm | (rw [HE.out]; rfl)
  ·
   have b2 := decide_eq_false g1
   replace HE : Hid (zd3 n l s = false) := Lib.hid (by rw [HE.out, b2]; rfl)
   refine zc3 fun R hR => ?_
   have HR := Lib.hid hR
   clear hR
   go_enter Tryz.func31, Tryz.ntmps31
   have M : Hid (Mem [Loc.k4 w.heap.size (.int .i64 n.places) (.slice (A) n.trans.length c) (.int .i64 n.source) (.int .i64 n.sink), Loc.bl w.heap.size w] (w.alloc (.cells #[.int .i64 n.places, .slice (A) n.trans.length c, .int .i64 n.source, .int .i64 n.sink] 24))) := Lib.hid ⟨K4.new w _ _ _ _ _, ⟨(Below.refl _ _).alloc (Nat.le_refl _) _, by simp⟩, True.intro⟩
   have hk4 := M.out.1
   have hcell := C1.aft M.out.2.1.1 HC.out
   go_wp2_with fail
   refine zez (C := (Mem [Loc.k4 w.heap.size (.int .i64 n.places) (.slice A n.trans.length c) (.int .i64 n.source) (.int .i64 n.sink), Loc.bl w.heap.size w, Loc.c1 b off (.int .i64 p)])) (by kernel_rfl) (by kernel_rfl) (by exact Mem.drew (l := [_, _, Loc.c1 _ _ _]) ⟨M.out.1, M.out.2.1, hcell, True.intro⟩) ?_
   repeat (first
    | (refine BigFrame.wpQuiet_skip (by rfl) ?_; simp only [Act.put, List.setIfInBounds_toArray, List.set_cons_zero, List.set_cons_succ])
    | (refine BigFrame.wpQuiet_want (by rfl) (fun K hK => ?_); refine BigFrame.quiet_move _ rfl (hK _ ?_); clear hK K; simp only [Act.put, Act.eval, List.setIfInBounds_toArray, List.set_cons_zero, List.set_cons_succ, List.getD_toArray, List.getD_cons_zero, List.getD_cons_succ])
    | (refine BigFrame.wpQuiet_want (by rfl) (fun K hK => ?_); refine BigFrame.quiet_assign _ rfl (hK _ ?_); clear hK K; simp only [Act.put, Act.eval, List.setIfInBounds_toArray, List.set_cons_zero, List.set_cons_succ, List.getD_toArray, List.getD_cons_zero, List.getD_cons_succ])
    | (refine BigFrame.wpQuiet_want (by rfl) (fun K hK => ?_); refine zgy (v := ?_) (fun W hW => ?_) (hK _ ?_); rotate_left; ((have hq1 := hW.1; have hq2 := hW.2.2.1; dsimp only [Loc.k4, Loc.c1] at hq1 hq2); go_simp; try (with_reducible rfl)); clear hK K; simp only [Act.put, List.setIfInBounds_toArray, List.set_cons_zero, List.set_cons_succ])
    | (refine BigFrame.wpQuiet_want (by rfl) (fun K hK => ?_); go_simp; apply Exists.intro; refine ⟨fun W hW => ?_, hK _ ?_⟩; (first
     | exact (zee HVB.out _ lo hi _ (HV.out.after hW.2.1.1)).mono (fun e w' h => ⟨h.1, hW.below h.2⟩)
     | exact (zcg HWB.out lo' hi' _ _ (HW.out.after hW.2.1.1)).mono (fun e w' h => ⟨h.1, hW.below h.2⟩)
     | exact (zey n _ tl _ lo2 hi2 _ (HT.out.after hW.2.1.1)).mono (fun e w' h => ⟨h.1, hW.below h.2⟩)); clear hK K; try simp only [Act.put, List.setIfInBounds_toArray, List.set_cons_zero, List.set_cons_succ])
    | fail)
   refine wpQuiet_nil ?_
   intro W hW
   go_wp2_with fail
   refine HR.out _ _ ⟨zd0 ?_, hW.2.1.1⟩
   first | exact HE.out.symm | (rw [HE.out]; rfl)
 ·
  have b1 : ((s.length : Int) == n.places + 1) = false := by rw [beq_eq_false_iff_ne]; exact h1
  have HE : Hid (zd3 n l s = false) := Lib.hid (ztk hpl.1 h1)
  clear hwb hs h1
  refine zc3 fun R hR => ?_
  have HR := Lib.hid hR
  clear hR
  go_enter Tryz.func31, Tryz.ntmps31
  have M : Hid (Mem [Loc.k4 w.heap.size (.int .i64 n.places) (.slice A n.trans.length c) (.int .i64 n.source) (.int .i64 n.sink), Loc.bl w.heap.size w] (w.alloc (.cells #[.int .i64 n.places, .slice A n.trans.length c, .int .i64 n.source, .int .i64 n.sink] 24))) := Lib.hid ⟨K4.new w _ _ _ _ _, ⟨(Below.refl _ _).alloc (Nat.le_refl _) _, by simp⟩, True.intro⟩
  have hk4 := M.out.1
  go_wp2_with fail
  refine zez (C := (Mem [Loc.k4 w.heap.size (.int .i64 n.places) (.slice A n.trans.length c) (.int .i64 n.source) (.int .i64 n.sink), Loc.bl w.heap.size w])) (by kernel_rfl) (by kernel_rfl) (by exact M.out.drew) ?_
  repeat (first
   | (refine BigFrame.wpQuiet_skip (by rfl) ?_; simp only [Act.put, List.setIfInBounds_toArray, List.set_cons_zero, List.set_cons_succ])
   | (refine BigFrame.wpQuiet_want (by rfl) (fun K hK => ?_); refine BigFrame.quiet_move _ rfl (hK _ ?_); clear hK K; simp only [Act.put, Act.eval, List.setIfInBounds_toArray, List.set_cons_zero, List.set_cons_succ, List.getD_toArray, List.getD_cons_zero, List.getD_cons_succ])
   | (refine BigFrame.wpQuiet_want (by rfl) (fun K hK => ?_); refine BigFrame.quiet_assign _ rfl (hK _ ?_); clear hK K; simp only [Act.put, Act.eval, List.setIfInBounds_toArray, List.set_cons_zero, List.set_cons_succ, List.getD_toArray, List.getD_cons_zero, List.getD_cons_succ])
   | (refine BigFrame.wpQuiet_want (by rfl) (fun K hK => ?_); refine zgy (v := ?_) (fun W hW => ?_) (hK _ ?_); rotate_left; ((have hq1 := hW.1; dsimp only [Loc.k4] at hq1); go_simp; try (with_reducible rfl)); clear hK K; simp only [Act.put, List.setIfInBounds_toArray, List.set_cons_zero, List.set_cons_succ])
   | (refine BigFrame.wpQuiet_want (by rfl) (fun K hK => ?_); go_simp; apply Exists.intro; refine ⟨fun W hW => ?_, hK _ ?_⟩; (first
    | exact (zee HVB.out _ lo hi _ (HV.out.after hW.2.1.1)).mono (fun e w' h => ⟨h.1, hW.below h.2⟩)
    | exact (zcg HWB.out lo' hi' _ _ (HW.out.after hW.2.1.1)).mono (fun e w' h => ⟨h.1, hW.below h.2⟩)
    | exact (zey n _ tl _ lo2 hi2 _ (HT.out.after hW.2.1.1)).mono (fun e w' h => ⟨h.1, hW.below h.2⟩)); clear hK K; try simp only [Act.put, List.setIfInBounds_toArray, List.set_cons_zero, List.set_cons_succ])
   | fail)
  refine wpQuiet_nil ?_
  intro W hW
  go_wp2_with fail
  refine HR.out _ _ ⟨zd0 ?_, hW.2.1.1⟩
  first | exact HE.out.symm | (rw [HE.out]; rfl)
end
section
open Go.RowKit
def zfj (n : Net) (w : List ByteArray) (s : List Int) (m : Stp) : List Int × Int :=
 if m.kind = 2 then
  if m.trans ≠ -1 then ([], 2) else if zgj m.act = false then ([], 8) else if atB w (gti s 0) m.act = false then ([], 10) else ((gti s 0 + 1) :: s.drop 1, 0)
 else if m.trans < 0 ∨ (n.trans.length : Int) ≤ m.trans then ([], 2)
 else if m.act ≠ (gti n.trans m.trans.toNat).label ∨ (gti n.trans m.trans.toNat).label.toList.isEmpty ≠ decide (m.kind = 4) then ([], 8)
 else if m.kind = 1 ∧ atB w (gti s 0) m.act = false then ([], 10)
 else if (zdi n (s.drop 1) m.trans).2 ≠ 0 then ([], (zdi n (s.drop 1) m.trans).2)
 else ((if m.kind = 1 then gti s 0 + 1 else gti s 0) :: (zdi n (s.drop 1) m.trans).1, 0)
abbrev stpV (m : Stp) : Value := .agg #[.int .i64 m.kind, .int .i64 m.trans, .string m.act]
theorem zpq {n : Net} {m : List Int} {t : Int} : (zdi n m t).1.length ≤ m.length := by
 unfold zdi zkc
 split
 ·
  split
  ·
   simp
  ·
   split
   ·
    split
    ·
     simp
    ·
     simp [znt, zn8]
   ·
    simp
 ·
  simp
set_option maxRecDepth 100000 in
set_option maxHeartbeats 4000000 in
theorem zxn (n : Net) (l : List ByteArray) (s : List Int) (m : Stp) (vt v vs : Value) (lo hi lo' hi' lo2 hi2 : Nat) (w : World) (hv : RdT w lo hi vt n.trans) (hw : RdS w lo' hi' v l) (hs : RdI w lo2 hi2 vs s)
  (h1 : 1 ≤ s.length) (h2 : s.length ≤ 1000) (h3 : 0 ≤ gti s 0) (h4 : gti s 0 ≤ l.length) (h5 : l.length ≤ 1000) :
  Calls Tryz.prog 88 #[netV n vt, v, vs, stpV m] w (RetI w (zfj n l s m)) := by
 obtain ⟨A, c, rfl, hc, hmm⟩ := hv.form
 obtain ⟨A2, c2, rfl, hc2, hmm2⟩ := hw.form
 obtain ⟨A3, c3, rfl, hc3, hmm3⟩ := hs.form
 have HV := Lib.hid hv
 have HW := Lib.hid hw
 have HS := Lib.hid hs
 clear hv hw
 obtain ⟨b, off, rfl, _, _, hcell⟩ := RdI.at1 hs (k := 0) (by omega)
 obtain ⟨At, ct, hsl, ht⟩ := RdI.tail1 hs h1 hc3
 obtain ⟨tl, htl⟩ : ∃ tl, s.drop 1 = tl := ⟨_, rfl⟩
 have htl2 : tl.length ≤ 1000 := by rw [← htl]; simp; omega
 rw [htl] at hsl ht
 have HAE := Lib.hid (show zfj n l s m = _ from by unfold zfj; rfl)
 rw [htl] at HAE
 have HT := Lib.hid ht
 have hs0 : (0 : Int) < (s.length : Int) := by omega
 have hs2 : ¬ s = [] := by intro e; rw [e] at h1; simp at h1
 have hs3 : 0 < s.length := h1
 clear hs ht htl
 simp only [Nat.add_zero] at hcell
 have HC := Lib.hid hcell
 clear hcell
 generalize gti s 0 = p at *
 obtain ⟨kd, tr, ac⟩ := m
 simp only at HAE
 have hM : ∀ (w0 : World), Mem [Loc.k3 (w0.heap.size + 1) (.int .i64 kd) (.int .i64 tr) (.string ac), Loc.k4 w0.heap.size (.int .i64 n.places) (.slice A n.trans.length c) (.int .i64 n.source) (.int .i64 n.sink), Loc.bl w0.heap.size w0] ((w0.alloc (.cells #[.int .i64 n.places, .slice A n.trans.length c, .int .i64 n.source, .int .i64 n.sink] 24)).alloc (.cells #[.int .i64 kd, .int .i64 tr, .string ac] 37)) := fun w0 =>
  ⟨by have := K3.new (w0.alloc (.cells #[.int .i64 n.places, .slice A n.trans.length c, .int .i64 n.source, .int .i64 n.sink] 24)) (.int .i64 kd) (.int .i64 tr) (.string ac) 37; rw [World.size_alloc] at this; exact this, K4.aft ((Below.refl _ _).alloc (Nat.le_refl _) _) (K4.new w0 _ _ _ _ _), ⟨((Below.refl _ _).alloc (Nat.le_refl _) _).alloc (by simp) _, by simp; omega⟩, True.intro⟩
 by_cases hk2 : kd = 2
 ·
  subst hk2
  refine zc3 fun R hR => ?_
  have HR := Lib.hid hR
  clear hR
  go_enter Tryz.func88, Tryz.ntmps88
  have M := Lib.hid (hM w)
  clear hM
  have hk3 := M.out.1
  have hcell := C1.aft M.out.2.2.1.1 HC.out
  go_wp2_with fail
  go_quiet (fail)
  replace M := Lib.hid (M.out.drewN nq)
  replace hk3 := M.out.1
  generalize World.drewN _ nq = W at *
  go_wp2_with (first
   | (go_at_call 124; refine (zjp _ _).mono ?_; rintro e w1 ⟨rfl, hb1⟩; replace M := Lib.hid (M.out.below hb1); clear hb1; replace hk3 := M.out.1)
   | (go_at_call 116; refine (zxk l p _ lo' hi' _ _ (HW.out.after M.out.2.2.1.1) h3).mono ?_; rintro e w1 ⟨rfl, hb1⟩; replace M := Lib.hid (M.out.below hb1); clear hb1; replace hk3 := M.out.1; have hz1 := M.out.1.2.2.2; have hz0 := M.out.2.1.2.2.2.2)
   | (at_builtin; refine zec rfl _ _ rfl zhd (fun _ => rfl) oneI rfl rfl (Mem.lit1 M.out (p + 1)) (by (repeat' (first | exact True.intro | refine And.intro (fun k hk e => ?_) ?_)) <;> (first | exact e | ((try dsimp only [Loc.c1, Loc.c2, Loc.k1, Loc.k2, Loc.k3, Loc.k4, Loc.k6, Loc.fr, Loc.bl, Loc.own, Loc.sz, Loc.rd, Loc.rdI, Loc.rdS, Loc.rdM, Loc.rdT, Loc.ow, Loc.owI] at hk e) <;> omega))) (HT.out.after (M.out.2.2.1.1.alloc M.out.2.2.1.2 _)) (by simp; omega) (by simp; omega) (by simp) ?_; intro A9 c9 w9 hM1 hs1 hch1; replace M := Lib.hid hM1; clear hM1 hch1))
  all_goals have hae := HAE.out
  all_goals clear HAE
  all_goals first
   | exact HR.out _ _ (RetI.nil (by rw [hae]; clear hae; go_light; grind) M.out.2.2.1.1)
   | exact HR.out _ _ (RetI.mk (l := (p + 1) :: tl) (by rw [hae]; clear hae; go_light; grind) (by simp; omega) M.out.1.rd (by omega) (Nat.le_refl _) M.out.2.2.2.1.1)
 ·
  by_cases ht : tr < 0 ∨ n.trans.length ≤ tr
  ·
   have HTT := Lib.hid ht
   have HK2 := Lib.hid hk2
   have hk2' : (kd == 2) = false := by simpa using hk2
   refine zc3 fun R hR => ?_
   have HR := Lib.hid hR
   clear hR
   go_enter Tryz.func88, Tryz.ntmps88
   have M := Lib.hid (hM w)
   clear hM
   have hk3 := M.out.1
   have hk4 := M.out.2.1
   have hcell := C1.aft M.out.2.2.1.1 HC.out
   go_wp2_with fail
   go_quiet (fail)
   replace M := Lib.hid (M.out.drewN nq)
   replace hk3 := M.out.1
   replace hk4 := M.out.2.1
   generalize World.drewN _ nq = W at *
   go_wp2_with fail
   all_goals have hae := HAE.out
   all_goals rw [if_neg HK2.out, if_pos HTT.out] at hae
   all_goals first
    | exact HR.out _ _ (RetI.nil hae M.out.2.2.1.1)
    | (exfalso; go_light; omega)
  ·
   have HTT := Lib.hid ht
   have HK2 := Lib.hid hk2
   have hk2' : (kd == 2) = false := by simpa using hk2
   obtain ⟨kt, rfl⟩ : ∃ k : Nat, tr = k := ⟨tr.toNat, by omega⟩
   have hlt : kt < n.trans.length := by omega
   clear ht
   obtain ⟨b4, off4, vi, vo, rfl, hbl, hbh, hcl, hri, hro⟩ := RdT.at3 HV.out hlt
   have HCL := Lib.hid hcl
   have hx1 : ((kt : Int) < 0) = False := by simp
   have hx2 : ((n.trans.length : Int) ≤ (kt : Int)) = False := by simp; omega
   have HFL := Lib.hid (zpq (n := n) (m := tl) (t := kt))
   rw [if_neg HK2.out, if_neg HTT.out, Int.toNat_natCast] at HAE
   generalize gti n.trans kt = x at *
   clear hri hro hcl
   have HFE := Lib.hid (fun (W : World) (h : Below w.heap.size w W) => zte n tl kt _ _ lo hi lo2 hi2 W (HV.out.after h) (HT.out.after h))
   obtain ⟨⟨fl, fe⟩, hfe⟩ : ∃ r, zdi n tl kt = r := ⟨_, rfl⟩
   rw [hfe] at HAE HFE HFL
   simp only at HAE HFL
   clear hfe
   refine zc3 fun R hR => ?_
   have HR := Lib.hid hR
   clear hR
   go_enter Tryz.func88, Tryz.ntmps88
   have M := Lib.hid (hM w)
   clear hM
   have hk3 := M.out.1
   have hk4 := M.out.2.1
   have hcell := C1.aft M.out.2.2.1.1 HC.out
   go_wp2_with fail
   go_quiet (fail)
   replace M := Lib.hid (M.out.drewN nq)
   replace hk3 := M.out.1
   replace hk4 := M.out.2.1
   generalize World.drewN _ nq = W at *
   have hcr := C3.aft M.out.2.2.1.1 HCL.out
   go_wp2_with (first
    | (go_at_call 116; refine (zxk l p _ lo' hi' _ _ (HW.out.after M.out.2.2.1.1) h3).mono ?_; rintro e w1 ⟨rfl, hb1⟩; replace M := Lib.hid (M.out.below hb1); clear hb1; replace hk3 := M.out.1; replace hk4 := M.out.2.1)
    | (go_at_call 115; refine (HFE.out _ M.out.2.2.1.1).mono ?_; rintro e w6 ⟨A6, c6, rfl, hr6, hb6⟩; have hz0 := M.out.2.1.2.2.2.2; have hz1 := M.out.1.2.2.2; have hz6 := hb6.size; replace M := Lib.hid (M.out.below hb6); have HR6 := Lib.hid hr6; dsimp only at HR6 ⊢; clear hb6 hr6)
    | (at_builtin; refine zec rfl _ _ rfl zhd (fun _ => rfl) oneI rfl rfl (Mem.lit1 M.out _) (by (repeat' (first | exact True.intro | refine And.intro (fun k hk e => ?_) ?_)) <;> (first | exact e | ((try dsimp only [Loc.c1, Loc.c2, Loc.k1, Loc.k2, Loc.k3, Loc.k4, Loc.k6, Loc.fr, Loc.bl, Loc.own, Loc.sz, Loc.rd, Loc.rdI, Loc.rdS, Loc.rdM, Loc.rdT, Loc.ow, Loc.owI] at hk e) <;> omega))) (HR6.out.after ((Below.refl _ _).alloc (Nat.le_refl _) _)) (by have := HFL.out; simp; omega) (by have := HFL.out; simp; omega) (by simp) ?_; intro A9 c9 w9 hM1 hs1 hch1; replace M := Lib.hid hM1; clear hM1 hch1))
   all_goals have hae := HAE.out
   all_goals clear HAE
   all_goals have hinj := @toList_inj ac x.label
   all_goals first
    | exact HR.out _ _ (RetI.nil (by rw [hae]; clear hae; go_light; grind) M.out.2.2.1.1)
    | exact HR.out _ _ (RetI.mk (by rw [hae]; clear hae; go_light; grind) (by simp; omega) M.out.1.rd (by omega) (Nat.le_refl _) M.out.2.2.2.1.1)
end
section
open Go.RowKit
def zd2 (n : Net) (w : List ByteArray) (s : List Int) (m : Stp) : List Int × Int := if zd3 n w s && zg8 m.kind then zfj n w s m else ([], 1)
theorem zjo {n : Net} {l : List ByteArray} {s : List Int} {z : Bool} (hz : zd3 n l s = z) (vt v vs : Value) (lo hi lo' hi' lo2 hi2 : Nat) (w : World) (hv : RdT w lo hi vt n.trans) (hw : RdS w lo' hi' v l) (hs : RdI w lo2 hi2 vs s) :
  Calls Tryz.prog 114 #[netV n vt, v, vs] w fun e w' => e = .returned (.bool z) ∧ Below w.heap.size w w' := hz ▸ zq5 n l s vt v vs lo hi lo' hi' lo2 hi2 w hv hw hs
theorem zed {n : Net} {l : List ByteArray} {s : List Int} {z : Bool} (hz : zd3 n l s = z) (vt v vs : Value) (lo hi lo' hi' lo2 hi2 : Nat) (w : World) (hv : RdT w lo hi vt n.trans) (hw : RdS w lo' hi' v l) (hs : RdI w lo2 hi2 vs s) :
  Calls Tryz.prog 31 #[netV n vt, v, vs] w fun e w' => e = .returned (.bool z) ∧ Below w.heap.size w w' := hz ▸ zj6 n l s vt v vs lo hi lo' hi' lo2 hi2 w hv hw hs
theorem z1q {k : Int} {z : Bool} (hz : zg8 k = z) (w : World) : Calls Tryz.prog 118 #[.int .i64 k] w fun e w' => e = .returned (.bool z) ∧ Below w.heap.size w w' := hz ▸ zsg k w
theorem zen {n : Net} {l : List ByteArray} {s : List Int} (h : zd3 n l s = true) : 1 ≤ s.length ∧ s.length ≤ 1000 ∧ 0 ≤ gti s 0 ∧ gti s 0 ≤ l.length ∧ l.length ≤ 200 := by
 obtain ⟨h1, h2, h3, h4, h5⟩ := zce.1 h
 unfold zep at h5
 simp only [Bool.and_eq_true] at h5
 have h6 := zfp h5.2
 have h7 := zdy h5.1
 unfold zew at h1
 simp only [Bool.and_eq_true, decide_eq_true_eq] at h1
 simp at h6
 omega
theorem stepM (kd tr : Int) (ac : ByteArray) (n : Net) (vt : Value) (w0 : World) : Mem [Loc.k3 (w0.heap.size + 1) (.int .i64 kd) (.int .i64 tr) (.string ac), Loc.k4 w0.heap.size (.int .i64 n.places) (vt) (.int .i64 n.source) (.int .i64 n.sink), Loc.bl w0.heap.size w0] ((w0.alloc (.cells #[.int .i64 n.places, vt, .int .i64 n.source, .int .i64 n.sink] 24)).alloc (.cells #[.int .i64 kd, .int .i64 tr, .string ac] 37)) :=
 ⟨by have := K3.new (w0.alloc (.cells #[.int .i64 n.places, vt, .int .i64 n.source, .int .i64 n.sink] 24)) (.int .i64 kd) (.int .i64 tr) (.string ac) 37; rw [World.size_alloc] at this; exact this, K4.aft ((Below.refl _ _).alloc (Nat.le_refl _) _) (K4.new w0 _ _ _ _ _), ⟨((Below.refl _ _).alloc (Nat.le_refl _) _).alloc (by simp) _, by simp; omega⟩, True.intro⟩
set_option maxHeartbeats 1000000 in
theorem zxx (n : Net) (l : List ByteArray) (s : List Int) (m : Stp) (vt v vs : Value) (lo hi lo' hi' lo2 hi2 : Nat) (w : World) (hv : RdT w lo hi vt n.trans) (hw : RdS w lo' hi' v l) (hs : RdI w lo2 hi2 vs s) :
  Calls Tryz.prog 70 #[netV n vt, v, vs, stpV m] w (RetI w (zd2 n l s m)) := by
 obtain ⟨A, c, rfl, hc, hmm⟩ := hv.form
 obtain ⟨A2, c2, rfl, hc2, hmm2⟩ := hw.form
 obtain ⟨A3, c3, rfl, hc3, hmm3⟩ := hs.form
 have HV := Lib.hid hv
 have HW := Lib.hid hw
 have HS := Lib.hid hs
 clear hv hw hs
 obtain ⟨z, hz⟩ : ∃ z, zd3 n l s = z := ⟨_, rfl⟩
 obtain ⟨y, hy⟩ : ∃ y, zg8 m.kind = y := ⟨_, rfl⟩
 have HZ := Lib.hid hz
 have HY := Lib.hid hy
 have HAE : Hid (zd2 n l s m = if z && y then zfj n l s m else ([], 1)) := Lib.hid (by rw [zd2, hz, hy])
 clear hz hy
 have hM := stepM m.kind m.trans m.act n (.slice A n.trans.length c)
 cases z <;> cases y
 all_goals
  refine zc3 fun R hR => ?_
  have HR := Lib.hid hR
  clear hR
  go_enter Tryz.func70, Tryz.ntmps70
  have M := Lib.hid (hM w)
  have hk3 := M.out.1
  have hk4 := M.out.2.1
  go_wp2_with (first
   | (go_at_call 114; refine (zjo HZ.out _ _ _ lo hi lo' hi' lo2 hi2 _ (HV.out.after M.out.2.2.1.1) (HW.out.after M.out.2.2.1.1) (HS.out.after M.out.2.2.1.1)).mono ?_; rintro e w1 ⟨rfl, hb1⟩; replace M := Lib.hid (M.out.below hb1); clear hb1; replace hk3 := M.out.1; replace hk4 := M.out.2.1)
   | (go_at_call 118; refine (z1q HY.out _).mono ?_; rintro e w1 ⟨rfl, hb1⟩; replace M := Lib.hid (M.out.below hb1); clear hb1; replace hk3 := M.out.1; replace hk4 := M.out.2.1)
   | (go_at_call 88; refine (zxn n l s m _ _ _ lo hi lo' hi' lo2 hi2 _ (HV.out.after M.out.2.2.1.1) (HW.out.after M.out.2.2.1.1) (HS.out.after M.out.2.2.1.1) (zen HZ.out).1 (zen HZ.out).2.1 (zen HZ.out).2.2.1 (zen HZ.out).2.2.2.1 (by have := (zen HZ.out).2.2.2.2; omega)).mono ?_; rintro e w7 ⟨A7, c7, rfl, hr7, hb7⟩; have HR7 := Lib.hid hr7; have hz7 := M.out.2.2.1.2; replace M := Lib.hid (M.out.below hb7); clear hb7 hr7))
 ·
  exact HR.out _ _ (RetI.nil (by rw [HAE.out]; rfl) M.out.2.2.1.1)
 ·
  exact HR.out _ _ (RetI.nil (by rw [HAE.out]; rfl) M.out.2.2.1.1)
 ·
  exact HR.out _ _ (RetI.nil (by rw [HAE.out]; rfl) M.out.2.2.1.1)
 ·
  exact HR.out _ _ (RetI.mk (by rw [HAE.out]; rfl) rfl HR7.out hz7 (Nat.le_refl _) M.out.2.2.1.1)
set_option maxRecDepth 100000 in
set_option maxHeartbeats 8000000 in
theorem zms (n : Net) (l : List ByteArray) (s : List Int) (m : Stp) (vt v vs : Value) (lo hi lo' hi' lo2 hi2 : Nat) (w : World) (hv : RdT w lo hi vt n.trans) (hw : RdS w lo' hi' v l) (hs : RdI w lo2 hi2 vs s) :
  Calls Tryz.prog 65 #[netV n vt, v, vs, stpV m] w (RetI w (zd2 n l s m)) := by
 obtain ⟨A, c, rfl, hc, hmm⟩ := hv.form
 obtain ⟨A2, c2, rfl, hc2, hmm2⟩ := hw.form
 obtain ⟨A3, c3, rfl, hc3, hmm3⟩ := hs.form
 have HV := Lib.hid hv
 have HW := Lib.hid hw
 have HS := Lib.hid hs
 clear hv hw
 obtain ⟨z, hz⟩ : ∃ z, zd3 n l s = z := ⟨_, rfl⟩
 have HZ := Lib.hid hz
 obtain ⟨kd, tr, ac⟩ := m
 have hM := stepM kd tr ac n (.slice A n.trans.length c)
 by_cases hbad : z = false ∨ zg8 kd = false
 ·
  have HAE : Hid (zd2 n l s ⟨kd, tr, ac⟩ = ([], 1)) := Lib.hid (by rw [zd2, hz]; rcases hbad with h | h <;> simp [h])
  have HBAD := Lib.hid hbad
  clear hz hs hbad
  cases z
  ·
   refine zc3 fun R hR => ?_
   have HR := Lib.hid hR
   clear hR
   go_enter Tryz.func65, Tryz.ntmps65
   have M := Lib.hid (hM w)
   have hk3 := M.out.1
   have hk4 := M.out.2.1
   go_wp2_with (go_at_call 31; refine (zed HZ.out _ _ _ lo hi lo' hi' lo2 hi2 _ (HV.out.after M.out.2.2.1.1) (HW.out.after M.out.2.2.1.1) (HS.out.after M.out.2.2.1.1)).mono ?_; rintro e w1 ⟨rfl, hb1⟩; replace M := Lib.hid (M.out.below hb1); clear hb1; replace hk3 := M.out.1; replace hk4 := M.out.2.1)
   exact HR.out _ _ (RetI.nil HAE.out M.out.2.2.1.1)
  ·
   have hkb : ¬ (1 ≤ kd ∧ kd ≤ 4) := by
    rcases HBAD.out with h | h
    ·
     cases h
    ·
     unfold zg8 at h; simp at h; omega
   by_cases h1 : kd < 1
   ·
    have b1 : (decide (kd < 1)) = true := decide_eq_true h1
    refine zc3 fun R hR => ?_
    have HR := Lib.hid hR
    clear hR
    go_enter Tryz.func65, Tryz.ntmps65
    have M := Lib.hid (hM w)
    have hk3 := M.out.1
    have hk4 := M.out.2.1
    go_wp2_with (go_at_call 31; refine (zed HZ.out _ _ _ lo hi lo' hi' lo2 hi2 _ (HV.out.after M.out.2.2.1.1) (HW.out.after M.out.2.2.1.1) (HS.out.after M.out.2.2.1.1)).mono ?_; rintro e w1 ⟨rfl, hb1⟩; replace M := Lib.hid (M.out.below hb1); clear hb1; replace hk3 := M.out.1; replace hk4 := M.out.2.1)
    exact HR.out _ _ (RetI.nil HAE.out M.out.2.2.1.1)
   ·
    have b1 : (decide (kd < 1)) = false := decide_eq_false h1
    have h2 : 4 < kd := by omega
    have b2 : (decide (4 < kd)) = true := decide_eq_true h2
    clear hkb
    refine zc3 fun R hR => ?_
    have HR := Lib.hid hR
    clear hR
    go_enter Tryz.func65, Tryz.ntmps65
    have M := Lib.hid (hM w)
    have hk3 := M.out.1
    have hk4 := M.out.2.1
    go_wp2_with (go_at_call 31; refine (zed HZ.out _ _ _ lo hi lo' hi' lo2 hi2 _ (HV.out.after M.out.2.2.1.1) (HW.out.after M.out.2.2.1.1) (HS.out.after M.out.2.2.1.1)).mono ?_; rintro e w1 ⟨rfl, hb1⟩; replace M := Lib.hid (M.out.below hb1); clear hb1; replace hk3 := M.out.1; replace hk4 := M.out.2.1)
    exact HR.out _ _ (RetI.nil HAE.out M.out.2.2.1.1)
 ·
  have hz1 : z = true := by cases z <;> simp_all
  have hkk : zg8 kd = true := by cases h : zg8 kd <;> simp_all
  subst hz1
  have hkb : 1 ≤ kd ∧ kd ≤ 4 := by unfold zg8 at hkk; simp at hkk; exact hkk
  obtain ⟨h1, h2, h3, h4, h5⟩ := zen hz
  have HAA : Hid (zd2 n l s ⟨kd, tr, ac⟩ = zfj n l s ⟨kd, tr, ac⟩) := Lib.hid (by rw [zd2, hz, hkk]; rfl)
  clear hbad hz hkk
  obtain ⟨b, off, rfl, _, _, hcell⟩ := RdI.at1 hs (k := 0) (by omega)
  obtain ⟨At, ct, hsl, ht⟩ := RdI.tail1 hs h1 hc3
  obtain ⟨tl, htl⟩ : ∃ tl, s.drop 1 = tl := ⟨_, rfl⟩
  have htl2 : tl.length ≤ 1000 := by rw [← htl]; simp; omega
  rw [htl] at hsl ht
  have hae0 := (show zfj n l s ⟨kd, tr, ac⟩ = _ from by unfold zfj; rfl)
  have HAE := Lib.hid (HAA.out.trans hae0)
  clear hae0
  rw [htl] at HAE
  have HT := Lib.hid ht
  have hs0 : (0 : Int) < (s.length : Int) := by omega
  have hs2 : ¬ s = [] := by intro e; rw [e] at h1; simp at h1
  have hs3 : 0 < s.length := h1
  clear hs ht htl HAA
  simp only [Nat.add_zero] at hcell
  have HC := Lib.hid hcell
  clear hcell
  generalize gti s 0 = p at *
  simp only at HAE
  obtain ⟨kp, rfl⟩ : ∃ k : Nat, p = k := ⟨p.toNat, by omega⟩
  by_cases hk2 : kd = 2
  ·
   subst hk2
   by_cases htr : tr = -1
   ·
    subst htr
    cases hna : zgj ac with
    | false =>
     have HNA := Lib.hid hna
     clear hna
     refine zc3 fun R hR => ?_
     have HR := Lib.hid hR
     clear hR
     go_enter Tryz.func65, Tryz.ntmps65
     have M := Lib.hid (hM w)
     have hk3 := M.out.1
     have hk4 := M.out.2.1
     have hcell := C1.aft M.out.2.2.1.1 HC.out
     go_wp2_with (first
      | (go_at_call 31; refine (zed HZ.out _ _ _ lo hi lo' hi' lo2 hi2 _ (HV.out.after M.out.2.2.1.1) (HW.out.after M.out.2.2.1.1) (HS.out.after M.out.2.2.1.1)).mono ?_; rintro e w1 ⟨rfl, hb1⟩; replace M := Lib.hid (M.out.below hb1); clear hb1; replace hk3 := M.out.1; replace hk4 := M.out.2.1; replace hcell := C1.aft M.out.2.2.1.1 HC.out)
      | (go_at_call 75; refine (zfz _ _).mono ?_; rintro e w1 ⟨rfl, hb1⟩; replace M := Lib.hid (M.out.below hb1); clear hb1; rw [HNA.out]; replace hk3 := M.out.1))
     exact HR.out _ _ (RetI.nil (by rw [HAE.out]; simp [HNA.out]) M.out.2.2.1.1)
    | true =>
     have HNA := Lib.hid hna
     clear hna
     by_cases hp : kp < l.length
     ·
      obtain ⟨b5, off5, rfl, _, _, hce5⟩ := RdS.at1 HW.out hp
      have HC5 := Lib.hid hce5
      have HAT : Hid (atB l kp ac = decide (gti l kp = ac)) := Lib.hid (by simp [atB, hp])
      generalize gti l kp = x5 at *
      have bp : ((kp : Int) == (l.length : Int)) = false := by rw [beq_eq_false_iff_ne]; omega
      have hpi : (kp : Int) < l.length := by omega
      clear hce5
      refine zc3 fun R hR => ?_
      have HR := Lib.hid hR
      clear hR
      go_enter Tryz.func65, Tryz.ntmps65
      have M := Lib.hid (hM w)
      have hk3 := M.out.1
      have hk4 := M.out.2.1
      have hcell := C1.aft M.out.2.2.1.1 HC.out
      have hce5 := C1.aft M.out.2.2.1.1 HC5.out
      go_wp2_with (first
       | (go_at_call 31; refine (zed HZ.out _ _ _ lo hi lo' hi' lo2 hi2 _ (HV.out.after M.out.2.2.1.1) (HW.out.after M.out.2.2.1.1) (HS.out.after M.out.2.2.1.1)).mono ?_; rintro e w1 ⟨rfl, hb1⟩; replace M := Lib.hid (M.out.below hb1); clear hb1; replace hk3 := M.out.1; replace hk4 := M.out.2.1; replace hcell := C1.aft M.out.2.2.1.1 HC.out; replace hce5 := C1.aft M.out.2.2.1.1 HC5.out)
       | (go_at_call 75; refine (zfz _ _).mono ?_; rintro e w1 ⟨rfl, hb1⟩; replace M := Lib.hid (M.out.below hb1); clear hb1; rw [HNA.out]; replace hk3 := M.out.1; replace hce5 := C1.aft M.out.2.2.1.1 HC5.out))
      go_quiet (fail)
      replace M := Lib.hid (M.out.drewN nq)
      replace hk3 := M.out.1
      generalize World.drewN _ nq = W at *
      have hzM := M.out.2.2.1.2
      go_wp2_with (go_at_call 103; refine (zgf _ tl lo2 hi2 _ _ (HT.out.after M.out.2.2.1.1) (by omega)).mono ?_; rintro e w7 ⟨A7, c7, rfl, hr7, hb7⟩; have HR7 := Lib.hid hr7; replace M := Lib.hid (M.out.below hb7); clear hb7 hr7)
      all_goals have hae := HAE.out
      all_goals have hinj := @toList_inj x5 ac
      all_goals rw [HAT.out, HNA.out] at hae
      all_goals clear HAE
      all_goals first
       | exact HR.out _ _ (RetI.nil (by rw [hae]; clear hae; go_light; grind) M.out.2.2.1.1)
       | exact HR.out _ _ (RetI.mk (by rw [hae]; clear hae; go_light; grind) rfl HR7.out (by omega) (Nat.le_refl _) M.out.2.2.1.1)
     ·
      obtain rfl : kp = l.length := by omega
      have HAT : Hid (atB l l.length ac = false) := Lib.hid (by simp [atB])
      refine zc3 fun R hR => ?_
      have HR := Lib.hid hR
      clear hR
      go_enter Tryz.func65, Tryz.ntmps65
      have M := Lib.hid (hM w)
      have hk3 := M.out.1
      have hk4 := M.out.2.1
      have hcell := C1.aft M.out.2.2.1.1 HC.out
      go_wp2_with (first
       | (go_at_call 31; refine (zed HZ.out _ _ _ lo hi lo' hi' lo2 hi2 _ (HV.out.after M.out.2.2.1.1) (HW.out.after M.out.2.2.1.1) (HS.out.after M.out.2.2.1.1)).mono ?_; rintro e w1 ⟨rfl, hb1⟩; replace M := Lib.hid (M.out.below hb1); clear hb1; replace hk3 := M.out.1; replace hk4 := M.out.2.1; replace hcell := C1.aft M.out.2.2.1.1 HC.out)
       | (go_at_call 75; refine (zfz _ _).mono ?_; rintro e w1 ⟨rfl, hb1⟩; replace M := Lib.hid (M.out.below hb1); clear hb1; rw [HNA.out]; replace hk3 := M.out.1))
      go_quiet (fail)
      replace M := Lib.hid (M.out.drewN nq)
      generalize World.drewN _ nq = W at *
      go_wp2_with fail
      exact HR.out _ _ (RetI.nil (by rw [HAE.out, HAT.out, HNA.out]; rfl) M.out.2.2.1.1)
   ·
    have btr : (tr != -1) = true := by simpa using htr
    refine zc3 fun R hR => ?_
    have HR := Lib.hid hR
    clear hR
    go_enter Tryz.func65, Tryz.ntmps65
    have M := Lib.hid (hM w)
    have hk3 := M.out.1
    have hk4 := M.out.2.1
    have hcell := C1.aft M.out.2.2.1.1 HC.out
    go_wp2_with (go_at_call 31; refine (zed HZ.out _ _ _ lo hi lo' hi' lo2 hi2 _ (HV.out.after M.out.2.2.1.1) (HW.out.after M.out.2.2.1.1) (HS.out.after M.out.2.2.1.1)).mono ?_; rintro e w1 ⟨rfl, hb1⟩; replace M := Lib.hid (M.out.below hb1); clear hb1; replace hk3 := M.out.1; replace hk4 := M.out.2.1; replace hcell := C1.aft M.out.2.2.1.1 HC.out)
    exact HR.out _ _ (RetI.nil (by rw [HAE.out]; simp; intro h; exact absurd h (by go_light; omega)) M.out.2.2.1.1)
  ·
   have HK2 := Lib.hid hk2
   have hk2' : (kd == 2) = false := by simpa using hk2
   by_cases ht : tr < 0 ∨ n.trans.length ≤ tr
   ·
    have HTT := Lib.hid ht
    refine zc3 fun R hR => ?_
    have HR := Lib.hid hR
    clear hR
    go_enter Tryz.func65, Tryz.ntmps65
    have M := Lib.hid (hM w)
    have hk3 := M.out.1
    have hk4 := M.out.2.1
    have hcell := C1.aft M.out.2.2.1.1 HC.out
    go_wp2_with (go_at_call 31; refine (zed HZ.out _ _ _ lo hi lo' hi' lo2 hi2 _ (HV.out.after M.out.2.2.1.1) (HW.out.after M.out.2.2.1.1) (HS.out.after M.out.2.2.1.1)).mono ?_; rintro e w1 ⟨rfl, hb1⟩; replace M := Lib.hid (M.out.below hb1); clear hb1; replace hk3 := M.out.1; replace hk4 := M.out.2.1; replace hcell := C1.aft M.out.2.2.1.1 HC.out)
    all_goals have hae := HAE.out
    all_goals rw [if_neg HK2.out, if_pos HTT.out] at hae
    all_goals first
     | exact HR.out _ _ (RetI.nil hae M.out.2.2.1.1)
     | (exfalso; go_light; omega)
   ·
    have HTT := Lib.hid ht
    obtain ⟨kt, rfl⟩ : ∃ k : Nat, tr = k := ⟨tr.toNat, by omega⟩
    have hlt : kt < n.trans.length := by omega
    clear ht
    obtain ⟨b4, off4, vi, vo, rfl, hbl, hbh, hcl, hri, hro⟩ := RdT.at3 HV.out hlt
    have HCL := Lib.hid hcl
    have hx1 : ((kt : Int) < 0) = False := by simp
    have hx2 : ((n.trans.length : Int) ≤ (kt : Int)) = False := by simp; omega
    have HFL := Lib.hid (zpq (n := n) (m := tl) (t := kt))
    rw [if_neg HK2.out, if_neg HTT.out, Int.toNat_natCast] at HAE
    generalize gti n.trans kt = x at *
    clear hri hro hcl
    have HFE := Lib.hid (fun (W : World) (h : Below w.heap.size w W) => zve n tl kt _ _ lo hi lo2 hi2 W (HV.out.after h) (HT.out.after h))
    obtain ⟨⟨fl, fe⟩, hfe⟩ : ∃ r, zdi n tl kt = r := ⟨_, rfl⟩
    rw [hfe] at HAE HFE HFL
    simp only at HAE HFL
    clear hfe
    by_cases hlab : ac ≠ x.label ∨ x.label.toList.isEmpty ≠ decide (kd = 4)
    ·
     have HLAB := Lib.hid hlab
     rw [if_pos hlab] at HAE
     have hinj := @toList_inj ac x.label
     have HIN := Lib.hid hinj
     clear hlab hinj
     refine zc3 fun R hR => ?_
     have HR := Lib.hid hR
     clear hR
     go_enter Tryz.func65, Tryz.ntmps65
     have M := Lib.hid (hM w)
     have hk3 := M.out.1
     have hk4 := M.out.2.1
     have hcell := C1.aft M.out.2.2.1.1 HC.out
     have hcr := C3.aft M.out.2.2.1.1 HCL.out
     go_wp2_with (go_at_call 31; refine (zed HZ.out _ _ _ lo hi lo' hi' lo2 hi2 _ (HV.out.after M.out.2.2.1.1) (HW.out.after M.out.2.2.1.1) (HS.out.after M.out.2.2.1.1)).mono ?_; rintro e w1 ⟨rfl, hb1⟩; replace M := Lib.hid (M.out.below hb1); clear hb1; replace hk3 := M.out.1; replace hk4 := M.out.2.1; replace hcell := C1.aft M.out.2.2.1.1 HC.out; replace hcr := C3.aft M.out.2.2.1.1 HCL.out)
     all_goals first
      | exact HR.out _ _ (RetI.nil HAE.out M.out.2.2.1.1)
      | (exfalso; have hl := HLAB.out; have hi := HIN.out; clear HAE HLAB HIN; go_light; grind)
    ·
     rw [if_neg hlab] at HAE
     have hac : ac = x.label := by
      by_cases h : ac = x.label
      ·
       exact h
      ·
       exact absurd (Or.inl h) hlab
     have hem : x.label.toList.isEmpty = decide (kd = 4) := by
      by_cases h : x.label.toList.isEmpty = decide (kd = 4)
      ·
       exact h
      ·
       exact absurd (Or.inr h) hlab
     subst hac
     have HEM := Lib.hid hem
     have hem4 : (x.label.toList.isEmpty != (kd == 4)) = false := by rw [hem]; by_cases h : kd = 4 <;> simp [h]
     have hem5 : ¬ (x.label.toList.isEmpty = !(kd == 4)) := by rw [hem]; cases h : (kd == 4) <;> simp_all
     clear hlab hem
     generalize hac : x.label = ac at *
     clear hac
     by_cases hk1 : kd = 1
     ·
      subst hk1
      by_cases hp : kp < l.length
      ·
       obtain ⟨b5, off5, rfl, _, _, hce5⟩ := RdS.at1 HW.out hp
       have HC5 := Lib.hid hce5
       have HAT : Hid (atB l kp ac = decide (gti l kp = ac)) := Lib.hid (by simp [atB, hp])
       generalize gti l kp = x5 at *
       have bp : ((kp : Int) == (l.length : Int)) = false := by rw [beq_eq_false_iff_ne]; omega
       have hpi : (kp : Int) < l.length := by omega
       clear hce5
       have hinj := @toList_inj x5 ac
       rw [HAT.out] at HAE
       have HIN := Lib.hid hinj
       clear hinj
       refine zc3 fun R hR => ?_
       have HR := Lib.hid hR
       clear hR
       go_enter Tryz.func65, Tryz.ntmps65
       have M := Lib.hid (hM w)
       have hk3 := M.out.1
       have hk4 := M.out.2.1
       have hcell := C1.aft M.out.2.2.1.1 HC.out
       have hce5 := C1.aft M.out.2.2.1.1 HC5.out
       have hcr := C3.aft M.out.2.2.1.1 HCL.out
       go_wp2_with (go_at_call 31; refine (zed HZ.out _ _ _ lo hi lo' hi' lo2 hi2 _ (HV.out.after M.out.2.2.1.1) (HW.out.after M.out.2.2.1.1) (HS.out.after M.out.2.2.1.1)).mono ?_; rintro e w1 ⟨rfl, hb1⟩; replace M := Lib.hid (M.out.below hb1); clear hb1; replace hk3 := M.out.1; replace hk4 := M.out.2.1; replace hcell := C1.aft M.out.2.2.1.1 HC.out; replace hcr := C3.aft M.out.2.2.1.1 HCL.out; replace hce5 := C1.aft M.out.2.2.1.1 HC5.out)
       try (exfalso; have hl := HEM.out; clear HAE HEM HIN; go_light; (first | (clear hem4 hem5; grind) | grind); done)
       go_quiet (fail)
       replace M := Lib.hid (M.out.drewN nq)
       replace hk3 := M.out.1
       replace hk4 := M.out.2.1
       generalize World.drewN _ nq = W at *
       have hzM := M.out.2.2.1.2
       go_wp2_with fail
       ·
        exact HR.out _ _ (RetI.nil (by have hae := HAE.out; have hi := HIN.out; rw [hae]; clear hae HAE HIN; go_light; grind) M.out.2.2.1.1)
       have hi := HIN.out
       replace HAE : Hid (zd2 n l s ⟨1, kt, ac⟩ = if fe ≠ 0 then ([], fe) else ((kp + 1 : Int) :: fl, 0)) := Lib.hid (by have hae := HAE.out; rw [hae]; clear hae HAE HIN; go_light; grind)
       clear hi
       go_region_held3 (fun W => K4 W w.heap.size (.int .i64 n.places) (.slice (some ⟨b4, off4, none⟩) n.trans.length c) (.int .i64 n.source) (.int .i64 n.sink) ∧ K3 W (w.heap.size + 1) (.int .i64 1) (.int .i64 kt) (.string ac)) (exact ⟨hk4, hk3⟩) (first
        | (go_at_call 109; refine (HFE.out _ (by first | exact M.out.2.2.1.1 | exact M.out.drew.2.2.1.1)).mono ?_; rintro e w6 ⟨A6, c6, rfl, hr6, hb6⟩; have hz0 := M.out.2.1.2.2.2.2; have hz1 := M.out.1.2.2.2; have hz6 := hb6.size; replace M := Lib.hid (Mem.below (by first | exact M.out | exact M.out.drew) hb6); have HR6 := Lib.hid hr6; dsimp only at HR6 ⊢; replace hk3 := M.out.1; replace hk4 := M.out.2.1; clear hb6 hr6))
       all_goals
        go_wp2_with (go_at_call 103; refine (zgf _ _ _ _ _ _ HR6.out (by have := HFL.out; omega)).mono ?_; rintro e w7 ⟨A7, c7, rfl, hr7, hb7⟩; have HR7 := Lib.hid hr7; replace M := Lib.hid (M.out.below hb7); clear hb7 hr7)
        all_goals have hae := HAE.out
        all_goals clear HAE
        all_goals first
         | exact HR.out _ _ (RetI.nil (by rw [hae]; clear hae; go_light; grind) M.out.2.2.1.1)
         | exact HR.out _ _ (RetI.mk (by rw [hae]; clear hae; go_light; grind) rfl HR7.out (by omega) (Nat.le_refl _) M.out.2.2.1.1)
      ·
       obtain rfl : kp = l.length := by omega
       have HAT : Hid (atB l l.length ac = false) := Lib.hid (by simp [atB])
       rw [HAT.out] at HAE
       refine zc3 fun R hR => ?_
       have HR := Lib.hid hR
       clear hR
       go_enter Tryz.func65, Tryz.ntmps65
       have M := Lib.hid (hM w)
       have hk3 := M.out.1
       have hk4 := M.out.2.1
       have hcell := C1.aft M.out.2.2.1.1 HC.out
       have hcr := C3.aft M.out.2.2.1.1 HCL.out
       go_wp2_with (go_at_call 31; refine (zed HZ.out _ _ _ lo hi lo' hi' lo2 hi2 _ (HV.out.after M.out.2.2.1.1) (HW.out.after M.out.2.2.1.1) (HS.out.after M.out.2.2.1.1)).mono ?_; rintro e w1 ⟨rfl, hb1⟩; replace M := Lib.hid (M.out.below hb1); clear hb1; replace hk3 := M.out.1; replace hk4 := M.out.2.1; replace hcell := C1.aft M.out.2.2.1.1 HC.out; replace hcr := C3.aft M.out.2.2.1.1 HCL.out)
       try (exfalso; have hl := HEM.out; clear HAE HEM; go_light; (first | (clear hem4 hem5; grind) | grind); done)
       go_quiet (fail)
       replace M := Lib.hid (M.out.drewN nq)
       replace hk3 := M.out.1
       replace hk4 := M.out.2.1
       generalize World.drewN _ nq = W at *
       have hzM := M.out.2.2.1.2
       go_wp2_with fail
       exact HR.out _ _ (RetI.nil (by rw [HAE.out]; simp) M.out.2.2.1.1)
     ·
      have bk1 : (kd == 1) = false := by simpa using hk1
      replace HAE : Hid (zd2 n l s ⟨kd, kt, ac⟩ = if fe ≠ 0 then ([], fe) else ((kp : Int) :: fl, 0)) := Lib.hid (by have hae := HAE.out; rw [hae]; simp [hk1])
      refine zc3 fun R hR => ?_
      have HR := Lib.hid hR
      clear hR
      go_enter Tryz.func65, Tryz.ntmps65
      have M := Lib.hid (hM w)
      have hk3 := M.out.1
      have hk4 := M.out.2.1
      have hcell := C1.aft M.out.2.2.1.1 HC.out
      have hcr := C3.aft M.out.2.2.1.1 HCL.out
      go_wp2_with (go_at_call 31; refine (zed HZ.out _ _ _ lo hi lo' hi' lo2 hi2 _ (HV.out.after M.out.2.2.1.1) (HW.out.after M.out.2.2.1.1) (HS.out.after M.out.2.2.1.1)).mono ?_; rintro e w1 ⟨rfl, hb1⟩; replace M := Lib.hid (M.out.below hb1); clear hb1; replace hk3 := M.out.1; replace hk4 := M.out.2.1; replace hcell := C1.aft M.out.2.2.1.1 HC.out; replace hcr := C3.aft M.out.2.2.1.1 HCL.out)
      all_goals (try (exfalso; have hl := HEM.out; clear HAE HEM; go_light; (first | (clear hem4 hem5; grind) | grind); done))
      go_quiet (fail)
      replace M := Lib.hid (M.out.drewN nq)
      replace hk3 := M.out.1
      replace hk4 := M.out.2.1
      generalize World.drewN _ nq = W at *
      have hzM := M.out.2.2.1.2
      go_wp2_with fail
      go_region_held3 (fun W => K4 W w.heap.size (.int .i64 n.places) (.slice (some ⟨b4, off4, none⟩) n.trans.length c) (.int .i64 n.source) (.int .i64 n.sink) ∧ K3 W (w.heap.size + 1) (.int .i64 kd) (.int .i64 kt) (.string ac)) (exact ⟨hk4, hk3⟩) (first
       | (go_at_call 109; refine (HFE.out _ (by first | exact M.out.2.2.1.1 | exact M.out.drew.2.2.1.1)).mono ?_; rintro e w6 ⟨A6, c6, rfl, hr6, hb6⟩; have hz0 := M.out.2.1.2.2.2.2; have hz1 := M.out.1.2.2.2; have hz6 := hb6.size; replace M := Lib.hid (Mem.below (by first | exact M.out | exact M.out.drew) hb6); have HR6 := Lib.hid hr6; dsimp only at HR6 ⊢; replace hk3 := M.out.1; replace hk4 := M.out.2.1; clear hb6 hr6))
      all_goals
       go_wp2_with (go_at_call 103; refine (zgf _ _ _ _ _ _ HR6.out (by have := HFL.out; omega)).mono ?_; rintro e w7 ⟨A7, c7, rfl, hr7, hb7⟩; have HR7 := Lib.hid hr7; replace M := Lib.hid (M.out.below hb7); clear hb7 hr7)
       all_goals have hae := HAE.out
       all_goals clear HAE
       all_goals first
        | exact HR.out _ _ (RetI.nil (by rw [hae]; clear hae; go_light; grind) M.out.2.2.1.1)
        | exact HR.out _ _ (RetI.mk (by rw [hae]; clear hae; go_light; grind) rfl HR7.out (by omega) (Nat.le_refl _) M.out.2.2.1.1)
end
section
open Go.RowKit
structure Mvx where
 fr : Int
 tt : Int
 sym : Int
instance : Inhabited Mvx := ⟨⟨0, 0, 0⟩⟩
structure Spc where
 st : List (List Int)
 mv : List Mvx
 full : Bool
def zef (S : List (List Int)) (m : List Int) : Int := zc2 (fun x => decide (x = m)) S
def xstS (most : Int) (i : Nat) (s : Spc) (r : List Int × Int) (t : Int) : Option Spc :=
 if r.2 ≠ 0 ∨ (zef s.st r.1 < 0 ∧ most ≤ s.st.length) then some ⟨s.st, s.mv, false⟩
 else if 20000 ≤ s.mv.length then none
 else some ⟨if zef s.st r.1 < 0 then s.st ++ [r.1] else s.st, s.mv ++ [⟨i, if zef s.st r.1 < 0 then s.st.length else zef s.st r.1, t⟩], s.full⟩
theorem mem_gti' {α : Type} [Inhabited α] {l : List α} {x : α} (h : x ∈ l) : ∃ k, k < l.length ∧ gti l k = x := by
 obtain ⟨k, hk, rfl⟩ := List.getElem_of_mem h
 exact ⟨k, hk, by unfold gti; rw [List.getElem?_eq_getElem hk]; rfl⟩
theorem zzd (S : List (List Int)) (m : List Int) : -1 ≤ zef S m := zt4 _ _
theorem zf3 {S : List (List Int)} {m : List Int} : zef S m < 0 ↔ m ∉ S := by
 have h := zeq (fun x => decide (x = m)) S
 unfold zef
 rw [Bool.eq_iff_iff, List.any_eq_true] at h
 simp only [decide_eq_true_eq] at h
 constructor
 ·
  intro hn hm
  have := h.2 ⟨m, hm, rfl⟩
  omega
 ·
  intro hm
  by_cases h0 : 0 ≤ zc2 (fun x => decide (x = m)) S
  ·
   obtain ⟨x, hx, rfl⟩ := h.1 h0
   exact absurd hx hm
  ·
   omega
theorem zps {S : List (List Int)} {m : List Int} (h : 0 ≤ zef S m) : ∃ k : Nat, zef S m = k ∧ S[k]? = some m ∧ k < S.length := by
 unfold zef zc2 at h ⊢
 cases e : S.findIdx? (fun x => decide (x = m)) with
 | none => rw [e] at h; simp at h
 | some k =>
  refine ⟨k, rfl, ?_, ?_⟩
  ·
   have := List.findIdx?_eq_some_iff_getElem.1 e
   obtain ⟨h1, h2, _⟩ := this
   rw [List.getElem?_eq_getElem h1]
   exact congrArg some (of_decide_eq_true h2)
  ·
   exact (List.findIdx?_eq_some_iff_getElem.1 e).1
theorem zny {S : List (List Int)} {m : List Int} {k : Nat} (hk : S[k]? = some m) (hn : ∀ j, j < k → S[j]? ≠ some m) : zef S m = k :=
 zei hk (decide_eq_true rfl) (fun j a hj ha => decide_eq_false (fun e => hn j hj (by rw [ha, e])))
theorem zlt {S : List (List Int)} {m : List Int} (h : m ∉ S) : zef (S ++ [m]) m = S.length :=
 zny (by simp) (fun j hj e => h (by rw [List.getElem?_append_left hj] at e; exact List.mem_of_getElem? e))
theorem zmb {S : List (List Int)} {m x : List Int} (h : m ∈ S) : zef (S ++ [x]) m = zef S m := by
 obtain ⟨k, h1, h2, h3⟩ := zps (S := S) (m := m) (by by_cases h0 : zef S m < 0; exact absurd h (zf3.1 h0); omega)
 unfold zef zc2 at *
 rw [List.findIdx?_append]
 cases e : S.findIdx? (fun x => decide (x = m)) with
 | none => rw [e] at h1; simp at h1
 | some k => rfl
theorem zuf {n : Net} {m : List Int} {t : Int} (hm : zep n m = true) (h : (zdi n m t).2 = 0) : zep n (zdi n m t).1 = true := by
 unfold zdi at h ⊢
 rw [if_pos hm] at h ⊢
 exact zm3 hm h
theorem zq0 {n : Net} {m : List Int} (h : zep n m = true) : ∀ x ∈ m, 0 ≤ x ∧ x ≤ 255 := by
 intro x hx
 unfold zep at h
 simp only [Bool.and_eq_true] at h
 obtain ⟨k, _, rfl⟩ := mem_gti' hx
 have := zgl h.2 k
 omega
theorem zv1 {n : Net} {m : List Int} (h : zep n m = true) : 1 ≤ m.length ∧ m.length ≤ 40 ∧ (m.length : Int) = n.places := by
 unfold zep at h
 simp only [Bool.and_eq_true] at h
 have := zfp h.2
 have := zdy h.1
 omega
structure SI (n : Net) (most : Int) (s : Spc) : Prop where
 marks : ∀ x ∈ s.st, zep n x = true
 nd : s.st.Nodup
 ne : 1 ≤ s.st.length
 le : (s.st.length : Int) ≤ most
 mvs : s.mv.length ≤ 20000
theorem SI.init {n : Net} {m : List Int} {most : Int} (h : zep n m = true) (h1 : ¬ most < 1) : SI n most ⟨[m], [], true⟩ :=
 ⟨fun x hx => by simp at hx; subst hx; exact h, by simp, by simp, by simp; omega, by simp⟩
theorem SI.step {n : Net} {most : Int} {s s' : Spc} {i : Nat} {x : List Int} {t : Int} (h : SI n most s) (hx : zep n x = true) (he : xstS most i s (zdi n x t) t = some s') : SI n most s' := by
 unfold xstS at he
 split at he
 ·
  cases he; exact ⟨h.marks, h.nd, h.ne, h.le, h.mvs⟩
 ·
  rename_i h1
  split at he
  ·
   cases he
  ·
   rename_i h2
   cases he
   have h0 : (zdi n x t).2 = 0 := Classical.byContradiction fun hc => h1 (.inl hc)
   by_cases hf : zef s.st (zdi n x t).1 < 0
   ·
    simp only [if_pos hf]
    have hlt : ¬ most ≤ s.st.length := fun hc => h1 (.inr ⟨hf, hc⟩)
    refine ⟨fun y hy => ?_, ?_, by simp, by simp; omega, by simp; omega⟩
    ·
     rcases List.mem_append.1 hy with hy | hy
     ·
      exact h.marks y hy
     ·
      simp at hy; subst hy; exact zuf hx h0
    ·
     refine List.nodup_append.2 ⟨h.nd, by simp, fun a ha b hb e => ?_⟩
     simp at hb
     subst hb e
     exact zf3.1 hf ha
   ·
    simp only [if_neg hf]
    exact ⟨h.marks, h.nd, h.ne, h.le, by simp; omega⟩
theorem SI.gti {n : Net} {most : Int} {s : Spc} (h : SI n most s) {i : Nat} (hi : i < s.st.length) : zep n (gti s.st i) = true := h.marks _ (gti_mem hi)
end
end Go.Proofs.YtjhdcgaiccnmeaaGreatDoor
