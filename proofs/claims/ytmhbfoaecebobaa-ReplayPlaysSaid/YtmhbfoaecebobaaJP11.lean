/-
  Texts joined: Fire2, Fire3, WfP, Bool, Cls. Conditions: none.
-/
import Derived.Test.YtmhbfoaecebobaaJP10
import Derived.StillTailTactics
import Derived.Test.YtmhbfoaecebobaaJP9
import Derived.Test.YtmhbfoaecebobaaJP5
section
namespace Go.Proofs.Ytmhbfoaecebobaa
set_option linter.unusedSimpArgs false
set_option linter.unusedVariables false
open Go.RowKit

theorem placesB_lt {n : Int} {l : List Int} (h : placesB n l = true) : ∀ (j i : Nat), i < j → j < l.length → gti l i < gti l j
  | 0, i, hij, _ => by omega
  | j + 1, i, hij, hj => by
    have hb : ¬ badP n l (j + 1) := fun hb => by rw [placesB_false hj hb] at h; cases h
    unfold badP at hb
    simp only [Nat.add_sub_cancel] at hb
    by_cases hji : i = j
    · subst hji; omega
    · have := placesB_lt h j i (by omega) (by omega)
      omega
theorem placesB_tail {n : Int} {p : Int} {ps : List Int} (h : placesB n (p :: ps) = true) : placesB n ps = true := by
  apply placesB_true
  intro k hk
  have hb : ¬ badP n (p :: ps) (k + 1) := fun hb => by rw [placesB_false (by simp; omega) hb] at h; cases h
  unfold badP at hb ⊢
  have e1 : gti (p :: ps) (k + 1) = gti ps k := by simp [gti]
  rw [e1] at hb
  rcases Nat.eq_zero_or_pos k with rfl | hk0
  · omega
  · obtain ⟨j, rfl⟩ : ∃ j, k = j + 1 := ⟨k - 1, by omega⟩
    have e2 : gti (p :: ps) (j + 1) = gti ps j := by simp [gti]
    simp only [Nat.add_sub_cancel] at hb ⊢
    rw [e2] at hb
    omega
theorem placesB_head {n : Int} {p : Int} {ps : List Int} (h : placesB n (p :: ps) = true) : 0 ≤ p ∧ p < n ∧ ∀ q ∈ ps, q.toNat ≠ p.toNat := by
  have h0 := placesB_at h (k := 0) (by simp)
  have e : gti (p :: ps) 0 = p := by simp [gti]
  rw [e] at h0
  refine ⟨h0.1, h0.2.1, fun q hq => ?_⟩
  obtain ⟨k, hk, rfl⟩ := mem_gti hq
  have := placesB_lt h (k + 1) 0 (by omega) (by simp; omega)
  have e1 : gti (p :: ps) (k + 1) = gti ps k := by simp [gti]
  rw [e, e1] at this
  omega
theorem decL_nonneg {n : Int} : ∀ {ps m : List Int}, placesB n ps = true → (∀ i, 0 ≤ gti m i) → (∀ p ∈ ps, 1 ≤ gti m p.toNat) → ∀ i, 0 ≤ gti (decL ps m) i
  | [], m, _, h, _, i => h i
  | p :: ps, m, hp, h, h1, i => by
    obtain ⟨hp0, hp1, hpn⟩ := placesB_head hp
    refine decL_nonneg (placesB_tail hp) (fun j => ?_) (fun q hq => ?_) i
    · rw [gti_set]
      have := h j
      have := h1 p (List.mem_cons_self ..)
      split <;> omega
    · rw [gti_set, if_neg (fun e => hpn q hq e.1.symm)]
      exact h1 q (List.mem_cons_of_mem _ hq)
theorem incL_nonneg : ∀ {ps m : List Int}, (∀ i, 0 ≤ gti m i) → ∀ i, 0 ≤ gti (incL ps m) i
  | [], m, h, i => h i
  | p :: ps, m, h, i => by
    rw [incL]
    refine incL_nonneg (fun j => ?_) i
    rw [gti_set]
    have := h j
    have := h p.toNat
    split <;> omega
theorem enB_at {t : Tr} {m : List Int} (h : enB t m = true) {p : Int} (hp : p ∈ t.inn) : gti m p.toNat ≠ 0 := by
  unfold enB at h
  simp only [Bool.not_eq_true', List.any_eq_false, decide_eq_true_eq] at h
  exact h p hp
theorem all01_iff : ∀ {m : List Int}, (∀ i, 0 ≤ gti m i) → all01 m = !m.any fun y => decide (100 < y)
  | [], _ => rfl
  | x :: m, h => by
    have h0 : 0 ≤ x := by have := h 0; simpa [gti] using this
    have := all01_iff (m := m) (fun i => by have := h (i + 1); simpa [gti] using this)
    simp only [all01, List.any_cons]
    rw [this]
    grind
/-- the marking after a transition that is enabled: too many tokens, or a marking -/
theorem fire_mark {n : Net} {m : List Int} {t : Tr} (hm : mark2B n m = true) (ht : placesB n.places t.inn = true) (he : enB t m = true) :
    mark2B n (incL t.out (decL t.inn m)) = !(incL t.out (decL t.inn m)).any fun y => decide (100 < y) := by
  have hnn : ∀ i, 0 ≤ gti (incL t.out (decL t.inn m)) i := incL_nonneg (decL_nonneg ht (fun i => (mark2B_at hm i).1) (fun p hp => by
    have := enB_at he hp
    have := (mark2B_at hm p.toNat).1
    omega))
  unfold mark2B
  rw [if_neg (by rw [incL_len, decL_len]; have := mark2B_len hm; omega), all01_iff hnn]
theorem fireE_mark {n : Net} {m : List Int} {t : Int} (hm : markB n m = true) (h : (fireE n m t).2 = 0) : markB n (fireE n m t).1 = true := by
  unfold markB at hm ⊢
  simp only [Bool.and_eq_true] at hm ⊢
  refine ⟨hm.1, ?_⟩
  unfold fireE at h ⊢
  split
  · rename_i h1; rw [if_pos h1] at h; simp at h
  · rename_i h1
    rw [if_neg h1] at h
    split
    · rename_i h2
      rw [if_pos h2] at h
      split
      · rename_i h3; rw [if_pos h3] at h; simp at h
      · rename_i h3
        have htr := validB_tr hm.1 (gti_mem (l := n.trans) (k := t.toNat) (by omega))
        rw [fire_mark hm.2 htr.2.1 h2]
        simpa using h3
    · rename_i h2; rw [if_neg h2] at h; simp at h

def FireE (n : Net) (m : List Int) (t : Int) : List Int × Int := if markB n m then fireE n m t else ([], 1)
set_option maxHeartbeats 1000000 in
theorem Fire_any (n : Net) (m : List Int) (t : Int) (vt v : Value) (lo hi lo' hi' : Nat) (w : World) (hv : RdT w lo hi vt n.trans) (hm : RdI w lo' hi' v m) :
    Calls Try.prog 45 #[netV n vt, v, .int .i64 t] w (RetI w (FireE n m t)) := by
  obtain ⟨A, c, rfl, hc, hmm⟩ := hv.form
  obtain ⟨A2, c2, rfl, hc2, hmm2⟩ := hm.form
  have HV := Lib.hid hv
  have HW := Lib.hid hm
  clear hv hm
  cases hvb : markB n m <;> have HVB := Lib.hid hvb <;> clear hvb
  all_goals
    refine calls_cps fun R hR => ?_
    have HR := Lib.hid hR
    clear hR
    go_enter Try.func45, Try.ntmps45
    have M : Hid (Mem [Loc.k4 w.heap.size (.int .i64 n.places) (.slice A n.trans.length c) (.int .i64 n.source) (.int .i64 n.sink), Loc.bl w.heap.size w] (w.alloc (.cells #[.int .i64 n.places, .slice A n.trans.length c, .int .i64 n.source, .int .i64 n.sink] 24))) := Lib.hid ⟨K4.new w _ _ _ _ _, ⟨(Below.refl _ _).alloc (Nat.le_refl _) _, by simp⟩, True.intro⟩
    have hk4 := M.out.1
    go_wp2_with (first
      | (go_at_call 62; refine (marking_is HVB.out _ _ lo hi lo' hi' _ (HV.out.after M.out.2.1.1) (HW.out.after M.out.2.1.1)).mono ?_; rintro e w1 ⟨rfl, hb1⟩; replace M := Lib.hid (M.out.below hb1); clear hb1; replace hk4 := M.out.1)
      | (go_at_call 63; refine (fire_any n m t _ _ lo hi lo' hi' _ (HV.out.after M.out.2.1.1) (HW.out.after M.out.2.1.1) HVB.out).mono ?_; rintro e w2 ⟨A1, c1, rfl, hr1, hb1⟩; have HR1 := Lib.hid hr1; have hws := M.out.2.1.2; replace M := Lib.hid (M.out.below hb1); clear hb1 hr1))
  · exact HR.out _ _ (RetI.nil (by rw [FireE, HVB.out]; rfl) M.out.2.1.1)
  · exact HR.out _ _ (RetI.mk (by rw [FireE, HVB.out]; rfl) rfl HR1.out hws (Nat.le_refl _) M.out.2.1.1)

def canL (m : List Int) : List Int → Bool
  | [] => true
  | p :: ps => if gti m p.toNat < 1 then false else canL m ps
theorem canL_en {m : List Int} (hm : ∀ i, 0 ≤ gti m i) : ∀ ps : List Int, canL m ps = !ps.any fun p => decide (gti m p.toNat = 0)
  | [] => rfl
  | p :: ps => by
    have := hm p.toNat
    rw [canL, canL_en hm ps, List.any_cons]
    grind
set_option maxHeartbeats 1000000 in
theorem can_any (n : Net) (m : List Int) (t : Nat) (vt v : Value) (lo hi lo' hi' : Nat) (w : World) (hv : RdT w lo hi vt n.trans) (hm : RdI w lo' hi' v m) (ht : t < n.trans.length) (hin : ∀ k, k < (gti n.trans t).inn.length → 0 ≤ gti (gti n.trans t).inn k ∧ gti (gti n.trans t).inn k < m.length) :
    Calls Try.prog 80 #[netV n vt, v, .int .i64 t] w fun e w' => e = .returned (.bool (canL m (gti n.trans t).inn)) ∧ Below w.heap.size w w' := by
  obtain ⟨A, c, rfl, hc, hmm⟩ := hv.form
  obtain ⟨A2, c2, rfl, hc2, hmm2⟩ := hm.form
  obtain ⟨b, off, vi, vo, rfl, hbl, hbh, hcell, hri, hro⟩ := RdT.at3 hv ht
  obtain ⟨Ai, ci, rfl, hci, hmi⟩ := hri.form
  have HV := Lib.hid hv
  have HW := Lib.hid hm
  have HRI := Lib.hid hri
  have HN := Lib.hid hin
  clear hv hm hri hro hin
  generalize gti n.trans t = x at *
  refine calls_cps fun R hR => ?_
  have HR := Lib.hid hR
  clear hR
  go_enter Try.func80, Try.ntmps80
  have M : Hid (Mem [Loc.k4 w.heap.size (.int .i64 n.places) (.slice (some ⟨b, off, none⟩) n.trans.length c) (.int .i64 n.source) (.int .i64 n.sink), Loc.bl w.heap.size w] (w.alloc (.cells #[.int .i64 n.places, .slice (some ⟨b, off, none⟩) n.trans.length c, .int .i64 n.source, .int .i64 n.sink] 24))) := Lib.hid ⟨K4.new w _ _ _ _ _, ⟨(Below.refl _ _).alloc (Nat.le_refl _) _, by simp⟩, True.intro⟩
  have hk4 := M.out.1
  replace hcell := C3.aft ((Below.refl w.heap.size w).alloc (Nat.le_refl _) (.cells #[.int .i64 n.places, .slice (some ⟨b, off, none⟩) n.trans.length c, .int .i64 n.source, .int .i64 n.sink] 24)) hcell
  go_wp2_with fail
  generalize w.alloc (.cells #[.int .i64 n.places, .slice (some ⟨b, off, none⟩) n.trans.length c, .int .i64 n.source, .int .i64 n.sink] 24) = W at *
  go_loop [7] (fun v7 => ∃ k : Nat, k ≤ x.inn.length ∧ v7 = .int .i64 k ∧ Hid (canL m (x.inn.drop k) = canL m x.inn)) (fun v7 => x.inn.length - (intOf v7).toNat)
  case atStart => exact ⟨0, by omega, rfl, Lib.hid rfl⟩
  case round =>
    obtain ⟨k, hk, rfl, HI⟩ := hrel
    by_cases hlt : k < x.inn.length
    · have hpr := HN.out k hlt
      obtain ⟨bb, oo, rfl, _, _, hce⟩ := RdI.at1 (HRI.out.after M.out.2.1.1) hlt
      have HD := Lib.hid (drop_gti hlt)
      generalize gti x.inn k = p at *
      obtain ⟨kp, rfl⟩ : ∃ j : Nat, p = j := ⟨p.toNat, by omega⟩
      have hkp : kp < m.length := by omega
      clear hpr
      obtain ⟨b2, o2, rfl, _, _, hce2⟩ := RdI.at1 (HW.out.after M.out.2.1.1) hkp
      have HJ : Hid (canL m x.inn = if gti m kp < 1 then false else canL m (x.inn.drop (k + 1))) := Lib.hid (by rw [← HI.out, HD.out, canL, Int.toNat_natCast])
      generalize gti m kp = y at *
      go_wp2_with fail
      all_goals have hj := HJ.out
      all_goals first
        | ((with_reducible refine HR.out _ _ ⟨?_, ?_⟩) <;> first | exact ret_bool (by clear HJ; go_light; grind) | exact M.out.2.1.1)
        | (refine ⟨⟨k + 1, by omega, by go_num, Lib.hid (by clear HJ; go_light; grind)⟩, by simp [intOf]; omega⟩)
    · obtain rfl : k = x.inn.length := by omega
      have HE : Hid (canL m x.inn = true) := Lib.hid (by rw [← HI.out]; simp [canL])
      clear HI
      go_wp2_with fail
      all_goals ((with_reducible refine HR.out _ _ ⟨?_, ?_⟩) <;> first | exact ret_bool (by rw [HE.out]) | exact M.out.2.1.1)
end Go.Proofs.Ytmhbfoaecebobaa
end
section
namespace Go.Proofs.Ytmhbfoaecebobaa
set_option linter.unusedSimpArgs false
set_option linter.unusedVariables false
open Go.RowKit

theorem rmarking_is {n : Net} {m : List Int} {b : Bool} (hb : mark2B n m = b) (vt v : Value) (lo hi : Nat) (w : World) (hv : RdI w lo hi v m) :
    Calls Try.prog 86 #[netV n vt, v] w fun e w' => e = .returned (.bool b) ∧ Below w.heap.size w w' := hb ▸ rmarking_any n vt m v lo hi w hv
theorem Mem.lit0 {L : List Loc} {w : World} (hM : Mem L w) : Mem (Loc.owI w.heap.size (w.heap.size + 1) (.slice (some ⟨w.heap.size, 0, none⟩) 0 0) [] :: L) (w.alloc (.cells #[] 3)) :=
  ⟨Own.lit w 3 w.heap.size [] #[] 0 rfl rfl (Nat.le_refl _) (Nat.zero_le _) (fun _ => rfl), hM.alloc _⟩
theorem Mem.lit1 {L : List Loc} {w : World} (hM : Mem L w) (x : Int) : Mem (Loc.owI w.heap.size (w.heap.size + 1) (.slice (some ⟨w.heap.size, 0, none⟩) 1 1) [x] :: L) (w.alloc (.cells #[.int .i64 x] 3)) :=
  ⟨Own.lit w 3 w.heap.size [x] #[.int .i64 x] 1 rfl rfl (Nat.le_refl _) (by decide) (fun _ => rfl), hM.alloc _⟩
theorem Mem.app0 {w : World} {L : List Loc} {lo hi : Nat} {A : Option Addr} {c : Nat} {m : List Int} (h : Mem (Loc.owI lo hi (.slice A (([] : List Int).length + m.length) c) ([] ++ m) :: L) w) : Mem (Loc.owI lo hi (.slice A m.length c) m :: L) w := by
  simpa only [List.length_nil, Nat.zero_add, List.nil_append] using h

set_option maxRecDepth 100000 in
set_option maxHeartbeats 4000000 in
theorem rFire_any (n : Net) (m : List Int) (t : Int) (vt v : Value) (lo hi lo' hi' : Nat) (w : World) (hv : RdT w lo hi vt n.trans) (hm : RdI w lo' hi' v m) :
    Calls Try.prog 48 #[netV n vt, v, .int .i64 t] w (RetI w (FireE n m t)) := by
  obtain ⟨A, c, rfl, hc, hmm⟩ := hv.form
  obtain ⟨A2, c2, rfl, hc2, hmm2⟩ := hm.form
  have HV := Lib.hid hv
  have HW := Lib.hid hm
  clear hv hm
  cases hvb : validB n with
  | false =>
    have HVB := Lib.hid hvb
    clear hvb
    refine calls_cps fun R hR => ?_
    have HR := Lib.hid hR
    clear hR
    go_enter Try.func48, Try.ntmps48
    have M : Hid (Mem [Loc.k4 w.heap.size (.int .i64 n.places) (.slice A n.trans.length c) (.int .i64 n.source) (.int .i64 n.sink), Loc.bl w.heap.size w] (w.alloc (.cells #[.int .i64 n.places, .slice A n.trans.length c, .int .i64 n.source, .int .i64 n.sink] 24))) := Lib.hid ⟨K4.new w _ _ _ _ _, ⟨(Below.refl _ _).alloc (Nat.le_refl _) _, by simp⟩, True.intro⟩
    have hk4 := M.out.1
    go_wp2_with (go_at_call 49; refine (rvalid_is HVB.out _ lo hi _ (HV.out.after M.out.2.1.1)).mono ?_; rintro e w1 ⟨rfl, hb1⟩; replace M := Lib.hid (M.out.below hb1); clear hb1; replace hk4 := M.out.1)
    exact HR.out _ _ (RetI.nil (by rw [FireE, markB, HVB.out]; rfl) M.out.2.1.1)
  | true =>
  cases hmb : mark2B n m with
  | false =>
    have HVB := Lib.hid hvb
    have HMB := Lib.hid hmb
    clear hvb hmb
    refine calls_cps fun R hR => ?_
    have HR := Lib.hid hR
    clear hR
    go_enter Try.func48, Try.ntmps48
    have M : Hid (Mem [Loc.k4 w.heap.size (.int .i64 n.places) (.slice A n.trans.length c) (.int .i64 n.source) (.int .i64 n.sink), Loc.bl w.heap.size w] (w.alloc (.cells #[.int .i64 n.places, .slice A n.trans.length c, .int .i64 n.source, .int .i64 n.sink] 24))) := Lib.hid ⟨K4.new w _ _ _ _ _, ⟨(Below.refl _ _).alloc (Nat.le_refl _) _, by simp⟩, True.intro⟩
    have hk4 := M.out.1
    go_wp2_with (first
      | (go_at_call 49; refine (rvalid_is HVB.out _ lo hi _ (HV.out.after M.out.2.1.1)).mono ?_; rintro e w1 ⟨rfl, hb1⟩; replace M := Lib.hid (M.out.below hb1); clear hb1; replace hk4 := M.out.1)
      | (go_at_call 86; refine (rmarking_is HMB.out _ _ lo' hi' _ (HW.out.after M.out.2.1.1)).mono ?_; rintro e w1 ⟨rfl, hb1⟩; replace M := Lib.hid (M.out.below hb1); clear hb1; replace hk4 := M.out.1))
    exact HR.out _ _ (RetI.nil (by rw [FireE, markB, HVB.out, HMB.out]; rfl) M.out.2.1.1)
  | true =>
  have HVB := Lib.hid hvb
  have HMB := Lib.hid hmb
  have hpl := validB_places hvb
  have hlen := mark2B_len hmb
  have HFF : Hid (FireE n m t = fireE n m t) := Lib.hid (by rw [FireE, markB, hvb, hmb]; rfl)
  obtain ⟨np, hnp⟩ : ∃ k : Nat, n.places = k := ⟨n.places.toNat, by omega⟩
  have hml : m.length = np := by omega
  have hnp1 : 1 ≤ np := by omega
  have hnp40 : np ≤ 40 := by omega
  have HNP := Lib.hid hnp
  have HML := Lib.hid hml
  clear hpl hlen hnp hml hvb hmb
  by_cases ht : t < 0 ∨ n.trans.length ≤ t
  · have HT := Lib.hid ht
    refine calls_cps fun R hR => ?_
    have HR := Lib.hid hR
    clear hR
    go_enter Try.func48, Try.ntmps48
    have M : Hid (Mem [Loc.k4 w.heap.size (.int .i64 n.places) (.slice A n.trans.length c) (.int .i64 n.source) (.int .i64 n.sink), Loc.bl w.heap.size w] (w.alloc (.cells #[.int .i64 n.places, .slice A n.trans.length c, .int .i64 n.source, .int .i64 n.sink] 24))) := Lib.hid ⟨K4.new w _ _ _ _ _, ⟨(Below.refl _ _).alloc (Nat.le_refl _) _, by simp⟩, True.intro⟩
    have hk4 := M.out.1
    go_wp2_with (first
      | (go_at_call 49; refine (rvalid_is HVB.out _ lo hi _ (HV.out.after M.out.2.1.1)).mono ?_; rintro e w1 ⟨rfl, hb1⟩; replace M := Lib.hid (M.out.below hb1); clear hb1; replace hk4 := M.out.1)
      | (go_at_call 86; refine (rmarking_is HMB.out _ _ lo' hi' _ (HW.out.after M.out.2.1.1)).mono ?_; rintro e w1 ⟨rfl, hb1⟩; replace M := Lib.hid (M.out.below hb1); clear hb1; replace hk4 := M.out.1))
    all_goals first
      | exact HR.out _ _ (RetI.nil (by rw [HFF.out, fireE, if_pos HT.out]) M.out.2.1.1)
      | (exfalso; go_light; omega)
  · have HT := Lib.hid ht
    obtain ⟨kt, rfl⟩ : ∃ k : Nat, t = k := ⟨t.toNat, by omega⟩
    have hlt : kt < n.trans.length := by omega
    clear ht
    obtain ⟨b, off, vi, vo, rfl, hbl, hbh, hcell, hri, hro⟩ := RdT.at3 HV.out hlt
    have HTR := Lib.hid (validB_tr HVB.out (gti_mem hlt))
    obtain ⟨Ai, ci, rfl, hci, hmi⟩ := hri.form
    obtain ⟨Ao, co, rfl, hco, hmo⟩ := hro.form
    have HFE : Hid (FireE n m kt = if enB (gti n.trans kt) m then
        if (incL (gti n.trans kt).out (decL (gti n.trans kt).inn m)).any (fun y => decide (100 < y)) then ([], 5)
        else (incL (gti n.trans kt).out (decL (gti n.trans kt).inn m), 0)
      else ([], 12)) := Lib.hid (by rw [HFF.out, fireE, if_neg HT.out, Int.toNat_natCast])
    have HCAN : Hid (∀ W, Below w.heap.size w W → Calls Try.prog 80 #[netV n (.slice (some ⟨b, off, none⟩) n.trans.length c), .slice A2 m.length c2, .int .i64 kt] W fun e w' => e = .returned (.bool (enB (gti n.trans kt) m)) ∧ Below W.heap.size W w') :=
      Lib.hid (fun W hW => by
        have h := can_any n m kt _ _ lo hi lo' hi' W (HV.out.after hW) (HW.out.after hW) hlt (fun k hk => by
          have := placesB_at HTR.out.2.1 hk
          have := HNP.out
          have := HML.out
          omega)
        rw [canL_en (fun i => (mark2B_at HMB.out i).1)] at h
        exact h)
    have HFM : Hid (enB (gti n.trans kt) m = true → mark2B n (incL (gti n.trans kt).out (decL (gti n.trans kt).inn m)) = !(incL (gti n.trans kt).out (decL (gti n.trans kt).inn m)).any fun y => decide (100 < y)) := Lib.hid (fun h => fire_mark HMB.out HTR.out.2.1 h)
    generalize gti n.trans kt = x at *
    have HRI := Lib.hid hri
    have HRO := Lib.hid hro
    have hil : x.inn.length ≤ 40 := by have := placesB_len HTR.out.2.1; have := HNP.out; omega
    have hol : x.out.length ≤ 40 := by have := placesB_len HTR.out.2.2; have := HNP.out; omega
    have hx1 : ((kt : Int) < 0) = False := by simp
    have hx2 : ((n.trans.length : Int) ≤ (kt : Int)) = False := by simp; omega
    have HC := Lib.hid hcell
    clear hri hro HT HFF hcell
    refine calls_cps fun R hR => ?_
    have HR := Lib.hid hR
    clear hR
    go_enter Try.func48, Try.ntmps48
    have M : Hid (Mem [Loc.k4 w.heap.size (.int .i64 n.places) (.slice (some ⟨b, off, none⟩) n.trans.length c) (.int .i64 n.source) (.int .i64 n.sink), Loc.bl w.heap.size w] (w.alloc (.cells #[.int .i64 n.places, .slice (some ⟨b, off, none⟩) n.trans.length c, .int .i64 n.source, .int .i64 n.sink] 24))) := Lib.hid ⟨K4.new w _ _ _ _ _, ⟨(Below.refl _ _).alloc (Nat.le_refl _) _, by simp⟩, True.intro⟩
    have hk4 := M.out.1
    go_wp2_with (first
      | (go_at_call 49; refine (rvalid_is HVB.out _ lo hi _ (HV.out.after M.out.2.1.1)).mono ?_; rintro e w1 ⟨rfl, hb1⟩; replace M := Lib.hid (M.out.below hb1); clear hb1; replace hk4 := M.out.1)
      | (go_at_call 86; refine (rmarking_is HMB.out _ _ lo' hi' _ (HW.out.after M.out.2.1.1)).mono ?_; rintro e w1 ⟨rfl, hb1⟩; replace M := Lib.hid (M.out.below hb1); clear hb1; replace hk4 := M.out.1)
      | (go_at_call 80; refine (HCAN.out _ M.out.2.1.1).mono ?_; rintro e w3 ⟨rfl, hb1⟩; replace M := Lib.hid (M.out.below hb1); clear hb1; replace hk4 := M.out.1; have hz3 := M.out.1.2.2.2.2)
      | (at_builtin; refine wpList_app rfl _ _ rfl ti_int (fun _ => rfl) oneI rfl rfl (Mem.lit0 M.out) (by (repeat' (first | exact True.intro | refine And.intro (fun k hk e => ?_) ?_)) <;> (first | exact e | ((try dsimp only [Loc.c1, Loc.c2, Loc.k1, Loc.k2, Loc.k3, Loc.k4, Loc.k6, Loc.fr, Loc.bl, Loc.own, Loc.sz, Loc.rd, Loc.rdI, Loc.rdS, Loc.rdM, Loc.rdT, Loc.ow, Loc.owI] at hk e) <;> omega))) (HW.out.after (M.out.2.1.1.alloc M.out.2.1.2 _)) (by have := HML.out; simp; omega) (by have := HML.out; simp; omega) (by simp) ?_; intro A1 c1 w4 hM1 hs1 hch1; replace M := Lib.hid (Mem.app0 hM1); clear hM1 hch1; (try simp only [World.size_alloc] at hs1)))
    · exact HR.out _ _ (RetI.nil (by have hfe := HFE.out; clear HFE; go_light; grind) M.out.2.1.1)
    · have hEN : enB x m = true := by go_light; grind
      have HEN := Lib.hid hEN
      clear hEN
      obtain ⟨g, cap, hA1, hgl, hgh, hgs⟩ := M.out.1.blk (by have := HML.out; omega)
      injection hA1 with e1 _ e3
      subst e1 e3
      go_loopw [9] (fun v9 wr => ∃ (k : Nat) (cur : List Int), k ≤ x.inn.length ∧ v9 = .int .i64 k ∧ Hid (decL (x.inn.drop k) cur = decL x.inn m) ∧ Hid (Bnd (100 + k) cur) ∧ Hid (cur.length = m.length) ∧ Hid (Mem [Loc.owI w3.heap.size w4.heap.size (.slice (some ⟨g, 0, none⟩) m.length c1) cur, Loc.k4 w.heap.size (.int .i64 n.places) (.slice (some ⟨b, off, none⟩) n.trans.length c) (.int .i64 n.source) (.int .i64 n.sink), Loc.bl w.heap.size w, Loc.sz w4.heap.size] wr)) (fun v9 _ => x.inn.length - (intOf v9).toNat)
      case atStart => exact ⟨0, m, by omega, rfl, Lib.hid rfl, Lib.hid (fun i => by have := mark2B_at HMB.out i; omega), Lib.hid rfl, Lib.hid ⟨M.out.1, M.out.2.1, M.out.2.2.1, Nat.le_refl _, True.intro⟩⟩
      case round =>
        obtain ⟨k, cur, hk, rfl, HI, HBD, HCL, HM⟩ := hrel
        replace hk4 := HM.out.2.1
        have hcr := C3.aft HM.out.2.2.1.1 HC.out
        by_cases hltk : k < x.inn.length
        · obtain ⟨bb, oo, rfl, _, _, hce⟩ := RdI.at1 (HRI.out.after HM.out.2.2.1.1) hltk
          have HD := Lib.hid (drop_gti hltk)
          have hpr := placesB_at HTR.out.2.1 hltk
          generalize gti x.inn k = p at *
          obtain ⟨kp, rfl⟩ : ∃ j : Nat, p = j := ⟨p.toNat, by omega⟩
          have hkp : kp < m.length := by have := HNP.out; have := HML.out; omega
          have hkc : kp < cur.length := by rw [HCL.out]; exact hkp
          have hat := OwnI.at1 HM.out.1 hkc
          have hbd := HBD.out kp
          have HO2 := Lib.hid (OwnI.set (HM.out.drew).1 kp (gti cur kp - 1))
          clear hpr hkc
          go_wp2_with fail
          go_still_tail 24, (by kernel_rfl)
          change wpList _ _ _ _ _ wr.drew
          go_wp2_with fail
          have hA : Hid (decL (x.inn.drop (k + 1)) (cur.set kp (gti cur kp - 1)) = decL x.inn m) := Lib.hid (by
            have h := HI.out
            rw [HD.out, decL, Int.toNat_natCast] at h
            exact h)
          have hB : Hid (Bnd (100 + ((k + 1 : Nat) : Int)) (cur.set kp (gti cur kp - 1))) := Lib.hid (by
            have := HBD.out.dec kp
            rw [show (100 + ((k + 1 : Nat) : Int)) = 100 + (k : Int) + 1 by omega]
            exact this)
          have hC : Hid ((cur.set kp (gti cur kp - 1)).length = m.length) := Lib.hid (by rw [List.length_set]; exact HCL.out)
          have hk1 : k + 1 ≤ x.inn.length := by omega
          have hMr := HM.out.drew.2.set (g := g) (i := kp) (u := .int .i64 (gti cur kp - 1)) (by (repeat' (first | exact True.intro | refine And.intro (fun k hk e => ?_) ?_)) <;> (first | exact e | ((try dsimp only [Loc.c1, Loc.c2, Loc.k1, Loc.k2, Loc.k3, Loc.k4, Loc.k6, Loc.fr, Loc.bl, Loc.own, Loc.sz, Loc.rd, Loc.rdI, Loc.rdS, Loc.rdM, Loc.rdT, Loc.ow, Loc.owI] at hk e) <;> omega)))
          go_roundw
          case rel => (first | exact ⟨k + 1, cur.set kp (gti cur kp - 1), hk1, rfl, hA, hB, hC, Lib.hid ⟨HO2.out, hMr⟩⟩ | ((repeat apply Exists.intro); exact ⟨⟨k + 1, cur.set kp (gti cur kp - 1), hk1, rfl, hA, hB, hC, Lib.hid ⟨HO2.out, hMr⟩⟩, rfl⟩))
          case measure => simp [intOf]; omega
        · obtain rfl : k = x.inn.length := by omega
          have HE : Hid (cur = decL x.inn m) := Lib.hid (by have h := HI.out; simpa [decL] using h)
          clear HI
          go_wp2_with fail
          go_loopw [10] (fun v10 wr => ∃ (k : Nat) (cur : List Int), k ≤ x.out.length ∧ v10 = .int .i64 k ∧ Hid (incL (x.out.drop k) cur = incL x.out (decL x.inn m)) ∧ Hid (Bnd ((100 + x.inn.length) + k) cur) ∧ Hid (cur.length = m.length) ∧ Hid (Mem [Loc.owI w3.heap.size w4.heap.size (.slice (some ⟨g, 0, none⟩) m.length c1) cur, Loc.k4 w.heap.size (.int .i64 n.places) (.slice (some ⟨b, off, none⟩) n.trans.length c) (.int .i64 n.source) (.int .i64 n.sink), Loc.bl w.heap.size w, Loc.sz w4.heap.size] wr)) (fun v10 _ => x.out.length - (intOf v10).toNat)
          case atStart => exact ⟨0, cur, by omega, rfl, Lib.hid (by rw [HE.out]; rfl), Lib.hid (by simpa using HBD.out), HCL, HM⟩
          case round =>
            clear HE HBD HCL HM hk4 hcr
            obtain ⟨k, cur, hk, rfl, HI, HBD, HCL, HM⟩ := hrel
            have hk4 := HM.out.2.1
            have hcr := C3.aft HM.out.2.2.1.1 HC.out
            by_cases hltk : k < x.out.length
            · obtain ⟨bb, oo, rfl, _, _, hce⟩ := RdI.at1 (HRO.out.after HM.out.2.2.1.1) hltk
              have HD := Lib.hid (drop_gti hltk)
              have hpr := placesB_at HTR.out.2.2 hltk
              generalize gti x.out k = p at *
              obtain ⟨kp, rfl⟩ : ∃ j : Nat, p = j := ⟨p.toNat, by omega⟩
              have hkp : kp < m.length := by have := HNP.out; have := HML.out; omega
              have hkc : kp < cur.length := by rw [HCL.out]; exact hkp
              have hat := OwnI.at1 HM.out.1 hkc
              have hbd := HBD.out kp
              have HO2 := Lib.hid (OwnI.set (HM.out.drew).1 kp (gti cur kp + 1))
              clear hpr hkc
              go_wp2_with fail
              go_still_tail 24, (by kernel_rfl)
              change wpList _ _ _ _ _ wr.drew
              go_wp2_with fail
              have hA : Hid (incL (x.out.drop (k + 1)) (cur.set kp (gti cur kp + 1)) = incL x.out (decL x.inn m)) := Lib.hid (by
                have h := HI.out
                rw [HD.out, incL, Int.toNat_natCast] at h
                exact h)
              have hB : Hid (Bnd ((100 + x.inn.length) + ((k + 1 : Nat) : Int)) (cur.set kp (gti cur kp + 1))) := Lib.hid (by
                have := HBD.out.inc kp
                rw [show ((100 + x.inn.length) + ((k + 1 : Nat) : Int)) = (100 + x.inn.length) + (k : Int) + 1 by omega]
                exact this)
              have hC : Hid ((cur.set kp (gti cur kp + 1)).length = m.length) := Lib.hid (by rw [List.length_set]; exact HCL.out)
              have hk1 : k + 1 ≤ x.out.length := by omega
              have hMr := HM.out.drew.2.set (g := g) (i := kp) (u := .int .i64 (gti cur kp + 1)) (by (repeat' (first | exact True.intro | refine And.intro (fun k hk e => ?_) ?_)) <;> (first | exact e | ((try dsimp only [Loc.c1, Loc.c2, Loc.k1, Loc.k2, Loc.k3, Loc.k4, Loc.k6, Loc.fr, Loc.bl, Loc.own, Loc.sz, Loc.rd, Loc.rdI, Loc.rdS, Loc.rdM, Loc.rdT, Loc.ow, Loc.owI] at hk e) <;> omega)))
              go_roundw
              case rel => (first | exact ⟨k + 1, cur.set kp (gti cur kp + 1), hk1, rfl, hA, hB, hC, Lib.hid ⟨HO2.out, hMr⟩⟩ | ((repeat apply Exists.intro); exact ⟨⟨k + 1, cur.set kp (gti cur kp + 1), hk1, rfl, hA, hB, hC, Lib.hid ⟨HO2.out, hMr⟩⟩, rfl⟩))
              case measure => simp [intOf]; omega
            · obtain rfl : k = x.out.length := by omega
              have HE : Hid (cur = incL x.out (decL x.inn m)) := Lib.hid (by have h := HI.out; simpa [incL] using h)
              clear HI
              have M := HM
              clear HM
              go_wp2_with (go_at_call 86; refine (rmarking_any n _ cur _ w3.heap.size w4.heap.size _ M.out.1.rd).mono ?_; rintro e w1 ⟨rfl, hb1⟩; replace M := Lib.hid (M.out.below hb1); clear hb1; skip)
              all_goals (have hfe := HFE.out; have he := HE.out; have hmg := HFM.out HEN.out; rw [← he] at hfe hmg; rw [if_pos HEN.out] at hfe)
              all_goals first
                | exact HR.out _ _ (RetI.nil (by clear HFE HE HFM he; go_light; grind) M.out.2.2.1.1)
                | exact HR.out _ _ (RetI.mk (l := cur) (by clear HFE HE HFM he; go_light; grind) HCL.out.symm M.out.1.rd (by omega) M.out.2.2.2.1 M.out.2.2.1.1)
end Go.Proofs.Ytmhbfoaecebobaa
end
section
namespace Go.Proofs.Ytmhbfoaecebobaa
set_option linter.unusedSimpArgs false
set_option linter.unusedVariables false
open Go.RowKit

def insB (back : Bool) (t : Tr) : List Int := if back then t.out else t.inn
def outsB (back : Bool) (t : Tr) : List Int := if back then t.inn else t.out
/-- the places on a path from a place -/
inductive Rch (n : Net) (back : Bool) (s : Int) : Int → Prop
  | start : Rch n back s s
  | step {i : Nat} {p q : Int} : i < n.trans.length → p ∈ insB back (gti n.trans i) → Rch n back s p → q ∈ outsB back (gti n.trans i) → Rch n back s q
def RchT (n : Net) (back : Bool) (s : Int) (i : Nat) : Prop := ∃ p ∈ insB back (gti n.trans i), Rch n back s p
def endOf (n : Net) (back : Bool) : Int := if back then n.sink else n.source
structure Wf (n : Net) : Prop where
  valid : validB n = true
  ne : n.source ≠ n.sink
  no : ∀ i, i < n.trans.length → n.source ∉ (gti n.trans i).out ∧ n.sink ∉ (gti n.trans i).inn
  places : ∀ back, ∀ p : Nat, p < n.places.toNat → Rch n back (endOf n back) p
  trans : ∀ back, ∀ i, i < n.trans.length → RchT n back (endOf n back) i
open Classical in
noncomputable def wfB (n : Net) : Bool := decide (Wf n)
open Classical in
theorem wfB_true {n : Net} (h : Wf n) : wfB n = true := by unfold wfB; exact decide_eq_true h
open Classical in
theorem wfB_false {n : Net} (h : ¬ Wf n) : wfB n = false := by unfold wfB; exact decide_eq_false h
open Classical in
theorem wfB_wf {n : Net} (h : wfB n = true) : Wf n := by unfold wfB at h; exact of_decide_eq_true h

/-- the places of a valid transition are places -/
theorem placesB_memW {n : Int} {l : List Int} (h : placesB n l = true) {p : Int} (hp : p ∈ l) : 0 ≤ p ∧ p < n := by
  unfold placesB at h
  simp only [List.all_eq_true, List.mem_range] at h
  obtain ⟨k, hk, rfl⟩ := List.getElem_of_mem hp
  have h2 := h k hk
  have this : ¬ badP n l k := by simpa using h2
  unfold badP at this
  have e : gti l k = l[k] := by unfold gti; rw [List.getElem?_eq_getElem hk]; rfl
  rw [e] at this
  omega
theorem validL_at {n : Net} : ∀ {l : List Tr} {i : Nat}, validL n l = true → i < l.length → trB n.places (gti l i) = true
  | [], i, _, h => by simp at h
  | t :: ts, i, hv, h => by
    rw [validL] at hv
    cases i with
    | zero => simp only [gti, List.getElem?_cons_zero, Option.getD_some]; revert hv; split <;> simp_all
    | succ i =>
      have h2 : validL n ts = true := by revert hv; split <;> simp_all
      have := validL_at h2 (i := i) (by simpa using h)
      simpa [gti] using this
def setB (pl : List Bool) : List Int → List Bool
  | [] => pl
  | q :: l => setB (pl.set q.toNat true) l
theorem setB_len : ∀ (l : List Int) (pl : List Bool), (setB pl l).length = pl.length
  | [], pl => rfl
  | q :: l, pl => by rw [setB, setB_len l]; simp
theorem gti_setB (pl : List Bool) (i j : Nat) (x : Bool) : gti (pl.set i x) j = if i = j ∧ j < pl.length then x else gti pl j := by
  unfold gti
  rw [List.getElem?_set]
  by_cases h : i = j
  · subst h
    by_cases h2 : i < pl.length
    · simp [h2]
    · simp [h2, List.getElem?_eq_none (Nat.le_of_not_lt h2)]
  · simp [h]
theorem gti_setB_all : ∀ (l : List Int) (pl : List Bool) (j : Nat), j < pl.length → (gti (setB pl l) j = true ↔ gti pl j = true ∨ ∃ q ∈ l, q.toNat = j)
  | [], pl, j, _ => by simp [setB]
  | q :: l, pl, j, h => by
    rw [setB, gti_setB_all l _ j (by simpa using h), gti_setB]
    by_cases hq : q.toNat = j
    · simp [hq, h]
    · simp [hq]
structure RI (n : Net) (back : Bool) (s : Int) (pl tl : List Bool) : Prop where
  lenp : pl.length = n.places.toNat
  lent : tl.length = n.trans.length
  start : gti pl s.toNat = true
  sp : ∀ p : Nat, p < pl.length → gti pl p = true → Rch n back s p
  st : ∀ i, i < tl.length → gti tl i = true → RchT n back s i ∧ ∀ q ∈ outsB back (gti n.trans i), gti pl q.toNat = true
/-- all places of all transitions are places -/
def Plc (n : Net) : Prop := ∀ i, i < n.trans.length → ∀ back, ∀ q ∈ insB back (gti n.trans i), 0 ≤ q ∧ q < n.places
theorem Plc.out {n : Net} (h : Plc n) {i : Nat} (hi : i < n.trans.length) (back : Bool) : ∀ q ∈ outsB back (gti n.trans i), 0 ≤ q ∧ q < n.places := by
  intro q hq
  refine h i hi (!back) q ?_
  cases back <;> exact hq
theorem Plc.of {n : Net} (h : validB n = true) : Plc n := by
  unfold validB at h
  split at h
  · cases h
  · intro i hi back q hq
    have := validL_at h hi
    unfold trB at this
    simp only [Bool.and_eq_true] at this
    cases back
    · exact placesB_memW this.1.2 hq
    · exact placesB_memW this.2 hq
theorem RI.init {n : Net} {back : Bool} {s : Int} (h0 : 0 ≤ s) (h1 : s < n.places) : RI n back s ((List.replicate n.places.toNat false).set s.toNat true) (List.replicate n.trans.length false) := by
  refine ⟨by simp, by simp, ?_, ?_, ?_⟩
  · rw [gti_setB, if_pos ⟨rfl, by simp; omega⟩]
  · intro p hp hg
    rw [gti_setB] at hg
    split at hg
    · rename_i h
      have : (p : Int) = s := by omega
      rw [this]
      exact .start
    · unfold gti at hg
      rw [List.getElem?_replicate] at hg
      split at hg <;> simp at hg
  · intro i hi hg
    unfold gti at hg
    rw [List.getElem?_replicate] at hg
    split at hg <;> simp at hg
theorem RI.add {n : Net} {back : Bool} {s : Int} {pl tl : List Bool} (h : RI n back s pl tl) (hp : Plc n) {i : Nat} (hi : i < n.trans.length) {p : Int} (hin : p ∈ insB back (gti n.trans i)) (hg : gti pl p.toNat = true) :
    RI n back s (setB pl (outsB back (gti n.trans i))) (tl.set i true) := by
  have hpb := hp i hi back p hin
  have hrp : Rch n back s p := by
    have := h.sp p.toNat (by rw [h.lenp]; omega) hg
    rwa [Int.toNat_of_nonneg hpb.1] at this
  have mono : ∀ j, gti pl j = true → gti (setB pl (outsB back (gti n.trans i))) j = true := by
    intro j hj
    by_cases hl : j < pl.length
    · rw [gti_setB_all _ _ _ hl]; exact .inl hj
    · unfold gti at hj
      rw [List.getElem?_eq_none (by omega)] at hj
      cases hj
  refine ⟨by rw [setB_len]; exact h.lenp, by simpa using h.lent, mono _ h.start, ?_, ?_⟩
  · intro j hj hgj
    rw [setB_len] at hj
    rw [gti_setB_all _ _ _ hj] at hgj
    rcases hgj with hgj | ⟨q, hq, rfl⟩
    · exact h.sp j hj hgj
    · rw [Int.toNat_of_nonneg (hp.out hi back q hq).1]
      exact .step hi hin hrp hq
  · intro j hj hgj
    rw [gti_setB] at hgj
    split at hgj
    · rename_i he
      obtain rfl := he.1
      refine ⟨⟨p, hin, hrp⟩, fun q hq => ?_⟩
      rw [gti_setB_all _ _ _ (by have := hp.out hi back q hq; rw [h.lenp]; omega)]
      exact .inr ⟨q, hq, rfl⟩
    · obtain ⟨h1, h2⟩ := h.st j (by simpa using hj) hgj
      exact ⟨h1, fun q hq => mono _ (h2 q hq)⟩
/-- what 'reached' returns -/
structure RF (n : Net) (back : Bool) (s : Int) (pl tl : List Bool) : Prop where
  lenp : pl.length = n.places.toNat
  lent : tl.length = n.trans.length
  p : ∀ p : Nat, p < n.places.toNat → (gti pl p = true ↔ Rch n back s p)
  t : ∀ i, i < n.trans.length → (gti tl i = true ↔ RchT n back s i)
theorem RI.done {n : Net} {back : Bool} {s : Int} {pl tl : List Bool} (h : RI n back s pl tl) (hp : Plc n) (h0 : 0 ≤ s) (h1 : s < n.places) (hc : ∀ i, i < n.trans.length → gti tl i = false → ∀ p ∈ insB back (gti n.trans i), gti pl p.toNat = false) : RF n back s pl tl := by
  have key : ∀ p, Rch n back s p → 0 ≤ p ∧ gti pl p.toNat = true := by
    intro p hr
    induction hr with
    | start => exact ⟨h0, h.start⟩
    | @step i p q hi hin _ hq ih =>
      refine ⟨(hp.out hi back q hq).1, ?_⟩
      have ht : gti tl i = true := by
        cases hz : gti tl i with
        | true => rfl
        | false => have := hc i hi hz p hin; rw [ih.2] at this; cases this
      exact (h.st i (by rw [h.lent]; exact hi) ht).2 q hq
  refine ⟨h.lenp, h.lent, fun p hpl => ⟨fun hg => h.sp p (by rw [h.lenp]; exact hpl) hg, fun hr => by simpa using (key p hr).2⟩, fun i hi => ⟨fun hg => (h.st i (by rw [h.lent]; exact hi) hg).1, fun ⟨p, hin, hr⟩ => ?_⟩⟩
  cases hz : gti tl i with
  | true => rfl
  | false => have := hc i hi hz p hin; rw [(key p hr).2] at this; cases this
/-- how many are still false -/
def cntF (l : List Bool) : Nat := (l.filter fun x => !x).length
theorem cntF_set : ∀ {l : List Bool} {i : Nat}, i < l.length → gti l i = false → cntF (l.set i true) + 1 = cntF l
  | [], i, h, _ => by simp at h
  | x :: l, i, h, hg => by
    cases i with
    | zero =>
      simp only [gti, List.getElem?_cons_zero, Option.getD_some] at hg
      subst hg
      simp [cntF]
    | succ i =>
      have h1 : i < l.length := by simpa using h
      have h2 : gti l i = false := by simpa [gti] using hg
      have := cntF_set h1 h2
      cases x <;> simp_all [cntF]
theorem any_false {l : List Bool} (h : false ∉ l) {i : Nat} (hi : i < l.length) : gti l i = true := by
  unfold gti
  rw [List.getElem?_eq_getElem hi]
  cases hz : l[i] with
  | true => rfl
  | false => exact absurd (hz ▸ List.getElem_mem hi) h
theorem any_true {l : List Bool} (h : ∀ i, i < l.length → gti l i = true) : false ∉ l := by
  intro hm
  obtain ⟨i, hi, he⟩ := List.getElem_of_mem hm
  have := h i hi
  unfold gti at this
  rw [List.getElem?_eq_getElem hi] at this
  rw [he] at this
  cases this
end Go.Proofs.Ytmhbfoaecebobaa
end
section
namespace Go.Proofs.Ytmhbfoaecebobaa
set_option linter.unusedSimpArgs false
set_option linter.unusedVariables false
open Go.RowKit

abbrev encO (x : Bool) : List Value := [.bool x]
abbrev RdO := Rd 1 encO
abbrev OwnO := Own 4 1 encO
abbrev Loc.owO (lo hi : Nat) (v : Value) (l : List Bool) : Loc := Loc.ow 4 1 encO lo hi v l
abbrev Loc.rdO (lo hi : Nat) (v : Value) (l : List Bool) : Loc := Loc.rd 1 encO lo hi v l
theorem ti_bool : TI 109 4 1 1 (.bool false) := TI.mk Try.underlying109 (by kernel_rfl) rfl (by decide)
theorem RdO.at1 {w : World} {lo hi : Nat} {A : Option Addr} {c : Nat} {l : List Bool} (h : RdO w lo hi (.slice A l.length c) l) {k : Nat} (hk : k < l.length) :
    ∃ b off, A = some ⟨b, off, none⟩ ∧ lo ≤ b ∧ b < hi ∧ C1 w b (off + k) (.bool (gti l k)) := by
  obtain ⟨b, off, hA, h1, h2, hc⟩ := Rd.at_ h (fun _ => rfl) (gti_get hk)
  exact ⟨b, off, hA, h1, h2, by have := hc 0 _ rfl; rw [Nat.mul_one] at this; exact this⟩
theorem OwnO.at1 {w : World} {lo hi g n cap : Nat} {l : List Bool} (h : OwnO w lo hi (.slice (some ⟨g, 0, none⟩) n cap) l) {k : Nat} (hk : k < l.length) :
    w.cell? ⟨g, k, none⟩ = some (.bool (gti l k)) ∧ w.frozen? ⟨g, k, none⟩ = false := by
  have := Own.cell h (fun _ => rfl) (gti_get hk) (j := 0) (u := .bool (gti l k)) rfl
  simpa using this
theorem OwnO.set {w : World} {lo hi g n cap : Nat} {l : List Bool} (h : OwnO w lo hi (.slice (some ⟨g, 0, none⟩) n cap) l) (k : Nat) (x : Bool) :
    OwnO (w.setCell ⟨g, k, none⟩ (.bool x)) lo hi (.slice (some ⟨g, 0, none⟩) n cap) (l.set k x) := Own.set1 h (fun _ => rfl) rfl
theorem mk_bool {x : Int} {k : Nat} (h : x = k) (hk : k ≤ 1000000) : ∀ w : World, (Instr.makeSlice 109 (.int .i64 x) (.int .i64 x)).run Try.prog w = .ok (.slice (some ⟨w.heap.size, 0, none⟩) k k) (w.alloc (.cells (madeCells #[.bool false] k) 4)) := by
  intro w
  subst h
  have := run_mk ti_bool w k (by omega) (by omega)
  rw [Nat.mul_one] at this
  exact this
theorem OwnO.made (W : World) (n : Nat) (hn : n ≤ 1000000) : OwnO (W.alloc (.cells (madeCells #[.bool false] n) 4)) W.heap.size (W.heap.size + 1) (.slice (some ⟨W.heap.size, 0, none⟩) n n) (List.replicate n false) := by
  have := Own.made (enc := encO) ti_bool W W.heap.size n false rfl (Nat.le_refl _) (by omega) (fun _ => rfl)
  rw [Nat.mul_one] at this
  exact this
def idxG {α : Type} [DecidableEq α] (x : α) : Nat → List α → Int
  | _, [] => -1
  | k, a :: l => if x = a then (k : Int) else idxG x (k + 1) l
theorem idxG_ge {α : Type} [DecidableEq α] (x : α) : ∀ (l : List α) (k : Nat), decide (0 ≤ idxG x k l) = decide (x ∈ l)
  | [], k => by simp [idxG]
  | a :: l, k => by
    have ih := idxG_ge x l (k + 1)
    rw [idxG]
    by_cases h : x = a
    · rw [if_pos h]
      simp [h]
    · rw [if_neg h, ih]
      simp [h]
theorem dropG {α : Type} [Inhabited α] {l : List α} {k : Nat} (h : k < l.length) : l.drop k = gti l k :: l.drop (k + 1) := by
  rw [List.drop_eq_getElem_cons h]
  congr 1
  unfold gti
  rw [List.getElem?_eq_getElem h]
  rfl
set_option maxHeartbeats 1000000 in
theorem indexI_any (x : Int) (l : List Int) (lo hi : Nat) (v : Value) (w : World) (hv : RdI w lo hi v l) :
    Calls Try.prog 99 #[v, .int .i64 x] w fun e w' => e = .returned (.int .i64 (idxG x 0 l)) ∧ Below w.heap.size w w' := by
  obtain ⟨A, c, rfl, hc, hm⟩ := hv.form
  have HV := Lib.hid hv
  clear hv
  refine calls_cps fun R hR => ?_
  have HR := Lib.hid hR
  clear hR
  go_enter Try.func99, Try.ntmps99
  go_wp2_with fail
  go_loopw [8, 5] (fun v8 _ wr => ∃ (k q : Nat), k ≤ l.length ∧ v8 = .int .i64 k ∧ wr = w.drewN q ∧ Hid (idxG x 0 l = idxG x k (l.drop k))) (fun v8 _ _ => l.length - (intOf v8).toNat)
  case atStart => exact ⟨0, 0, by omega, rfl, rfl, Lib.hid rfl⟩
  case round =>
    obtain ⟨k, q, hk, rfl, rfl, HI⟩ := hrel
    by_cases hlt : k < l.length
    · have hkd : decide ((k : Int) < (l.length : Int)) = true := by simp; omega
      have hkb : (k : Int) < (l.length : Int) := by omega
      obtain ⟨b1, o1, rfl, _, _, f1⟩ := RdI.at1 HV.out hlt
      have HJ : Hid (idxG x 0 l = if x = gti l k then (k : Int) else idxG x (k + 1) (l.drop (k + 1))) := Lib.hid (by rw [HI.out, dropG hlt, idxG])
      generalize gti l k = y at *
      go_wp2
      all_goals have hj := HJ.out
      · refine HR.out _ _ ⟨ret_int ?_, below_drewN (Below.refl _ _) _⟩
        clear HJ HI; go_light; grind
      · refine ⟨⟨k + 1, q, by omega, by go_num, by first | rfl | (rw [World.drewN_drewN]), Lib.hid (by clear HJ HI; go_light; grind)⟩, by simp [intOf]; omega⟩
    · have hkd : decide ((k : Int) < (l.length : Int)) = false := by simp; omega
      have HE : Hid (idxG x 0 l = -1) := Lib.hid (by rw [HI.out, List.drop_eq_nil_of_le (by omega)]; rfl)
      clear HI
      go_wp2
      exact HR.out _ _ ⟨ret_int HE.out.symm, below_drewN (Below.refl _ _) _⟩
set_option maxHeartbeats 400000 in
theorem containsI_any (x : Int) (l : List Int) (lo hi : Nat) (v : Value) (w : World) (hv : RdI w lo hi v l) :
    Calls Try.prog 66 #[v, .int .i64 x] w fun e w' => e = .returned (.bool (decide (x ∈ l))) ∧ Below w.heap.size w w' := by
  have HI := Lib.hid (idxG_ge x l 0)
  have HV := Lib.hid hv
  clear hv
  have M : Hid (Mem [Loc.bl w.heap.size w] w) := Lib.hid ⟨⟨Below.refl _ _, Nat.le_refl _⟩, True.intro⟩
  refine calls_cps fun R hR => ?_
  have HR := Lib.hid hR
  clear hR
  go_enter Try.func66, Try.ntmps66
  go_wp2_with (go_at_call 99; refine (indexI_any x l lo hi _ _ (HV.out.after M.out.1.1)).mono ?_; rintro e w1 ⟨rfl, hb1⟩; replace M := Lib.hid (M.out.below hb1); clear hb1; skip)
  exact HR.out _ _ ⟨ret_bool HI.out, M.out.1.1⟩
set_option maxHeartbeats 1000000 in
theorem indexO_any (x : Bool) (l : List Bool) (lo hi : Nat) (v : Value) (w : World) (hv : RdO w lo hi v l) :
    Calls Try.prog 101 #[v, .bool x] w fun e w' => e = .returned (.int .i64 (idxG x 0 l)) ∧ Below w.heap.size w w' := by
  obtain ⟨A, c, rfl, hc, hm⟩ := hv.form
  have HV := Lib.hid hv
  clear hv
  refine calls_cps fun R hR => ?_
  have HR := Lib.hid hR
  clear hR
  go_enter Try.func101, Try.ntmps101
  go_wp2_with fail
  go_loopw [8, 5] (fun v8 _ wr => ∃ (k q : Nat), k ≤ l.length ∧ v8 = .int .i64 k ∧ wr = w.drewN q ∧ Hid (idxG x 0 l = idxG x k (l.drop k))) (fun v8 _ _ => l.length - (intOf v8).toNat)
  case atStart => exact ⟨0, 0, by omega, rfl, rfl, Lib.hid rfl⟩
  case round =>
    obtain ⟨k, q, hk, rfl, rfl, HI⟩ := hrel
    by_cases hlt : k < l.length
    · have hkd : decide ((k : Int) < (l.length : Int)) = true := by simp; omega
      have hkb : (k : Int) < (l.length : Int) := by omega
      obtain ⟨b1, o1, rfl, _, _, f1⟩ := RdO.at1 HV.out hlt
      have HJ : Hid (idxG x 0 l = if x = gti l k then (k : Int) else idxG x (k + 1) (l.drop (k + 1))) := Lib.hid (by rw [HI.out, dropG hlt, idxG])
      generalize gti l k = y at *
      go_wp2
      all_goals have hj := HJ.out
      · refine HR.out _ _ ⟨ret_int ?_, below_drewN (Below.refl _ _) _⟩
        clear HJ HI; go_light; grind
      · refine ⟨⟨k + 1, q, by omega, by go_num, by first | rfl | (rw [World.drewN_drewN]), Lib.hid (by clear HJ HI; go_light; grind)⟩, by simp [intOf]; omega⟩
    · have hkd : decide ((k : Int) < (l.length : Int)) = false := by simp; omega
      have HE : Hid (idxG x 0 l = -1) := Lib.hid (by rw [HI.out, List.drop_eq_nil_of_le (by omega)]; rfl)
      clear HI
      go_wp2
      exact HR.out _ _ ⟨ret_int HE.out.symm, below_drewN (Below.refl _ _) _⟩
set_option maxHeartbeats 400000 in
theorem containsO_any (x : Bool) (l : List Bool) (lo hi : Nat) (v : Value) (w : World) (hv : RdO w lo hi v l) :
    Calls Try.prog 68 #[v, .bool x] w fun e w' => e = .returned (.bool (decide (x ∈ l))) ∧ Below w.heap.size w w' := by
  have HI := Lib.hid (idxG_ge x l 0)
  have HV := Lib.hid hv
  clear hv
  have M : Hid (Mem [Loc.bl w.heap.size w] w) := Lib.hid ⟨⟨Below.refl _ _, Nat.le_refl _⟩, True.intro⟩
  refine calls_cps fun R hR => ?_
  have HR := Lib.hid hR
  clear hR
  go_enter Try.func68, Try.ntmps68
  go_wp2_with (go_at_call 101; refine (indexO_any x l lo hi _ _ (HV.out.after M.out.1.1)).mono ?_; rintro e w1 ⟨rfl, hb1⟩; replace M := Lib.hid (M.out.below hb1); clear hb1; skip)
  exact HR.out _ _ ⟨ret_bool HI.out, M.out.1.1⟩
end Go.Proofs.Ytmhbfoaecebobaa
end
section
namespace Go.Proofs.Ytmhbfoaecebobaa
set_option linter.unusedSimpArgs false
set_option linter.unusedVariables false
open Go.RowKit

section
variable {P : Program} {C : World → Prop} {Q : Exit → Act → World → Prop} {a : Act} {o : Oper}
theorem wp_region_cls {id : Nat} {w : World} {l : List Oper} (hm : P.follows .mixedOrders = true) (hB : Region.lexB .any l.toArray = true) (hC : C w.drew)
    (h : wpQuiet P l.toArray C (fun a' => ∀ w', C w' → Q .normal a' w') l a) : (Code.region id l.toArray true).wp P Q a w :=
  wp_region_quiet (C := C) hm hB hC (by simpa using h)
theorem quiet_of {K : Act → Prop} {v : Value} (hv : ∀ w, C w → (execOp a.eval o).run P w = .ok (.value v) w) (hk : K (a.put o.dst v)) : o.quiet P a C K :=
  ⟨v, fun w hw => by unfold Oper.quietAt; rw [hv w hw]; exact ⟨rfl, rfl⟩, hk⟩
end
end Go.Proofs.Ytmhbfoaecebobaa
end
