/-
  Walks of petri's Fire, of casebookref21's Can and Fire. Conditions: none.
-/
import Derived.Test.YtmhbfoaecebobaaFire
import Derived.StillTailTactics
namespace Go.Proofs.Ytmhbfoaecebobaa
set_option linter.unusedSimpArgs false
set_option linter.unusedVariables false
open Go.RowKit

theorem placesB_lt {n : Int} {l : List Int} (h : placesB n l = true) : ∀ (j i : Nat), i < j → j < l.length → gti l i < gti l j
  | 0, i, hij, _ => by omega
  | j + 1, i, hij, hj => by
    have hb : ¬ badP n l (j + 1) := fun hb => by rw [placesB_false hj hb] at h; cases h
    unfold badP at hb
    simp only [Nat.add_sub_cancel] at hb
    by_cases hji : i = j
    · subst hji; omega
    · have := placesB_lt h j i (by omega) (by omega)
      omega
theorem placesB_tail {n : Int} {p : Int} {ps : List Int} (h : placesB n (p :: ps) = true) : placesB n ps = true := by
  apply placesB_true
  intro k hk
  have hb : ¬ badP n (p :: ps) (k + 1) := fun hb => by rw [placesB_false (by simp; omega) hb] at h; cases h
  unfold badP at hb ⊢
  have e1 : gti (p :: ps) (k + 1) = gti ps k := by simp [gti]
  rw [e1] at hb
  rcases Nat.eq_zero_or_pos k with rfl | hk0
  · omega
  · obtain ⟨j, rfl⟩ : ∃ j, k = j + 1 := ⟨k - 1, by omega⟩
    have e2 : gti (p :: ps) (j + 1) = gti ps j := by simp [gti]
    simp only [Nat.add_sub_cancel] at hb ⊢
    rw [e2] at hb
    omega
theorem placesB_head {n : Int} {p : Int} {ps : List Int} (h : placesB n (p :: ps) = true) : 0 ≤ p ∧ p < n ∧ ∀ q ∈ ps, q.toNat ≠ p.toNat := by
  have h0 := placesB_at h (k := 0) (by simp)
  have e : gti (p :: ps) 0 = p := by simp [gti]
  rw [e] at h0
  refine ⟨h0.1, h0.2.1, fun q hq => ?_⟩
  obtain ⟨k, hk, rfl⟩ := mem_gti hq
  have := placesB_lt h (k + 1) 0 (by omega) (by simp; omega)
  have e1 : gti (p :: ps) (k + 1) = gti ps k := by simp [gti]
  rw [e, e1] at this
  omega
theorem decL_nonneg {n : Int} : ∀ {ps m : List Int}, placesB n ps = true → (∀ i, 0 ≤ gti m i) → (∀ p ∈ ps, 1 ≤ gti m p.toNat) → ∀ i, 0 ≤ gti (decL ps m) i
  | [], m, _, h, _, i => h i
  | p :: ps, m, hp, h, h1, i => by
    obtain ⟨hp0, hp1, hpn⟩ := placesB_head hp
    refine decL_nonneg (placesB_tail hp) (fun j => ?_) (fun q hq => ?_) i
    · rw [gti_set]
      have := h j
      have := h1 p (List.mem_cons_self ..)
      split <;> omega
    · rw [gti_set, if_neg (fun e => hpn q hq e.1.symm)]
      exact h1 q (List.mem_cons_of_mem _ hq)
theorem incL_nonneg : ∀ {ps m : List Int}, (∀ i, 0 ≤ gti m i) → ∀ i, 0 ≤ gti (incL ps m) i
  | [], m, h, i => h i
  | p :: ps, m, h, i => by
    rw [incL]
    refine incL_nonneg (fun j => ?_) i
    rw [gti_set]
    have := h j
    have := h p.toNat
    split <;> omega
theorem enB_at {t : Tr} {m : List Int} (h : enB t m = true) {p : Int} (hp : p ∈ t.inn) : gti m p.toNat ≠ 0 := by
  unfold enB at h
  simp only [Bool.not_eq_true', List.any_eq_false, decide_eq_true_eq] at h
  exact h p hp
theorem all01_iff : ∀ {m : List Int}, (∀ i, 0 ≤ gti m i) → all01 m = !m.any fun y => decide (100 < y)
  | [], _ => rfl
  | x :: m, h => by
    have h0 : 0 ≤ x := by have := h 0; simpa [gti] using this
    have := all01_iff (m := m) (fun i => by have := h (i + 1); simpa [gti] using this)
    simp only [all01, List.any_cons]
    rw [this]
    grind
/-- the marking after a transition that is enabled: too many tokens, or a marking -/
theorem fire_mark {n : Net} {m : List Int} {t : Tr} (hm : mark2B n m = true) (ht : placesB n.places t.inn = true) (he : enB t m = true) :
    mark2B n (incL t.out (decL t.inn m)) = !(incL t.out (decL t.inn m)).any fun y => decide (100 < y) := by
  have hnn : ∀ i, 0 ≤ gti (incL t.out (decL t.inn m)) i := incL_nonneg (decL_nonneg ht (fun i => (mark2B_at hm i).1) (fun p hp => by
    have := enB_at he hp
    have := (mark2B_at hm p.toNat).1
    omega))
  unfold mark2B
  rw [if_neg (by rw [incL_len, decL_len]; have := mark2B_len hm; omega), all01_iff hnn]
theorem fireE_mark {n : Net} {m : List Int} {t : Int} (hm : markB n m = true) (h : (fireE n m t).2 = 0) : markB n (fireE n m t).1 = true := by
  unfold markB at hm ⊢
  simp only [Bool.and_eq_true] at hm ⊢
  refine ⟨hm.1, ?_⟩
  unfold fireE at h ⊢
  split
  · rename_i h1; rw [if_pos h1] at h; simp at h
  · rename_i h1
    rw [if_neg h1] at h
    split
    · rename_i h2
      rw [if_pos h2] at h
      split
      · rename_i h3; rw [if_pos h3] at h; simp at h
      · rename_i h3
        have htr := validB_tr hm.1 (gti_mem (l := n.trans) (k := t.toNat) (by omega))
        rw [fire_mark hm.2 htr.2.1 h2]
        simpa using h3
    · rename_i h2; rw [if_neg h2] at h; simp at h

def FireE (n : Net) (m : List Int) (t : Int) : List Int × Int := if markB n m then fireE n m t else ([], 1)
set_option maxHeartbeats 1000000 in
theorem Fire_any (n : Net) (m : List Int) (t : Int) (vt v : Value) (lo hi lo' hi' : Nat) (w : World) (hv : RdT w lo hi vt n.trans) (hm : RdI w lo' hi' v m) :
    Calls Try.prog 45 #[netV n vt, v, .int .i64 t] w (RetI w (FireE n m t)) := by
  obtain ⟨A, c, rfl, hc, hmm⟩ := hv.form
  obtain ⟨A2, c2, rfl, hc2, hmm2⟩ := hm.form
  have HV := Lib.hid hv
  have HW := Lib.hid hm
  clear hv hm
  cases hvb : markB n m <;> have HVB := Lib.hid hvb <;> clear hvb
  all_goals
    refine calls_cps fun R hR => ?_
    have HR := Lib.hid hR
    clear hR
    go_enter Try.func45, Try.ntmps45
    have M : Hid (Mem [Loc.k4 w.heap.size (.int .i64 n.places) (.slice A n.trans.length c) (.int .i64 n.source) (.int .i64 n.sink), Loc.bl w.heap.size w] (w.alloc (.cells #[.int .i64 n.places, .slice A n.trans.length c, .int .i64 n.source, .int .i64 n.sink] 24))) := Lib.hid ⟨K4.new w _ _ _ _ _, ⟨(Below.refl _ _).alloc (Nat.le_refl _) _, by simp⟩, True.intro⟩
    have hk4 := M.out.1
    go_wp2_with (first
      | (go_at_call 62; refine (marking_is HVB.out _ _ lo hi lo' hi' _ (HV.out.after M.out.2.1.1) (HW.out.after M.out.2.1.1)).mono ?_; rintro e w1 ⟨rfl, hb1⟩; replace M := Lib.hid (M.out.below hb1); clear hb1; replace hk4 := M.out.1)
      | (go_at_call 63; refine (fire_any n m t _ _ lo hi lo' hi' _ (HV.out.after M.out.2.1.1) (HW.out.after M.out.2.1.1) HVB.out).mono ?_; rintro e w2 ⟨A1, c1, rfl, hr1, hb1⟩; have HR1 := Lib.hid hr1; have hws := M.out.2.1.2; replace M := Lib.hid (M.out.below hb1); clear hb1 hr1))
  · exact HR.out _ _ (RetI.nil (by rw [FireE, HVB.out]; rfl) M.out.2.1.1)
  · exact HR.out _ _ (RetI.mk (by rw [FireE, HVB.out]; rfl) rfl HR1.out hws (Nat.le_refl _) M.out.2.1.1)

def canL (m : List Int) : List Int → Bool
  | [] => true
  | p :: ps => if gti m p.toNat < 1 then false else canL m ps
theorem canL_en {m : List Int} (hm : ∀ i, 0 ≤ gti m i) : ∀ ps : List Int, canL m ps = !ps.any fun p => decide (gti m p.toNat = 0)
  | [] => rfl
  | p :: ps => by
    have := hm p.toNat
    rw [canL, canL_en hm ps, List.any_cons]
    grind
set_option maxHeartbeats 1000000 in
theorem can_any (n : Net) (m : List Int) (t : Nat) (vt v : Value) (lo hi lo' hi' : Nat) (w : World) (hv : RdT w lo hi vt n.trans) (hm : RdI w lo' hi' v m) (ht : t < n.trans.length) (hin : ∀ k, k < (gti n.trans t).inn.length → 0 ≤ gti (gti n.trans t).inn k ∧ gti (gti n.trans t).inn k < m.length) :
    Calls Try.prog 80 #[netV n vt, v, .int .i64 t] w fun e w' => e = .returned (.bool (canL m (gti n.trans t).inn)) ∧ Below w.heap.size w w' := by
  obtain ⟨A, c, rfl, hc, hmm⟩ := hv.form
  obtain ⟨A2, c2, rfl, hc2, hmm2⟩ := hm.form
  obtain ⟨b, off, vi, vo, rfl, hbl, hbh, hcell, hri, hro⟩ := RdT.at3 hv ht
  obtain ⟨Ai, ci, rfl, hci, hmi⟩ := hri.form
  have HV := Lib.hid hv
  have HW := Lib.hid hm
  have HRI := Lib.hid hri
  have HN := Lib.hid hin
  clear hv hm hri hro hin
  generalize gti n.trans t = x at *
  refine calls_cps fun R hR => ?_
  have HR := Lib.hid hR
  clear hR
  go_enter Try.func80, Try.ntmps80
  have M : Hid (Mem [Loc.k4 w.heap.size (.int .i64 n.places) (.slice (some ⟨b, off, none⟩) n.trans.length c) (.int .i64 n.source) (.int .i64 n.sink), Loc.bl w.heap.size w] (w.alloc (.cells #[.int .i64 n.places, .slice (some ⟨b, off, none⟩) n.trans.length c, .int .i64 n.source, .int .i64 n.sink] 24))) := Lib.hid ⟨K4.new w _ _ _ _ _, ⟨(Below.refl _ _).alloc (Nat.le_refl _) _, by simp⟩, True.intro⟩
  have hk4 := M.out.1
  replace hcell := C3.aft ((Below.refl w.heap.size w).alloc (Nat.le_refl _) (.cells #[.int .i64 n.places, .slice (some ⟨b, off, none⟩) n.trans.length c, .int .i64 n.source, .int .i64 n.sink] 24)) hcell
  go_wp2_with fail
  generalize w.alloc (.cells #[.int .i64 n.places, .slice (some ⟨b, off, none⟩) n.trans.length c, .int .i64 n.source, .int .i64 n.sink] 24) = W at *
  go_loop [7] (fun v7 => ∃ k : Nat, k ≤ x.inn.length ∧ v7 = .int .i64 k ∧ Hid (canL m (x.inn.drop k) = canL m x.inn)) (fun v7 => x.inn.length - (intOf v7).toNat)
  case atStart => exact ⟨0, by omega, rfl, Lib.hid rfl⟩
  case round =>
    obtain ⟨k, hk, rfl, HI⟩ := hrel
    by_cases hlt : k < x.inn.length
    · have hpr := HN.out k hlt
      obtain ⟨bb, oo, rfl, _, _, hce⟩ := RdI.at1 (HRI.out.after M.out.2.1.1) hlt
      have HD := Lib.hid (drop_gti hlt)
      generalize gti x.inn k = p at *
      obtain ⟨kp, rfl⟩ : ∃ j : Nat, p = j := ⟨p.toNat, by omega⟩
      have hkp : kp < m.length := by omega
      clear hpr
      obtain ⟨b2, o2, rfl, _, _, hce2⟩ := RdI.at1 (HW.out.after M.out.2.1.1) hkp
      have HJ : Hid (canL m x.inn = if gti m kp < 1 then false else canL m (x.inn.drop (k + 1))) := Lib.hid (by rw [← HI.out, HD.out, canL, Int.toNat_natCast])
      generalize gti m kp = y at *
      go_wp2_with fail
      all_goals have hj := HJ.out
      all_goals first
        | ((with_reducible refine HR.out _ _ ⟨?_, ?_⟩) <;> first | exact ret_bool (by clear HJ; go_light; grind) | exact M.out.2.1.1)
        | (refine ⟨⟨k + 1, by omega, by go_num, Lib.hid (by clear HJ; go_light; grind)⟩, by simp [intOf]; omega⟩)
    · obtain rfl : k = x.inn.length := by omega
      have HE : Hid (canL m x.inn = true) := Lib.hid (by rw [← HI.out]; simp [canL])
      clear HI
      go_wp2_with fail
      all_goals ((with_reducible refine HR.out _ _ ⟨?_, ?_⟩) <;> first | exact ret_bool (by rw [HE.out]) | exact M.out.2.1.1)
end Go.Proofs.Ytmhbfoaecebobaa
