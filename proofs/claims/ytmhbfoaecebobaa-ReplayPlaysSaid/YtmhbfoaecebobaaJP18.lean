/-
  Texts joined: RB, Ad, RS. Conditions: none.
-/
import Derived.Test.YtmhbfoaecebobaaJP17
import Derived.Test.YtmhbfoaecebobaaJP10
import Derived.Test.YtmhbfoaecebobaaJP11
section
namespace Go.Proofs.Ytmhbfoaecebobaa
set_option linter.unusedSimpArgs false
set_option linter.unusedVariables false
open Go.RowKit

def hasB (x : Int) : List Int → Bool
  | [] => false
  | a :: l => if a = x then true else hasB x l
theorem hasB_eq (x : Int) : ∀ l, hasB x l = decide (x ∈ l)
  | [] => by simp [hasB]
  | a :: l => by
    rw [hasB, hasB_eq x l]
    by_cases h : a = x
    · rw [if_pos h]; simp [h]
    · rw [if_neg h]; simp [show ¬ x = a from fun e => h e.symm]
set_option maxHeartbeats 1000000 in
theorem rHas_any (l : List Int) (x : Int) (lo hi : Nat) (v : Value) (w : World) (hv : RdI w lo hi v l) :
    Calls Try.prog 52 #[v, .int .i64 x] w fun e w' => e = .returned (.bool (decide (x ∈ l))) ∧ Below w.heap.size w w' := by
  obtain ⟨A, c, rfl, hc, hm⟩ := hv.form
  have HV := Lib.hid hv
  rw [← hasB_eq]
  clear hv
  refine calls_cps fun R hR => ?_
  have HR := Lib.hid hR
  clear hR
  go_enter Try.func52, Try.ntmps52
  go_wp2_with fail
  go_loopw [5] (fun v5 wr => ∃ k : Nat, k ≤ l.length ∧ v5 = .int .i64 k ∧ Hid (Below w.heap.size w wr) ∧ Hid (hasB x l = hasB x (l.drop k))) (fun v5 _ => l.length - (intOf v5).toNat)
  case atStart => exact ⟨0, by omega, rfl, Lib.hid (Below.refl _ _), Lib.hid rfl⟩
  case round =>
    obtain ⟨k, hk, rfl, HB, HI⟩ := hrel
    by_cases hlt : k < l.length
    · obtain ⟨b, off, rfl, _, _, hcell⟩ := RdI.at1 (HV.out.after HB.out) hlt
      have HJ : Hid (hasB x l = if gti l k = x then true else hasB x (l.drop (k + 1))) := Lib.hid (by rw [HI.out, drop_gti hlt, hasB])
      generalize gti l k = y at *
      by_cases hy : y = x
      · have hb : (y == x) = true := by simpa using hy
        rw [if_pos hy] at HJ
        clear hy
        go_wp2_with fail
        exact HR.out _ _ ⟨ret_bool HJ.out.symm, HB.out⟩
      · have hb : (y == x) = false := by simpa using hy
        rw [if_neg hy] at HJ
        clear hy
        go_wp2_with fail
        exact ⟨⟨k + 1, by omega, by go_num, HB, HJ⟩, by simp [intOf]; omega⟩
    · obtain rfl : k = l.length := by omega
      have HE : Hid (hasB x l = false) := Lib.hid (by rw [HI.out, List.drop_length]; rfl)
      clear HI
      go_wp2_with fail
      exact HR.out _ _ ⟨ret_bool HE.out.symm, HB.out⟩
theorem rHas_is {l : List Int} {x : Int} {z : Bool} (h : decide (x ∈ l) = z) (lo hi : Nat) (v : Value) (w : World) (hv : RdI w lo hi v l) :
    Calls Try.prog 52 #[v, .int .i64 x] w fun e w' => e = .returned (.bool z) ∧ Below w.heap.size w w' := h ▸ rHas_any l x lo hi v w hv
def someB (b : List Int) : List Int → Bool
  | [] => false
  | a :: l => if decide (a ∈ b) then true else someB b l
theorem someB_iff (b : List Int) : ∀ l, someB b l = true ↔ ∃ a ∈ l, a ∈ b
  | [] => by simp [someB]
  | a :: l => by
    rw [someB]
    by_cases h : a ∈ b
    · simp [h]
    · simp [h, someB_iff b l]
set_option maxHeartbeats 1000000 in
theorem rsome_any (a b : List Int) (lo hi lo2 hi2 : Nat) (v v2 : Value) (w : World) (hv : RdI w lo hi v a) (hv2 : RdI w lo2 hi2 v2 b) :
    Calls Try.prog 53 #[v, v2] w fun e w' => e = .returned (.bool (someB b a)) ∧ Below w.heap.size w w' := by
  obtain ⟨A, c, rfl, hc, hm⟩ := hv.form
  obtain ⟨A2, c2, rfl, hc2, hm2⟩ := hv2.form
  have HV := Lib.hid hv
  have HV2 := Lib.hid hv2
  clear hv hv2
  refine calls_cps fun R hR => ?_
  have HR := Lib.hid hR
  clear hR
  go_enter Try.func53, Try.ntmps53
  go_wp2_with fail
  go_loopw [5] (fun v5 wr => ∃ k : Nat, k ≤ a.length ∧ v5 = .int .i64 k ∧ Hid (Below w.heap.size w wr) ∧ Hid (someB b a = someB b (a.drop k))) (fun v5 _ => a.length - (intOf v5).toNat)
  case atStart => exact ⟨0, by omega, rfl, Lib.hid (Below.refl _ _), Lib.hid rfl⟩
  case round =>
    obtain ⟨k, hk, rfl, HB, HI⟩ := hrel
    by_cases hlt : k < a.length
    · obtain ⟨bk, off, rfl, _, _, hcell⟩ := RdI.at1 (HV.out.after HB.out) hlt
      have HJ : Hid (someB b a = if decide (gti a k ∈ b) then true else someB b (a.drop (k + 1))) := Lib.hid (by rw [HI.out, drop_gti hlt, someB])
      generalize gti a k = y at *
      obtain ⟨z, hz⟩ : ∃ z, decide (y ∈ b) = z := ⟨_, rfl⟩
      have HZ := Lib.hid hz
      rw [hz] at HJ
      clear hz
      cases z with
      | true =>
        go_wp2_with (go_at_call 52; refine (rHas_is HZ.out _ _ _ _ (HV2.out.after HB.out)).mono ?_; rintro e w1 ⟨rfl, hb1⟩; replace HB := Lib.hid (HB.out.trans (hb1.mono HB.out.size)); clear hb1)
        exact HR.out _ _ ⟨ret_bool HJ.out.symm, HB.out⟩
      | false =>
        go_wp2_with (go_at_call 52; refine (rHas_is HZ.out _ _ _ _ (HV2.out.after HB.out)).mono ?_; rintro e w1 ⟨rfl, hb1⟩; replace HB := Lib.hid (HB.out.trans (hb1.mono HB.out.size)); clear hb1)
        exact ⟨⟨k + 1, by omega, by go_num, HB, Lib.hid (by rw [HJ.out]; rfl)⟩, by simp [intOf]; omega⟩
    · obtain rfl : k = a.length := by omega
      have HE : Hid (someB b a = false) := Lib.hid (by rw [HI.out, List.drop_length]; rfl)
      clear HI
      go_wp2_with fail
      exact HR.out _ _ ⟨ret_bool HE.out.symm, HB.out⟩
set_option maxRecDepth 100000 in
set_option maxHeartbeats 1000000 in
theorem labelled_any (n : Net) (act : ByteArray) (vt : Value) (lo hi : Nat) (w : World) (hv : RdT w lo hi vt n.trans) :
    Calls Try.prog 34 #[netV n vt, .string act] w fun e w' => e = .returned (.int .i64 (labAt n act)) ∧ Below w.heap.size w w' := by
  obtain ⟨A, c, rfl, hc, hm⟩ := hv.form
  have HV := Lib.hid hv
  clear hv
  refine calls_cps fun R hR => ?_
  have HR := Lib.hid hR
  clear hR
  go_enter Try.func34, Try.ntmps34
  have M : Hid (Mem [Loc.k4 w.heap.size (.int .i64 n.places) (.slice A n.trans.length c) (.int .i64 n.source) (.int .i64 n.sink), Loc.bl w.heap.size w] (w.alloc (.cells #[.int .i64 n.places, .slice A n.trans.length c, .int .i64 n.source, .int .i64 n.sink] 24))) := Lib.hid ⟨K4.new w _ _ _ _ _, ⟨(Below.refl _ _).alloc (Nat.le_refl _) _, by simp⟩, True.intro⟩
  have hk4 := M.out.1
  go_wp2_with fail
  go_loopw [5] (fun v5 wr => ∃ k : Nat, k ≤ n.trans.length ∧ v5 = .int .i64 k ∧ Hid (∀ j a, j < k → n.trans[j]? = some a → labB act a = false) ∧ Hid (Mem [Loc.k4 w.heap.size (.int .i64 n.places) (.slice A n.trans.length c) (.int .i64 n.source) (.int .i64 n.sink), Loc.bl w.heap.size w] wr)) (fun v5 _ => n.trans.length - (intOf v5).toNat)
  case atStart => exact ⟨0, by omega, rfl, Lib.hid (fun j a h => absurd h (by omega)), M⟩
  case round =>
    clear M hk4
    obtain ⟨k, hk, rfl, HNO, M⟩ := hrel
    have hk4 := M.out.1
    by_cases hlt : k < n.trans.length
    · obtain ⟨b4, off4, vi, vo, rfl, _, _, hct, hri, hro⟩ := RdT.at3 (HV.out.after M.out.2.1.1) hlt
      have HA2 := Lib.hid (gti_get hlt)
      generalize gti n.trans k = x at *
      by_cases hl : x.label.toList = act.toList
      · have HP : Hid (labB act x = true) := Lib.hid (by unfold labB; exact decide_eq_true (toList_inj.1 hl))
        go_wp2_with fail
        exact HR.out _ _ ⟨ret_int (firstAt_some HA2.out HP.out HNO.out).symm, M.out.2.1.1⟩
      · have HP : Hid (labB act x = false) := Lib.hid (by unfold labB; exact decide_eq_false (fun e => hl (toList_inj.2 e)))
        have hb : (x.label.toList == act.toList) = false := by simpa using hl
        go_wp2_with fail
        exact ⟨⟨k + 1, by omega, by go_num, Lib.hid (snoc_no HNO.out HA2.out HP.out), M⟩, by simp [intOf]; omega⟩
    · obtain rfl : k = n.trans.length := by omega
      go_wp2_with fail
      exact HR.out _ _ ⟨ret_int (firstAt_none HNO.out).symm, M.out.2.1.1⟩
theorem canL_enB {m : List Int} {t : Tr} (hm : ∀ i, 0 ≤ gti m i) : canL m t.inn = enB t m := by rw [canL_en hm]; rfl
theorem can_is {n : Net} {m : List Int} {t : Nat} {z : Bool} (hz : canL m (gti n.trans t).inn = z) (vt v : Value) (lo hi lo' hi' : Nat) (w : World) (hv : RdT w lo hi vt n.trans) (hm : RdI w lo' hi' v m) (ht : t < n.trans.length) (hin : ∀ k, k < (gti n.trans t).inn.length → 0 ≤ gti (gti n.trans t).inn k ∧ gti (gti n.trans t).inn k < m.length) :
    Calls Try.prog 80 #[netV n vt, v, .int .i64 t] w fun e w' => e = .returned (.bool z) ∧ Below w.heap.size w w' := hz ▸ can_any n m t vt v lo hi lo' hi' w hv hm ht hin
set_option maxRecDepth 100000 in
set_option maxHeartbeats 1000000 in
theorem renabled_any (n : Net) (m : List Int) (act : ByteArray) (vt v : Value) (lo hi lo' hi' : Nat) (w : World) (hv : RdT w lo hi vt n.trans) (hm : RdI w lo' hi' v m) (hnn : ∀ i, 0 ≤ gti m i) (hin : InOk n m.length) :
    Calls Try.prog 36 #[netV n vt, v, .string act] w fun e w' => e = .returned (.int .i64 (enabledAt n m act)) ∧ Below w.heap.size w w' := by
  obtain ⟨A, c, rfl, hc, hmm⟩ := hv.form
  obtain ⟨A2, c2, rfl, hc2, hmm2⟩ := hm.form
  have HV := Lib.hid hv
  have HM := Lib.hid hm
  have HNN := Lib.hid hnn
  have HIN := Lib.hid hin
  clear hv hm hnn hin
  refine calls_cps fun R hR => ?_
  have HR := Lib.hid hR
  clear hR
  go_enter Try.func36, Try.ntmps36
  have M : Hid (Mem [Loc.k4 w.heap.size (.int .i64 n.places) (.slice A n.trans.length c) (.int .i64 n.source) (.int .i64 n.sink), Loc.bl w.heap.size w] (w.alloc (.cells #[.int .i64 n.places, .slice A n.trans.length c, .int .i64 n.source, .int .i64 n.sink] 24))) := Lib.hid ⟨K4.new w _ _ _ _ _, ⟨(Below.refl _ _).alloc (Nat.le_refl _) _, by simp⟩, True.intro⟩
  have hk4 := M.out.1
  go_wp2_with fail
  go_loopw [7] (fun v7 wr => ∃ k : Nat, k ≤ n.trans.length ∧ v7 = .int .i64 k ∧ Hid (∀ j a, j < k → n.trans[j]? = some a → enB2 m act a = false) ∧ Hid (Mem [Loc.k4 w.heap.size (.int .i64 n.places) (.slice A n.trans.length c) (.int .i64 n.source) (.int .i64 n.sink), Loc.bl w.heap.size w] wr)) (fun v7 _ => n.trans.length - (intOf v7).toNat)
  case atStart => exact ⟨0, by omega, rfl, Lib.hid (fun j a h => absurd h (by omega)), M⟩
  case round =>
    clear M hk4
    obtain ⟨k, hk, rfl, HNO, M⟩ := hrel
    have hk4 := M.out.1
    by_cases hlt : k < n.trans.length
    · obtain ⟨z, hz⟩ : ∃ z, canL m (gti n.trans k).inn = z := ⟨_, rfl⟩
      have HC := Lib.hid (fun W (h : Below w.heap.size w W) => can_is hz _ _ lo hi lo' hi' W (HV.out.after h) (HM.out.after h) hlt (fun q hq => HIN.out k hlt _ (gti_mem hq)))
      have HE : Hid (enB (gti n.trans k) m = z) := Lib.hid (by rw [← hz, canL_enB HNN.out])
      clear hz
      obtain ⟨b4, off4, vi, vo, rfl, _, _, hct, hri, hro⟩ := RdT.at3 (HV.out.after M.out.2.1.1) hlt
      have HA2 := Lib.hid (gti_get hlt)
      generalize gti n.trans k = x at *
      by_cases hl : x.label.toList = act.toList
      · have HLA := Lib.hid (toList_inj.1 hl)
        cases z with
        | true =>
          have HP : Hid (enB2 m act x = true) := Lib.hid (by unfold enB2; rw [decide_eq_true HLA.out, HE.out]; rfl)
          go_wp2_with (go_at_call 80; refine (HC.out _ M.out.2.1.1).mono ?_; rintro e w1 ⟨rfl, hb1⟩; replace M := Lib.hid (M.out.below hb1); clear hb1; replace hk4 := M.out.1)
          exact HR.out _ _ ⟨ret_int (firstAt_some HA2.out HP.out HNO.out).symm, M.out.2.1.1⟩
        | false =>
          have HP : Hid (enB2 m act x = false) := Lib.hid (by unfold enB2; rw [HE.out]; simp)
          go_wp2_with (go_at_call 80; refine (HC.out _ M.out.2.1.1).mono ?_; rintro e w1 ⟨rfl, hb1⟩; replace M := Lib.hid (M.out.below hb1); clear hb1; replace hk4 := M.out.1)
          exact ⟨⟨k + 1, by omega, by go_num, Lib.hid (snoc_no HNO.out HA2.out HP.out), M⟩, by simp [intOf]; omega⟩
      · have hb : (x.label.toList == act.toList) = false := by simpa using hl
        have HP : Hid (enB2 m act x = false) := Lib.hid (by unfold enB2; rw [decide_eq_false (fun e => hl (toList_inj.2 e))]; rfl)
        go_wp2_with fail
        exact ⟨⟨k + 1, by omega, by go_num, Lib.hid (snoc_no HNO.out HA2.out HP.out), M⟩, by simp [intOf]; omega⟩
    · obtain rfl : k = n.trans.length := by omega
      go_wp2_with fail
      exact HR.out _ _ ⟨ret_int (firstAt_none HNO.out).symm, M.out.2.1.1⟩
set_option maxHeartbeats 1000000 in
theorem sameRow_any (a b : List Int) (lo hi lo2 hi2 : Nat) (v1 v2 : Value) (w : World) (h1 : RdI w lo hi v1 a) (h2 : RdI w lo2 hi2 v2 b) :
    Calls Try.prog 47 #[v1, v2] w fun e w' => e = .returned (.bool (decide (a = b))) ∧ Below w.heap.size w w' := by
  obtain ⟨A1, c1, rfl, hc1, hm1⟩ := h1.form
  obtain ⟨A2, c2, rfl, hc2, hm2⟩ := h2.form
  have H1 := Lib.hid h1
  have H2 := Lib.hid h2
  clear h1 h2
  refine calls_cps fun R hR => ?_
  have HR := Lib.hid hR
  clear hR
  go_enter Try.func47, Try.ntmps47
  by_cases hl : a.length = b.length
  · have hl' : (a.length : Int) = b.length := by omega
    have HL := Lib.hid hl
    clear hl
    go_wp2_with fail
    go_loopw [5] (fun v5 wr => ∃ (k q : Nat), k ≤ a.length ∧ v5 = .int .i64 k ∧ wr = w.drewN q ∧ Hid (decide (a = b) = eqLs (a.drop k) (b.drop k))) (fun v5 _ => a.length - (intOf v5).toNat)
    case atStart => exact ⟨0, 0, by omega, rfl, rfl, Lib.hid (by rw [← eqLs_iff]; rfl)⟩
    case round =>
      obtain ⟨k, q, hk, rfl, rfl, HI⟩ := hrel
      by_cases hlt : k < a.length
      · have hkd : decide ((k : Int) < (a.length : Int)) = true := by simp; omega
        have hkb : (k : Int) < (a.length : Int) := by omega
        have hkc : (k : Int) < (b.length : Int) := by omega
        obtain ⟨b1, o1, rfl, _, _, f1⟩ := RdI.at1 H1.out hlt
        obtain ⟨b2, o2, rfl, _, _, f2⟩ := RdI.at1 H2.out (k := k) (by have := HL.out; omega)
        have HJ : Hid (decide (a = b) = if gti a k = gti b k then eqLs (a.drop (k + 1)) (b.drop (k + 1)) else false) := Lib.hid (by rw [HI.out, drop_gti hlt, drop_gti (l := b) (k := k) (by have := HL.out; omega), eqLs])
        generalize gti a k = x at *
        generalize gti b k = y at *
        go_wp2
        go_quiet (fail)
        go_wp2
        all_goals have hj := HJ.out
        · refine HR.out _ _ ⟨ret_bool ?_, below_drewN (below_drewN (Below.refl _ _) _) _⟩
          clear HJ HI; go_light; grind
        all_goals first
          | (refine ⟨⟨k + 1, q + nq, by omega, by go_num, by first | rfl | rw [World.drewN_drewN], Lib.hid (by clear HJ HI; go_light; grind)⟩, by simp [intOf]; omega⟩)
      · have hkd : decide ((k : Int) < (a.length : Int)) = false := by simp; omega
        have HE : Hid (decide (a = b) = true) := Lib.hid (by rw [HI.out, List.drop_eq_nil_of_le (by omega), List.drop_eq_nil_of_le (by have := HL.out; omega)]; rfl)
        clear HI
        go_wp2
        exact HR.out _ _ ⟨ret_bool HE.out.symm, below_drewN (Below.refl _ _) _⟩
  · have hl' : ¬ (a.length : Int) = b.length := by omega
    have HL := Lib.hid hl
    clear hl
    go_wp2_with fail
    exact HR.out _ _ ⟨ret_bool (eqLs_len HL.out).symm, Below.refl _ _⟩


set_option maxHeartbeats 1000000 in
theorem rOne_any (n : Net) (np kp : Nat) (vt : Value) (lo hi : Nat) (w : World) (hv : RdT w lo hi vt n.trans) (hnp : n.places = np) (hn40 : np ≤ 40) (hlt : kp < np) :
    Calls Try.prog 20 #[netV n vt, .int .i64 kp] w fun e w' => ∃ gm, e = .returned (.slice (some ⟨gm, 0, none⟩) np np) ∧ w.heap.size ≤ gm ∧ OwnI w' gm (gm + 1) (.slice (some ⟨gm, 0, none⟩) np np) (oneL np kp) ∧ Below w.heap.size w w' := by
  have hmk := mk_int hnp (by omega)
  obtain ⟨A, c, rfl, hc, hm⟩ := hv.form
  clear hnp hv
  refine calls_cps fun R hR => ?_
  have HR := Lib.hid hR
  clear hR
  go_enter Try.func20, Try.ntmps20
  have M : Hid (Mem [Loc.k4 w.heap.size (.int .i64 n.places) (.slice A n.trans.length c) (.int .i64 n.source) (.int .i64 n.sink), Loc.bl w.heap.size w] (w.alloc (.cells #[.int .i64 n.places, .slice A n.trans.length c, .int .i64 n.source, .int .i64 n.sink] 24))) := Lib.hid ⟨K4.new w _ _ _ _ _, ⟨(Below.refl _ _).alloc (Nat.le_refl _) _, by simp⟩, True.intro⟩
  have hk4 := M.out.1
  have ho := OwnI.made (w.alloc (.cells #[.int .i64 n.places, .slice A n.trans.length c, .int .i64 n.source, .int .i64 n.sink] 24)) np (by omega)
  rw [World.size_alloc] at ho
  have HO := Lib.hid ho
  clear ho
  have hat := OwnI.at1 HO.out (k := kp) (by simp; omega)
  go_wp2_with fail
  refine HR.out _ _ ⟨w.heap.size + 1, rfl, by omega, ?_, ?_⟩
  · have := OwnI.set HO.out kp 1
    have e := set_new (w.alloc (.cells #[.int .i64 n.places, .slice A n.trans.length c, .int .i64 n.source, .int .i64 n.sink] 24)) (madeCells #[.int .i64 0] np) 3 kp (.int .i64 1)
    rw [World.size_alloc] at e
    rw [e] at this
    simpa [oneL] using this
  · exact ((Below.refl _ _).alloc (Nat.le_refl _) _).alloc (by simp) _
end Go.Proofs.Ytmhbfoaecebobaa
end
section
namespace Go.Proofs.Ytmhbfoaecebobaa.Aw
set_option linter.unusedSimpArgs false
set_option linter.unusedVariables false
open Go.RowKit Go.Proofs
variable {P : Program} [IsP P]

theorem newCx_st {G : Cx} {w' : World} {b o : Nat} (h1 : G.w.heap.size ≤ b) (h2 : b < w'.heap.size) : (newCx G w').St b o := .inr ⟨h1, h2⟩
theorem pure_prog {f : FuncId} {args : List AV} {r : AV} (h : Pure Try.prog f args r) : Pure P f args r := by rw [IsP.eq (P := P)]; exact h
theorem lo_I {k : Nat} {l : List Int} : Lo k (eL eI l) := lo_map fun _ => .s _

/-- the result of firing and its like -/
theorem retI_pure {f : FuncId} {args : List AV} {r : List Int × Int} (he : Ent f) (h : ∀ (G : Cx) (vargs : Array Value), (∀ b o, G.St b o → b < G.w.heap.size) → vargs.size = args.length → (∀ (j : Nat) v x, vargs[j]? = some v → args[j]? = some x → Rep G v x) → Calls Try.prog f vargs G.w (RetI G.w r)) : Pure P f args (.tup [eL eI r.1, eI r.2]) :=
  pure_prog (pure_mk he (.tup _ (lo_cons lo_I (lo_cons (.s _) lo_nil))) fun G vargs hst hsz hrep => (h G vargs hst hsz hrep).mono (by
    rintro e w' ⟨A, c, rfl, hr, hb⟩
    refine ⟨_, rfl, hb, .tup _ _ rfl (fun j v x hv hx => ?_)⟩
    match j, hv, hx with
    | 0, hv, hx => simp at hv hx; subst hv hx; exact rdI_rep (G := newCx G w') hr (fun b o h1 h2 _ => newCx_st h1 h2)
    | 1, hv, hx => simp at hv hx; subst hv hx; exact .s _
    | j + 2, hv, hx => simp at hv))
theorem retB_pure {f : FuncId} {args : List AV} {b : Bool} (he : Ent f) (h : ∀ (G : Cx) (vargs : Array Value), (∀ b o, G.St b o → b < G.w.heap.size) → vargs.size = args.length → (∀ (j : Nat) v x, vargs[j]? = some v → args[j]? = some x → Rep G v x) → Calls Try.prog f vargs G.w fun e w' => e = .returned (.bool b) ∧ Below G.w.heap.size G.w w') : Pure P f args (eB b) :=
  pure_prog (pure_mk he (.s _) fun G vargs hst hsz hrep => (h G vargs hst hsz hrep).mono (by
    rintro e w' ⟨rfl, hb⟩
    exact ⟨_, rfl, hb, .s _⟩))
theorem retN_pure {f : FuncId} {args : List AV} {n : Int} (he : Ent f) (h : ∀ (G : Cx) (vargs : Array Value), (∀ b o, G.St b o → b < G.w.heap.size) → vargs.size = args.length → (∀ (j : Nat) v x, vargs[j]? = some v → args[j]? = some x → Rep G v x) → Calls Try.prog f vargs G.w fun e w' => e = .returned (.int .i64 n) ∧ Below G.w.heap.size G.w w') : Pure P f args (eI n) :=
  pure_prog (pure_mk he (.s _) fun G vargs hst hsz hrep => (h G vargs hst hsz hrep).mono (by
    rintro e w' ⟨rfl, hb⟩
    exact ⟨_, rfl, hb, .s _⟩))
/-- a net, a list, a number -/
theorem args3 {G : Cx} {vargs : Array Value} {n : Net} {m : List Int} {x : Value} (hst : ∀ b o, G.St b o → b < G.w.heap.size) (hsz : vargs.size = [eN n, eL eI m, .s x].length) (hrep : ∀ (j : Nat) v y, vargs[j]? = some v → [eN n, eL eI m, .s x][j]? = some y → Rep G v y) :
    ∃ vt v, vargs = #[netV n vt, v, x] ∧ RdT G.w 0 G.w.heap.size vt n.trans ∧ RdI G.w 0 G.w.heap.size v m := by
  obtain ⟨l⟩ := vargs
  match l, hsz with
  | [a, b, c], _ =>
    obtain ⟨vt, rfl, h1⟩ := rep_net (hrep 0 a _ rfl rfl) hst
    have h2 := rep_rdI (hrep 1 b _ rfl rfl) hst
    have h3 := rep_s (hrep 2 c _ rfl rfl)
    subst h3
    exact ⟨vt, b, rfl, h1, h2⟩
theorem args2 {G : Cx} {vargs : Array Value} {n : Net} {m : List Int} (hst : ∀ b o, G.St b o → b < G.w.heap.size) (hsz : vargs.size = [eN n, eL eI m].length) (hrep : ∀ (j : Nat) v y, vargs[j]? = some v → [eN n, eL eI m][j]? = some y → Rep G v y) :
    ∃ vt v, vargs = #[netV n vt, v] ∧ RdT G.w 0 G.w.heap.size vt n.trans ∧ RdI G.w 0 G.w.heap.size v m := by
  obtain ⟨l⟩ := vargs
  match l, hsz with
  | [a, b], _ =>
    obtain ⟨vt, rfl, h1⟩ := rep_net (hrep 0 a _ rfl rfl) hst
    exact ⟨vt, b, rfl, h1, rep_rdI (hrep 1 b _ rfl rfl) hst⟩
theorem args1 {G : Cx} {vargs : Array Value} {n : Net} (hst : ∀ b o, G.St b o → b < G.w.heap.size) (hsz : vargs.size = [eN n].length) (hrep : ∀ (j : Nat) v y, vargs[j]? = some v → [eN n][j]? = some y → Rep G v y) :
    ∃ vt, vargs = #[netV n vt] ∧ RdT G.w 0 G.w.heap.size vt n.trans := by
  obtain ⟨l⟩ := vargs
  match l, hsz with
  | [a], _ =>
    obtain ⟨vt, rfl, h1⟩ := rep_net (hrep 0 a _ rfl rfl) hst
    exact ⟨vt, rfl, h1⟩
theorem argsN {G : Cx} {vargs : Array Value} {n : Net} {x : Value} (hst : ∀ b o, G.St b o → b < G.w.heap.size) (hsz : vargs.size = [eN n, .s x].length) (hrep : ∀ (j : Nat) v y, vargs[j]? = some v → [eN n, .s x][j]? = some y → Rep G v y) :
    ∃ vt, vargs = #[netV n vt, x] ∧ RdT G.w 0 G.w.heap.size vt n.trans := by
  obtain ⟨l⟩ := vargs
  match l, hsz with
  | [a, b], _ =>
    obtain ⟨vt, rfl, h1⟩ := rep_net (hrep 0 a _ rfl rfl) hst
    have h3 := rep_s (hrep 1 b _ rfl rfl)
    subst h3
    exact ⟨vt, rfl, h1⟩
theorem argsS {G : Cx} {vargs : Array Value} {l : List ByteArray} (hst : ∀ b o, G.St b o → b < G.w.heap.size) (hsz : vargs.size = [eL eS l].length) (hrep : ∀ (j : Nat) v y, vargs[j]? = some v → [eL eS l][j]? = some y → Rep G v y) :
    ∃ v, vargs = #[v] ∧ RdS G.w 0 G.w.heap.size v l := by
  obtain ⟨q⟩ := vargs
  match q, hsz with
  | [a], _ => exact ⟨a, rfl, rep_rdS (hrep 0 a _ rfl rfl) hst⟩

theorem rFire_pf (n : Net) (m : List Int) (t : Int) : Pure P 48 [eN n, eL eI m, eI t] (.tup [eL eI (FireE n m t).1, eI (FireE n m t).2]) :=
  retI_pure (ent_of Try.func48 rfl rfl) fun G vargs hst hsz hrep => by
    obtain ⟨vt, v, rfl, h1, h2⟩ := args3 hst hsz hrep
    exact rFire_any n m t vt v _ _ _ _ G.w h1 h2
theorem labelled_pf (n : Net) (act : ByteArray) : Pure P 34 [eN n, eS act] (eI (labAt n act)) :=
  retN_pure (ent_of Try.func34 rfl rfl) fun G vargs hst hsz hrep => by
    obtain ⟨vt, rfl, h1⟩ := argsN hst hsz hrep
    exact labelled_any n act vt _ _ G.w h1
theorem renabled_pf (n : Net) (m : List Int) (act : ByteArray) (hnn : ∀ i, 0 ≤ gti m i) (hin : InOk n m.length) : Pure P 36 [eN n, eL eI m, eS act] (eI (enabledAt n m act)) :=
  retN_pure (ent_of Try.func36 rfl rfl) fun G vargs hst hsz hrep => by
    obtain ⟨vt, v, rfl, h1, h2⟩ := args3 hst hsz hrep
    exact renabled_any n m act vt v _ _ _ _ G.w h1 h2 hnn hin
theorem workflow_pf (n : Net) : Pure P 27 [eN n] (eB (wfB n)) :=
  retB_pure (ent_of Try.func27 rfl rfl) fun G vargs hst hsz hrep => by
    obtain ⟨vt, rfl, h1⟩ := args1 hst hsz hrep
    exact workflow_any n vt _ _ G.w h1
theorem rvalid_pf (n : Net) : Pure P 49 [eN n] (eB (validB n)) :=
  retB_pure (ent_of Try.func49 rfl rfl) fun G vargs hst hsz hrep => by
    obtain ⟨vt, rfl, h1⟩ := args1 hst hsz hrep
    exact rvalid_any n vt _ _ G.w h1
theorem names_pf (l : List ByteArray) : Pure P 78 [eL eS l] (eB (allN l)) :=
  retB_pure (ent_of Try.func78 rfl rfl) fun G vargs hst hsz hrep => by
    obtain ⟨v, rfl, h1⟩ := argsS hst hsz hrep
    exact names_any l _ _ v G.w h1
theorem named_pf (l : List ByteArray) : Pure P 28 [eL eS l] (eB (allN l)) :=
  retB_pure (ent_of Try.func28 rfl rfl) fun G vargs hst hsz hrep => by
    obtain ⟨v, rfl, h1⟩ := argsS hst hsz hrep
    exact named_any l _ _ v G.w h1
end Go.Proofs.Ytmhbfoaecebobaa.Aw
end
section
namespace Go.Proofs.Ytmhbfoaecebobaa
set_option linter.unusedSimpArgs false
set_option linter.unusedVariables false
open Go.RowKit

/-- the value of a slice, as an element -/
structure SlV where
  a : Option Addr
  n : Nat
  c : Nat
  deriving Inhabited
abbrev SlV.v (x : SlV) : Value := .slice x.a x.n x.c
abbrev encW (x : SlV) : List Value := [x.v]
abbrev RdW := Rd 1 encW
abbrev OwnW := Own 30 1 encW
abbrev Loc.owW (lo hi : Nat) (v : Value) (l : List SlV) : Loc := Loc.ow 30 1 encW lo hi v l
theorem ti_ints : TI 101 30 1 24 (.slice none 0 0) := TI.mk Try.underlying101 (by kernel_rfl) rfl (by decide)
theorem oneW : ∀ a : SlV, ∀ u ∈ encW a, u.oneCell' = true := by
  intro a u hu
  simp at hu
  subst hu
  rfl
def RdWs (D : Nat → Prop) (w : World) (vs : List SlV) (ls : List (List Int)) : Prop :=
  vs.length = ls.length ∧ ∀ i, i < ls.length → RdB D w (gti vs i).v (gti ls i)
theorem RdWs.keep {D E : Nat → Prop} {w W : World} (hc : Chg E w W) (hd : ∀ k, D k → ¬ E k) {vs : List SlV} {ls : List (List Int)} (h : RdWs D w vs ls) : RdWs D W vs ls := ⟨h.1, fun i hi => (h.2 i hi).keep hc hd⟩
abbrev Loc.ws (D : Nat → Prop) (vs : List SlV) (ls : List (List Int)) : Loc := ⟨fun w => RdWs D w vs ls, D, fun h hd hp => RdWs.keep h hd hp⟩
theorem RdWs.mono {D E : Nat → Prop} {w : World} {vs : List SlV} {ls : List (List Int)} (h : RdWs D w vs ls) (hd : ∀ k, D k → E k) : RdWs E w vs ls := ⟨h.1, fun i hi => (h.2 i hi).mono hd⟩
theorem RdWs.nil (D : Nat → Prop) (w : World) : RdWs D w [] [] := ⟨rfl, fun i hi => absurd hi (by simp)⟩
theorem RdWs.snoc {D : Nat → Prop} {w : World} {vs : List SlV} {ls : List (List Int)} (h : RdWs D w vs ls) {v : SlV} {x : List Int} (h1 : RdB D w v.v x) : RdWs D w (vs ++ [v]) (ls ++ [x]) := by
  refine ⟨by simp [h.1], fun i hi => ?_⟩
  by_cases hl : i < ls.length
  · rw [gti_pre hl, gti_pre (by rw [h.1]; exact hl)]
    exact h.2 i hl
  · obtain rfl : i = ls.length := by simp at hi; omega
    have e1 : gti (vs ++ [v]) ls.length = v := by rw [gti_app, if_neg (by rw [h.1]; omega), h.1, Nat.sub_self]; rfl
    have e2 : gti (ls ++ [x]) ls.length = x := by rw [gti_app, if_neg (by omega), Nat.sub_self]; rfl
    rw [e1, e2]
    exact h1
theorem RdW.at1 {w : World} {lo hi : Nat} {A : Option Addr} {c : Nat} {l : List SlV} (h : RdW w lo hi (.slice A l.length c) l) {k : Nat} (hk : k < l.length) :
    ∃ b off, A = some ⟨b, off, none⟩ ∧ lo ≤ b ∧ b < hi ∧ C1 w b (off + k) (gti l k).v := by
  obtain ⟨b, off, hA, h1, h2, hc⟩ := Rd.at_ h (fun _ => rfl) (gti_get hk)
  exact ⟨b, off, hA, h1, h2, by have := hc 0 _ rfl; rw [Nat.mul_one] at this; exact this⟩
theorem RdW.lit (W : World) (x : SlV) (t : TypeId) : RdW (W.alloc (.cells #[x.v] t)) 0 (W.heap.size + 1) (.slice (some ⟨W.heap.size, 0, none⟩) 1 1) [x] := Rd.lit W t [x] _ 1 rfl rfl (by decide) (fun _ => rfl)
def hasL (m : List Int) : List (List Int) → Bool
  | [] => false
  | a :: l => if decide (a = m) then true else hasL m l
theorem hasL_eq (m : List Int) : ∀ l, hasL m l = decide (m ∈ l)
  | [] => by simp [hasL]
  | a :: l => by
    rw [hasL, hasL_eq m l]
    by_cases h : a = m
    · simp [h]
    · simp [h, show ¬ m = a from fun e => h e.symm]
theorem sameRow_is {a b : List Int} {z : Bool} (h : decide (a = b) = z) (lo hi lo2 hi2 : Nat) (v1 v2 : Value) (w : World) (h1 : RdI w lo hi v1 a) (h2 : RdI w lo2 hi2 v2 b) :
    Calls Try.prog 47 #[v1, v2] w fun e w' => e = .returned (.bool z) ∧ Below w.heap.size w w' := h ▸ sameRow_any a b lo hi lo2 hi2 v1 v2 w h1 h2
set_option maxHeartbeats 1000000 in
theorem rhas_any (D : Nat → Prop) (vs : List SlV) (ls : List (List Int)) (m : List Int) (lo hi lo2 hi2 : Nat) (v v2 : Value) (w : World) (hv : RdW w lo hi v vs) (hs : RdWs D w vs ls) (hm : RdI w lo2 hi2 v2 m) :
    Calls Try.prog 79 #[v, v2] w fun e w' => e = .returned (.bool (decide (m ∈ ls))) ∧ Below w.heap.size w w' := by
  obtain ⟨A, c, rfl, hc, hmm⟩ := hv.form
  obtain ⟨A2, c2, rfl, hc2, hmm2⟩ := hm.form
  have HV := Lib.hid hv
  have HS := Lib.hid hs
  have HM := Lib.hid hm
  have HVL := Lib.hid hs.1
  rw [← hasL_eq]
  clear hv hs hm
  refine calls_cps fun R hR => ?_
  have HR := Lib.hid hR
  clear hR
  go_enter Try.func79, Try.ntmps79
  go_wp2_with fail
  go_loopw [5] (fun v5 wr => ∃ k : Nat, k ≤ vs.length ∧ v5 = .int .i64 k ∧ Hid (Below w.heap.size w wr) ∧ Hid (hasL m ls = hasL m (ls.drop k))) (fun v5 _ => vs.length - (intOf v5).toNat)
  case atStart => exact ⟨0, by omega, rfl, Lib.hid (Below.refl _ _), Lib.hid rfl⟩
  case round =>
    obtain ⟨k, hk, rfl, HB, HI⟩ := hrel
    by_cases hlt : k < vs.length
    · obtain ⟨b, off, rfl, _, _, hcell⟩ := RdW.at1 (HV.out.after HB.out) hlt
      have hlt2 : k < ls.length := by have := HVL.out; omega
      have HJ : Hid (hasL m ls = if decide (gti ls k = m) then true else hasL m (ls.drop (k + 1))) := Lib.hid (by rw [HI.out, drop_gti hlt2, hasL])
      obtain ⟨bx, hbx⟩ := (HS.out.2 k hlt2).rd
      have HX := Lib.hid (hbx.after HB.out)
      obtain ⟨z, hz⟩ : ∃ z, decide (gti ls k = m) = z := ⟨_, rfl⟩
      have HZ := Lib.hid hz
      rw [hz] at HJ
      clear hz hbx
      generalize gti ls k = y at *
      generalize gti vs k = yv at *
      obtain ⟨ya, yn, yc⟩ := yv
      dsimp only [SlV.v] at hcell HX
      cases z with
      | true =>
        go_wp2_with (go_at_call 47; refine (sameRow_is HZ.out _ _ _ _ _ _ _ HX.out (HM.out.after HB.out)).mono ?_; rintro e w1 ⟨rfl, hb1⟩; replace HB := Lib.hid (HB.out.trans (hb1.mono HB.out.size)); clear hb1)
        exact HR.out _ _ ⟨ret_bool HJ.out.symm, HB.out⟩
      | false =>
        go_wp2_with (go_at_call 47; refine (sameRow_is HZ.out _ _ _ _ _ _ _ HX.out (HM.out.after HB.out)).mono ?_; rintro e w1 ⟨rfl, hb1⟩; replace HB := Lib.hid (HB.out.trans (hb1.mono HB.out.size)); clear hb1)
        exact ⟨⟨k + 1, by omega, by go_num, HB, Lib.hid (by rw [HJ.out]; rfl)⟩, by simp [intOf]; omega⟩
    · obtain rfl : k = vs.length := by omega
      have HE : Hid (hasL m ls = false) := Lib.hid (by rw [HI.out, HVL.out, List.drop_length]; rfl)
      clear HI
      go_wp2_with fail
      exact HR.out _ _ ⟨ret_bool HE.out.symm, HB.out⟩
theorem rhas_is {m : List Int} {ls : List (List Int)} {z : Bool} (h : decide (m ∈ ls) = z) (D : Nat → Prop) (vs : List SlV) (lo hi lo2 hi2 : Nat) (v v2 : Value) (w : World) (hv : RdW w lo hi v vs) (hs : RdWs D w vs ls) (hm : RdI w lo2 hi2 v2 m) :
    Calls Try.prog 79 #[v, v2] w fun e w' => e = .returned (.bool z) ∧ Below w.heap.size w w' := h ▸ rhas_any D vs ls m lo hi lo2 hi2 v v2 w hv hs hm
theorem roundS_full {n : Net} {x : Nd} {q : List Nd} {k : Nat} (h : (roundS n x q k).length = 200) : ∀ {j : Nat}, k ≤ j → roundS n x q j = roundS n x q k := by
  intro j hj
  induction j with
  | zero => obtain rfl : k = 0 := by omega
            rfl
  | succ j ih =>
    rcases Nat.lt_or_ge j k with hlt | hge
    · obtain rfl : k = j + 1 := by omega
      rfl
    · rw [roundS, ih hge]
      unfold stepS
      rw [if_pos (.inr h)]
end Go.Proofs.Ytmhbfoaecebobaa
end
