/-
  Walks of product's price, ValidCosts, fold at ints, Cost, of casebookref42's Of, ValidCosts, Few, Cost. Conditions: none.
-/
import Derived.Test.YtamhbmaimiifmaaValid2
import Derived.Test.YtamhbmaimiifmaaCls
namespace Go.Proofs.Ytamhbmaimiifmaa
set_option linter.unusedSimpArgs false
set_option linter.unusedVariables false
open Go.RowKit

structure Cst where
  log : Int
  model : Int
  silent : Int
abbrev cstV (c : Cst) : Value := .agg #[.int .i64 c.log, .int .i64 c.model, .int .i64 c.silent]
def inB (k : Int) : Bool := decide (0 ≤ k) && decide (k ≤ 1000)
def vcB (c : Cst) : Bool := inB c.log && (inB c.model && inB c.silent)
def priceE (c : Cst) (k : Int) : Int := if k = 2 then c.log else if k = 3 then c.model else if k = 4 then c.silent else 0
theorem price_bd {c : Cst} (h : vcB c = true) (k : Int) : 0 ≤ priceE c k ∧ priceE c k ≤ 1000 := by
  unfold vcB inB at h
  simp only [Bool.and_eq_true, decide_eq_true_eq] at h
  unfold priceE
  split
  · omega
  · split
    · omega
    · split <;> omega
def costAt (c : Cst) (l : List Stp) : Nat → Int
  | 0 => 0
  | k + 1 => costAt c l k + priceE c (gti l k).kind
theorem costAt_bd {c : Cst} (h : vcB c = true) (l : List Stp) : ∀ k : Nat, 0 ≤ costAt c l k ∧ costAt c l k ≤ 1000 * k
  | 0 => by simp [costAt]
  | k + 1 => by
    have := costAt_bd h l k
    have := price_bd h (gti l k).kind
    simp only [costAt]
    omega
abbrev stpM (m : Stp) : Value := .agg #[.int .i64 m.kind, .int .i64 m.trans, .string m.act]

set_option maxHeartbeats 400000 in
theorem price_any (c : Cst) (m : Stp) (w : World) : Calls Try.prog 56 #[cstV c, stpM m] w fun e w' => e = .returned (.int .i64 (priceE c m.kind)) ∧ Below w.heap.size w w' := by
  obtain ⟨kd, tr, ac⟩ := m
  simp only
  refine calls_cps fun R hR => ?_
  have HR := Lib.hid hR
  clear hR
  go_enter Try.func56, Try.ntmps56
  go_wp2_with fail
  all_goals (refine HR.out _ _ ⟨ret_int ?_, ?_⟩ <;> first | exact ((Below.refl _ _).alloc (Nat.le_refl _) _).alloc (by simp) _ | (go_light; grind [priceE]))
set_option maxHeartbeats 400000 in
theorem rOf_any (c : Cst) (m : Stp) (w : World) : Calls Try.prog 58 #[cstV c, stpM m] w fun e w' => e = .returned (.int .i64 (priceE c m.kind)) ∧ Below w.heap.size w w' := by
  obtain ⟨kd, tr, ac⟩ := m
  simp only
  refine calls_cps fun R hR => ?_
  have HR := Lib.hid hR
  clear hR
  go_enter Try.func58, Try.ntmps58
  go_wp2_with fail
  all_goals (refine HR.out _ _ ⟨ret_int ?_, ?_⟩ <;> first | exact ((Below.refl _ _).alloc (Nat.le_refl _) _).alloc (by simp) _ | (go_light; grind [priceE]))
set_option maxHeartbeats 400000 in
theorem vc1_any (k : Int) (w : World) : Calls Try.prog 63 #[.int .i64 k] w fun e w' => e = .returned (.bool (inB k)) ∧ Below w.heap.size w w' := by
  refine calls_cps fun R hR => ?_
  have HR := Lib.hid hR
  clear hR
  go_enter Try.func63, Try.ntmps63
  go_wp2_with fail
  all_goals (refine HR.out _ _ ⟨ret_bool ?_, Below.refl _ _⟩ <;> (go_light; grind [inB]))
set_option maxHeartbeats 400000 in
theorem validCosts_any (c : Cst) (w : World) : Calls Try.prog 20 #[cstV c] w fun e w' => e = .returned (.bool (vcB c)) ∧ Below w.heap.size w w' := by
  have M : Hid (Mem [Loc.k3 w.heap.size (.int .i64 c.log) (.int .i64 c.model) (.int .i64 c.silent), Loc.bl w.heap.size w] (w.alloc (.cells #[.int .i64 c.log, .int .i64 c.model, .int .i64 c.silent] 27))) := Lib.hid ⟨K3.new w _ _ _ _, ⟨(Below.refl _ _).alloc (Nat.le_refl _) _, by simp⟩, True.intro⟩
  have hk3 := M.out.1
  refine calls_cps fun R hR => ?_
  have HR := Lib.hid hR
  clear hR
  go_enter Try.func20, Try.ntmps20
  go_wp2_with (go_at_call 63; refine (vc1_any _ _).mono ?_; rintro e w1 ⟨rfl, hb1⟩; replace M := Lib.hid (M.out.below hb1); clear hb1; replace hk3 := M.out.1)
  all_goals ((with_reducible refine HR.out _ _ ⟨?_, ?_⟩) <;> first | exact ret_bool (by go_light; grind [vcB]) | exact M.out.2.1.1)
set_option maxHeartbeats 1000000 in
theorem rValidCosts_any (c : Cst) (w : World) : Calls Try.prog 21 #[cstV c] w fun e w' => e = .returned (.bool (vcB c)) ∧ Below w.heap.size w w' := by
  have M : Hid (Mem [Loc.k3 w.heap.size (.int .i64 c.log) (.int .i64 c.model) (.int .i64 c.silent), Loc.bl w.heap.size w] (w.alloc (.cells #[.int .i64 c.log, .int .i64 c.model, .int .i64 c.silent] 27))) := Lib.hid ⟨K3.new w _ _ _ _, ⟨(Below.refl _ _).alloc (Nat.le_refl _) _, by simp⟩, True.intro⟩
  have hk3 := M.out.1
  refine calls_cps fun R hR => ?_
  have HR := Lib.hid hR
  clear hR
  go_enter Try.func21, Try.ntmps21
  go_wp2_with fail
  all_goals ((with_reducible refine HR.out _ _ ⟨?_, ?_⟩) <;> first | exact ret_bool (by go_light; grind [vcB, inB]) | exact M.out.2.1.1)
theorem validCosts_is {c : Cst} {z : Bool} (h : vcB c = z) (w : World) : Calls Try.prog 20 #[cstV c] w fun e w' => e = .returned (.bool z) ∧ Below w.heap.size w w' := h ▸ validCosts_any c w
theorem rValidCosts_is {c : Cst} {z : Bool} (h : vcB c = z) (w : World) : Calls Try.prog 21 #[cstV c] w fun e w' => e = .returned (.bool z) ∧ Below w.heap.size w w' := h ▸ rValidCosts_any c w

def fewL : List Stp → Bool
  | [] => true
  | m :: l => if m.kind < 1 ∨ 4 < m.kind then false else fewL l
theorem fewL_eq : ∀ l, fewL l = l.all fun m => kindB m.kind
  | [] => rfl
  | m :: l => by
    rw [fewL, fewL_eq l, List.all_cons]
    unfold kindB
    grind
theorem fineB_eq (l : List Stp) : fineB l = if 4000 < l.length then false else fewL l := by
  unfold fineB
  rw [← fewL_eq]
  grind
set_option maxHeartbeats 1000000 in
theorem rFew_any (l : List Stp) (lo hi : Nat) (v : Value) (w : World) (hv : RdM w lo hi v l) :
    Calls Try.prog 57 #[v] w fun e w' => e = .returned (.bool (fineB l)) ∧ Below w.heap.size w w' := by
  obtain ⟨A, c, rfl, hc, hm⟩ := hv.form
  have HV := Lib.hid hv
  clear hv
  have HF := Lib.hid (fineB_eq l)
  refine calls_cps fun R hR => ?_
  have HR := Lib.hid hR
  clear hR
  go_enter Try.func57, Try.ntmps57
  go_wp2_with fail
  · exact HR.out _ _ ⟨ret_bool (by rw [HF.out]; clear HF; go_light; grind), Below.refl _ _⟩
  have HI : Hid (fineB l = fewL l) := Lib.hid (by rw [HF.out]; clear HF; go_light; grind)
  go_loop [3] (fun v3 => ∃ k : Nat, k ≤ l.length ∧ v3 = .int .i64 k ∧ Hid (fineB l = fewL (l.drop k))) (fun v3 => l.length - (intOf v3).toNat)
  case atStart => exact ⟨0, by omega, rfl, HI⟩
  case round =>
    clear HI HF
    obtain ⟨k, hk, rfl, HI⟩ := hrel
    by_cases hlt : k < l.length
    · obtain ⟨b, off, rfl, _, _, hcell⟩ := RdM.at3 HV.out hlt
      have HJ : Hid (fineB l = if (gti l k).kind < 1 ∨ 4 < (gti l k).kind then false else fewL (l.drop (k + 1))) := Lib.hid (by rw [HI.out, drop_gti hlt, fewL])
      generalize gti l k = x at *
      obtain ⟨kd, tr, ac⟩ := x
      simp only at hcell HJ
      go_wp2_with fail
      all_goals have hj := HJ.out
      all_goals first
        | ((with_reducible refine HR.out _ _ ⟨?_, ?_⟩) <;> first | exact ret_bool (by clear HJ HI; go_light; grind) | exact Below.refl _ _)
        | (refine ⟨⟨k + 1, by omega, by go_num, Lib.hid (by clear HJ HI; go_light; grind)⟩, by simp [intOf]; omega⟩)
    · obtain rfl : k = l.length := by omega
      have HE : Hid (fineB l = true) := Lib.hid (by rw [HI.out]; simp [fewL])
      clear HI
      go_wp2_with fail
      all_goals ((with_reducible refine HR.out _ _ ⟨?_, ?_⟩) <;> first | exact ret_bool (by rw [HE.out]) | exact Below.refl _ _)
theorem fine_is {l : List Stp} {z : Bool} (h : fineB l = z) (lo hi : Nat) (v : Value) (w : World) (hv : RdM w lo hi v l) :
    Calls Try.prog 53 #[v] w fun e w' => e = .returned (.bool z) ∧ Below w.heap.size w w' := h ▸ fine_any l lo hi v w hv
theorem rFew_is {l : List Stp} {z : Bool} (h : fineB l = z) (lo hi : Nat) (v : Value) (w : World) (hv : RdM w lo hi v l) :
    Calls Try.prog 57 #[v] w fun e w' => e = .returned (.bool z) ∧ Below w.heap.size w w' := h ▸ rFew_any l lo hi v w hv

theorem ent_cost1 : Ent 55 := ent_of Try.func55 (by kernel_rfl) rfl
set_option maxHeartbeats 400000 in
theorem cost1_any (c : Cst) (x : Int) (m : Stp) (g : Nat) (w : World) (hg : K3 w g (.int .i64 c.log) (.int .i64 c.model) (.int .i64 c.silent)) (hx : -9223372036854775808 ≤ x + priceE c m.kind ∧ x + priceE c m.kind ≤ 9223372036854775807) :
    Calls Try.prog 55 #[.int .i64 x, stpM m, .pointer (some ⟨g, 0, none⟩)] w fun e w' => e = .returned (.int .i64 (x + priceE c m.kind)) ∧ Below w.heap.size w w' := by
  have M : Hid (Mem [Loc.k3 g (.int .i64 c.log) (.int .i64 c.model) (.int .i64 c.silent), Loc.k3 w.heap.size (.int .i64 m.kind) (.int .i64 m.trans) (.string m.act), Loc.bl w.heap.size w] (w.alloc (.cells #[.int .i64 m.kind, .int .i64 m.trans, .string m.act] 57))) := Lib.hid ⟨K3.aft ((Below.refl _ _).alloc (Nat.le_refl _) _) hg, K3.new w _ _ _ _, ⟨(Below.refl _ _).alloc (Nat.le_refl _) _, by simp⟩, True.intro⟩
  have hk3 := M.out.1
  have hk4 := M.out.2.1
  clear hg
  refine calls_cps fun R hR => ?_
  have HR := Lib.hid hR
  clear hR
  go_enter Try.func55, Try.ntmps55
  go_wp2_with (go_at_call 56; refine (price_any _ _ _).mono ?_; rintro e w1 ⟨rfl, hb1⟩; replace M := Lib.hid (M.out.below hb1); clear hb1; skip)
  exact HR.out _ _ ⟨ret_int (by first | rfl | (go_light; omega)), M.out.2.2.1.1⟩

set_option maxHeartbeats 1000000 in
theorem foldI_any (f : FuncId) (hent : Ent f) (cap : Array Value) (acc : Nat → Int) (l : List Stp) (lo hi : Nat) (v : Value) (w : World) (hv : RdM w lo hi v l)
    (hf : ∀ k, k < l.length → ∀ W, Below w.heap.size w W → Calls Try.prog f (#[.int .i64 (acc k), stpM (gti l k)] ++ cap) W fun e W' => e = .returned (.int .i64 (acc (k + 1))) ∧ Below W.heap.size W W') :
    Calls Try.prog 54 #[v, .int .i64 (acc 0), .func (.func f) #[] cap] w fun e w' => e = .returned (.int .i64 (acc l.length)) ∧ Below w.heap.size w w' := by
  obtain ⟨A, c, rfl, hc, hm⟩ := hv.form
  unfold Ent at hent
  have HF := Lib.hid hf
  clear hf
  have HV := Lib.hid hv
  clear hv
  have M : Hid (Mem [Loc.bl w.heap.size w] w) := Lib.hid ⟨⟨Below.refl _ _, Nat.le_refl _⟩, True.intro⟩
  refine calls_cps fun R hR => ?_
  have HR := Lib.hid hR
  clear hR
  go_enter Try.func54, Try.ntmps54
  go_wp2_with fail
  go_loopw [11, 1, 8] (fun v11 v1 _ wr => ∃ k : Nat, k ≤ l.length ∧ v11 = .int .i64 k ∧ v1 = .int .i64 (acc k) ∧ Hid (Mem [Loc.bl w.heap.size w] wr)) (fun v11 _ _ _ => l.length - (intOf v11).toNat)
  case atStart => exact ⟨0, by omega, rfl, rfl, M⟩
  case round =>
    clear M
    obtain ⟨k, hk, rfl, rfl, M⟩ := hrel
    by_cases hlt : k < l.length
    · obtain ⟨b, off, rfl, _, _, hcell⟩ := RdM.at3 (HV.out.after M.out.1.1) hlt
      have HFK := Lib.hid (HF.out k hlt)
      generalize gti l k = x at *
      obtain ⟨kd, tr, ac⟩ := x
      simp only at hcell
      replace M : Hid (Mem [Loc.k3 wr.heap.size (.int .i64 kd) (.int .i64 tr) (.string ac), Loc.bl w.heap.size w] (wr.alloc (.cells #[.int .i64 kd, .int .i64 tr, .string ac] 57))) := Lib.hid ⟨K3.new wr _ _ _ _, M.out.alloc _⟩
      have hk3 := M.out.1
      go_wp2_with fail
      refine (HFK.out _ M.out.2.1.1).mono ?_
      rintro e w1 ⟨rfl, hb1⟩
      replace M := Lib.hid (M.out.below hb1)
      clear hb1
      go_wp2_with fail
      refine ⟨⟨k + 1, by omega, by go_num, rfl, Lib.hid M.out.2⟩, by simp [intOf]; omega⟩
    · obtain rfl : k = l.length := by omega
      go_wp2_with fail
      exact HR.out _ _ ⟨rfl, M.out.1.1⟩
/-- a number and an error number -/
def costE (c : Cst) (l : List Stp) : Int × Int := if vcB c && fineB l then (costAt c l l.length, 0) else (0, 1)
theorem fineB_len {l : List Stp} (h : fineB l = true) : l.length ≤ 4000 := by
  unfold fineB at h
  simp only [Bool.and_eq_true, decide_eq_true_eq] at h
  exact h.1
theorem ret_two {a b c d : Int} (h : (a, b) = (c, d)) : Ending.returned (.tuple #[.int .i64 a, .int .i64 b]) = .returned (.tuple #[.int .i64 c, .int .i64 d]) := by
  injection h with h1 h2; rw [h1, h2]

set_option maxHeartbeats 1000000 in
theorem Cost_any (c : Cst) (l : List Stp) (lo hi : Nat) (v : Value) (w : World) (hv : RdM w lo hi v l) :
    Calls Try.prog 14 #[cstV c, v] w fun e w' => e = .returned (.tuple #[.int .i64 (costE c l).1, .int .i64 (costE c l).2]) ∧ Below w.heap.size w w' := by
  have HV := Lib.hid hv
  obtain ⟨A, cc, rfl, hc, hm⟩ := hv.form
  clear hv
  obtain ⟨z, hz⟩ : ∃ z, vcB c = z := ⟨_, rfl⟩
  obtain ⟨y, hy⟩ : ∃ y, fineB l = y := ⟨_, rfl⟩
  have HZ := Lib.hid hz
  have HY := Lib.hid hy
  have HCE : Hid (costE c l = if z && y then (costAt c l l.length, 0) else (0, 1)) := Lib.hid (by rw [costE, hz, hy])
  clear hz hy
  have M : Hid (Mem [Loc.k3 w.heap.size (.int .i64 c.log) (.int .i64 c.model) (.int .i64 c.silent), Loc.bl w.heap.size w] (w.alloc (.cells #[.int .i64 c.log, .int .i64 c.model, .int .i64 c.silent] 27))) := Lib.hid ⟨K3.new w _ _ _ _, ⟨(Below.refl _ _).alloc (Nat.le_refl _) _, by simp⟩, True.intro⟩
  cases z <;> cases y
  all_goals
    refine calls_cps fun R hR => ?_
    have HR := Lib.hid hR
    clear hR
    go_enter Try.func14, Try.ntmps14
    have hk3 := M.out.1
    go_wp2_with (first
      | (go_at_call 20; refine (validCosts_is HZ.out _).mono ?_; rintro e w1 ⟨rfl, hb1⟩; replace M := Lib.hid (M.out.below hb1); clear hb1; replace hk3 := M.out.1)
      | (go_at_call 53; refine (fine_is HY.out lo hi _ _ (HV.out.after M.out.2.1.1)).mono ?_; rintro e w1 ⟨rfl, hb1⟩; replace M := Lib.hid (M.out.below hb1); clear hb1; replace hk3 := M.out.1)
      | (go_at_call 54; refine (foldI_any 55 ent_cost1 #[.pointer (some ⟨w.heap.size, 0, none⟩)] (costAt c l) l lo hi _ _ (HV.out.after M.out.2.1.1) (fun k hk W hW => cost1_any c _ _ _ W (K3.aft hW M.out.1) (by have h1 := costAt_bd HZ.out l k; have h2 := price_bd HZ.out (gti l k).kind; have h3 := fineB_len HY.out; omega))).mono ?_; rintro e w1 ⟨rfl, hb1⟩; replace M := Lib.hid (M.out.below hb1); clear hb1; skip))
  · exact HR.out _ _ ⟨ret_two (by rw [HCE.out]; rfl), M.out.2.1.1⟩
  · exact HR.out _ _ ⟨ret_two (by rw [HCE.out]; rfl), M.out.2.1.1⟩
  · exact HR.out _ _ ⟨ret_two (by rw [HCE.out]; rfl), M.out.2.1.1⟩
  · exact HR.out _ _ ⟨ret_two (by rw [HCE.out]; rfl), M.out.2.1.1⟩
end Go.Proofs.Ytamhbmaimiifmaa
