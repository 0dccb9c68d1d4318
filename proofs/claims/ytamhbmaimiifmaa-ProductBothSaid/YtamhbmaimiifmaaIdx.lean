/-
  Walks of slices.Index and Contains, at steps and strings. Conditions: none.
-/
import Derived.Test.YtamhbmaimiifmaaMoves
namespace Go.Proofs.Ytamhbmaimiifmaa
set_option linter.unusedSimpArgs false
set_option linter.unusedVariables false
open Go.RowKit

def eqM (a b : Stp) : Bool := decide (a.kind = b.kind) && (decide (a.trans = b.trans) && decide (a.act = b.act))
theorem eqM_iff {a b : Stp} : eqM a b = true ↔ a = b := by
  obtain ⟨a1, a2, a3⟩ := a
  obtain ⟨b1, b2, b3⟩ := b
  simp [eqM]
set_option maxRecDepth 100000 in
set_option maxHeartbeats 1000000 in
theorem run_eqlM (w : World) (x y : Stp) : (binOp .eql 57 (stpV x) (stpV y)).run Try.prog w = .ok (.bool (eqM x y)) w := by
  have hp : Try.prog.stoodInHeld 57 = false := by kernel_rfl
  obtain ⟨a1, a2, a3⟩ := x
  obtain ⟨b1, b2, b3⟩ := y
  have hi := toList_beq a3 b3
  by_cases h1 : a1 = b1 <;> by_cases h2 : a2 = b2 <;> by_cases h3 : a3 = b3 <;> simp [go_sem, eqM, h1, h2, h3, hp, hi, Try.underlying57, Try.underlying3, Try.underlying9]
def idxM (x : Stp) : Nat → List Stp → Int
  | _, [] => -1
  | k, a :: l => if eqM x a then (k : Int) else idxM x (k + 1) l
def hasM (x : Stp) (l : List Stp) : Bool := l.any (eqM x)
theorem idxM_ge (x : Stp) : ∀ (l : List Stp) (k : Nat), decide (0 ≤ idxM x k l) = hasM x l
  | [], k => by simp [idxM, hasM]
  | a :: l, k => by
    have ih := idxM_ge x l (k + 1)
    unfold hasM at ih ⊢
    rw [List.any_cons, idxM]
    by_cases h : eqM x a = true
    · rw [if_pos h, h]
      simp
    · rw [if_neg h, ih]
      simp [h]

set_option maxHeartbeats 1000000 in
theorem indexM_any (x : Stp) (l : List Stp) (lo hi : Nat) (v : Value) (w : World) (hv : RdM w lo hi v l) :
    Calls Try.prog 81 #[v, stpV x] w fun e w' => e = .returned (.int .i64 (idxM x 0 l)) ∧ Below w.heap.size w w' := by
  obtain ⟨A, c, rfl, hc, hm⟩ := hv.form
  obtain ⟨xk, xt, xa⟩ := x
  have HV := Lib.hid (hv.after ((Below.refl w.heap.size w).alloc (Nat.le_refl _) (.cells #[.int .i64 xk, .int .i64 xt, .string xa] 57)))
  have hk3 := K3.new w (.int .i64 xk) (.int .i64 xt) (.string xa) 57
  have HB := Lib.hid ((Below.refl w.heap.size w).alloc (Nat.le_refl _) (.cells #[.int .i64 xk, .int .i64 xt, .string xa] 57))
  clear hv
  refine calls_cps fun R hR => ?_
  have HR := Lib.hid hR
  clear hR
  go_enter Try.func81, Try.ntmps81
  go_wp2_with fail
  generalize w.alloc (.cells #[.int .i64 xk, .int .i64 xt, .string xa] 57) = W at *
  go_loopw [8, 5] (fun v8 _ wr => ∃ (k q : Nat), k ≤ l.length ∧ v8 = .int .i64 k ∧ wr = W.drewN q ∧ Hid (idxM ⟨xk, xt, xa⟩ 0 l = idxM ⟨xk, xt, xa⟩ k (l.drop k))) (fun v8 _ _ => l.length - (intOf v8).toNat)
  case atStart => exact ⟨0, 0, by omega, rfl, rfl, Lib.hid rfl⟩
  case round =>
    obtain ⟨k, q, hk, rfl, rfl, HI⟩ := hrel
    by_cases hlt : k < l.length
    · have hkd : decide ((k : Int) < (l.length : Int)) = true := by simp; omega
      have hkb : (k : Int) < (l.length : Int) := by omega
      obtain ⟨b1, o1, rfl, _, _, f1⟩ := RdM.at3 HV.out hlt
      have HJ : Hid (idxM ⟨xk, xt, xa⟩ 0 l = if eqM ⟨xk, xt, xa⟩ (gti l k) then (k : Int) else idxM ⟨xk, xt, xa⟩ (k + 1) (l.drop (k + 1))) := Lib.hid (by rw [HI.out, drop_gti hlt, idxM])
      generalize gti l k = y at *
      have hre := fun W => run_eqlM W ⟨xk, xt, xa⟩ y
      obtain ⟨z, hzz⟩ : ∃ z, eqM ⟨xk, xt, xa⟩ y = z := ⟨_, rfl⟩
      rw [hzz] at HJ hre
      clear hzz
      obtain ⟨yk, yt, ya⟩ := y
      simp only at f1
      go_wp2
      go_quiet (fail)
      go_wp2
      all_goals have hj := HJ.out
      · refine HR.out _ _ ⟨ret_int ?_, below_drewN (below_drewN HB.out _) _⟩
        clear HJ HI; go_light; grind
      · refine ⟨⟨k + 1, _, by omega, by go_num, by first | rfl | (rw [World.drewN_drewN]), Lib.hid (by clear HJ HI; go_light; grind)⟩, by simp [intOf]; omega⟩
    · have hkd : decide ((k : Int) < (l.length : Int)) = false := by simp; omega
      have HE : Hid (idxM ⟨xk, xt, xa⟩ 0 l = -1) := Lib.hid (by rw [HI.out, List.drop_eq_nil_of_le (by omega)]; rfl)
      clear HI
      go_wp2
      exact HR.out _ _ ⟨ret_int HE.out.symm, below_drewN HB.out _⟩

set_option maxHeartbeats 400000 in
theorem containsM_any (x : Stp) (l : List Stp) (lo hi : Nat) (v : Value) (w : World) (hv : RdM w lo hi v l) :
    Calls Try.prog 40 #[v, stpV x] w fun e w' => e = .returned (.bool (hasM x l)) ∧ Below w.heap.size w w' := by
  have HI := Lib.hid (idxM_ge x l 0)
  have M : Hid (Mem [Loc.k3 w.heap.size (.int .i64 x.kind) (.int .i64 x.trans) (.string x.act), Loc.bl w.heap.size w] (w.alloc (.cells #[.int .i64 x.kind, .int .i64 x.trans, .string x.act] 57))) := Lib.hid ⟨K3.new w _ _ _ _, ⟨(Below.refl _ _).alloc (Nat.le_refl _) _, by simp⟩, True.intro⟩
  have hk3 := M.out.1
  have HV := Lib.hid hv
  clear hv
  refine calls_cps fun R hR => ?_
  have HR := Lib.hid hR
  clear hR
  go_enter Try.func40, Try.ntmps40
  go_wp2_with (go_at_call 81; refine (indexM_any x l lo hi _ _ (HV.out.after M.out.2.1.1)).mono ?_; rintro e w1 ⟨rfl, hb1⟩; replace M := Lib.hid (M.out.below hb1); clear hb1; skip)
  exact HR.out _ _ ⟨ret_bool HI.out, M.out.2.1.1⟩

def idxS (x : ByteArray) : Nat → List ByteArray → Int
  | _, [] => -1
  | k, a :: l => if x = a then (k : Int) else idxS x (k + 1) l
def hasS (x : ByteArray) (l : List ByteArray) : Bool := l.any fun a => decide (x = a)
theorem idxS_ge (x : ByteArray) : ∀ (l : List ByteArray) (k : Nat), decide (0 ≤ idxS x k l) = hasS x l
  | [], k => by simp [idxS, hasS]
  | a :: l, k => by
    have ih := idxS_ge x l (k + 1)
    unfold hasS at ih ⊢
    rw [List.any_cons, idxS]
    by_cases h : x = a
    · rw [if_pos h]
      simp [h]
    · rw [if_neg h, ih]
      simp [h]
set_option maxHeartbeats 1000000 in
theorem indexS_any (x : ByteArray) (l : List ByteArray) (lo hi : Nat) (v : Value) (w : World) (hv : RdS w lo hi v l) :
    Calls Try.prog 82 #[v, .string x] w fun e w' => e = .returned (.int .i64 (idxS x 0 l)) ∧ Below w.heap.size w w' := by
  obtain ⟨A, c, rfl, hc, hm⟩ := hv.form
  have HV := Lib.hid hv
  clear hv
  refine calls_cps fun R hR => ?_
  have HR := Lib.hid hR
  clear hR
  go_enter Try.func82, Try.ntmps82
  go_wp2_with fail
  go_loopw [8, 5] (fun v8 _ wr => ∃ (k q : Nat), k ≤ l.length ∧ v8 = .int .i64 k ∧ wr = w.drewN q ∧ Hid (idxS x 0 l = idxS x k (l.drop k))) (fun v8 _ _ => l.length - (intOf v8).toNat)
  case atStart => exact ⟨0, 0, by omega, rfl, rfl, Lib.hid rfl⟩
  case round =>
    obtain ⟨k, q, hk, rfl, rfl, HI⟩ := hrel
    by_cases hlt : k < l.length
    · have hkd : decide ((k : Int) < (l.length : Int)) = true := by simp; omega
      have hkb : (k : Int) < (l.length : Int) := by omega
      obtain ⟨b1, o1, rfl, _, _, f1⟩ := RdS.at1 HV.out hlt
      have HJ : Hid (idxS x 0 l = if x = gti l k then (k : Int) else idxS x (k + 1) (l.drop (k + 1))) := Lib.hid (by rw [HI.out, drop_gti hlt, idxS])
      generalize gti l k = y at *
      go_wp2
      all_goals have hj := HJ.out
      all_goals have hinj := @toList_inj x y
      · refine HR.out _ _ ⟨ret_int ?_, below_drewN (Below.refl _ _) _⟩
        clear HJ HI; go_light; grind
      · refine ⟨⟨k + 1, q, by omega, by go_num, by first | rfl | (rw [World.drewN_drewN]), Lib.hid (by clear HJ HI; go_light; grind)⟩, by simp [intOf]; omega⟩
    · have hkd : decide ((k : Int) < (l.length : Int)) = false := by simp; omega
      have HE : Hid (idxS x 0 l = -1) := Lib.hid (by rw [HI.out, List.drop_eq_nil_of_le (by omega)]; rfl)
      clear HI
      go_wp2
      exact HR.out _ _ ⟨ret_int HE.out.symm, below_drewN (Below.refl _ _) _⟩
set_option maxHeartbeats 400000 in
theorem containsS_any (x : ByteArray) (l : List ByteArray) (lo hi : Nat) (v : Value) (w : World) (hv : RdS w lo hi v l) :
    Calls Try.prog 41 #[v, .string x] w fun e w' => e = .returned (.bool (hasS x l)) ∧ Below w.heap.size w w' := by
  have HI := Lib.hid (idxS_ge x l 0)
  have HV := Lib.hid hv
  clear hv
  have M : Hid (Mem [Loc.bl w.heap.size w] w) := Lib.hid ⟨⟨Below.refl _ _, Nat.le_refl _⟩, True.intro⟩
  refine calls_cps fun R hR => ?_
  have HR := Lib.hid hR
  clear hR
  go_enter Try.func41, Try.ntmps41
  go_wp2_with (go_at_call 82; refine (indexS_any x l lo hi _ _ (HV.out.after M.out.1.1)).mono ?_; rintro e w1 ⟨rfl, hb1⟩; replace M := Lib.hid (M.out.below hb1); clear hb1; skip)
  exact HR.out _ _ ⟨ret_bool HI.out, M.out.1.1⟩
end Go.Proofs.Ytamhbmaimiifmaa
