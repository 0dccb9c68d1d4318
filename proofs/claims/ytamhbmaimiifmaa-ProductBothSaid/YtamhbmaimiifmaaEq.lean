/-
  Walks of casebookref22's one, Initial, Final, SameMarking, of slices.Equal at ints and strings, of casebookref42's state. Conditions: none.
-/
import Derived.Test.YtamhbmaimiifmaaFire3
namespace Go.Proofs.Ytamhbmaimiifmaa
set_option linter.unusedSimpArgs false
set_option linter.unusedVariables false
open Go.RowKit

/-- a list, returned: it lies in new memory -/
def RetL (w : World) (l : List Int) (e : Ending) (w' : World) : Prop :=
  ∃ A c, e = .returned (.slice A l.length c) ∧ RdI w' w.heap.size w'.heap.size (.slice A l.length c) l ∧ Below w.heap.size w w'
theorem RetL.mk {w w' : World} {l : List Int} {n k : Nat} {A : Option Addr} (hn : n = l.length) {lo hi : Nat} (hr : RdI w' lo hi (.slice A n k) l) (hlo : w.heap.size ≤ lo) (hhi : hi ≤ w'.heap.size) (hb : Below w.heap.size w w') : RetL w l (.returned (.slice A n k)) w' := by
  subst hn
  exact ⟨A, k, rfl, hr.mono hlo hhi, hb⟩

def oneR (p : Int) (k : Nat) : List Int := (List.range k).map fun (i : Nat) => if (i : Int) = p then 1 else 0
theorem oneR_succ (p : Int) (k : Nat) : oneR p (k + 1) = oneR p k ++ [if (k : Int) = p then 1 else 0] := by simp [oneR, List.range_succ]
theorem oneR_len (p : Int) (k : Nat) : (oneR p k).length = k := by simp [oneR]
theorem oneR_eq {p : Int} {k : Nat} (h0 : 0 ≤ p) : oneR p k = oneL k p := by
  obtain ⟨q, rfl⟩ := Int.eq_ofNat_of_zero_le h0
  unfold oneR oneL
  apply List.ext_getElem?
  intro i
  rw [List.getElem?_set, Int.toNat_natCast]
  by_cases hi : i < k
  · by_cases hq : q = i
    · subst hq; simp [hi]
    · have : ¬ (i : Int) = q := by omega
      simp [hi, hq, this]
  · by_cases hq : q = i
    · subst hq; simp [hi]
    · simp [hi, hq]

set_option maxHeartbeats 1000000 in
theorem r1_any (n : Net) (p : Int) (np : Nat) (vt : Value) (w : World) (hnp : n.places = np) (h40 : np ≤ 40) (hp : 0 ≤ p) :
    Calls Try.prog 95 #[netV n vt, .int .i64 p] w (RetL w (oneL np p)) := by
  have HNP := Lib.hid hnp
  have HE := Lib.hid (oneR_eq (k := np) hp)
  clear hnp
  refine calls_cps fun R hR => ?_
  have HR := Lib.hid hR
  clear hR
  go_enter Try.func95, Try.ntmps95
  have M : Hid (Mem [Loc.k4 w.heap.size (.int .i64 n.places) (vt) (.int .i64 n.source) (.int .i64 n.sink), Loc.bl w.heap.size w] (w.alloc (.cells #[.int .i64 n.places, vt, .int .i64 n.source, .int .i64 n.sink] 24))) := Lib.hid ⟨K4.new w _ _ _ _ _, ⟨(Below.refl _ _).alloc (Nat.le_refl _) _, by simp⟩, True.intro⟩
  go_wp2_with fail
  go_loopw [6, 5, 7] (fun v6 v5 _ wr => ∃ (k : Nat) (B : Option Addr) (d hh : Nat), k ≤ np ∧ v6 = .int .i64 k ∧ v5 = .slice B k d ∧ hh ≤ wr.heap.size ∧ Hid (Mem [Loc.owI (w.heap.size + 1) hh (.slice B k d) (oneR p k), Loc.k4 w.heap.size (.int .i64 n.places) (vt) (.int .i64 n.source) (.int .i64 n.sink), Loc.bl w.heap.size w] wr)) (fun v6 _ _ _ => np - (intOf v6).toNat)
  case atStart => exact ⟨0, none, 0, 0, by omega, rfl, rfl, by omega, Lib.hid ⟨Own.nil _ _ _, M.out.1, M.out.2.1, True.intro⟩⟩
  case round =>
    clear M
    obtain ⟨k, B, d, hh, hk, rfl, rfl, hhs, M⟩ := hrel
    have hk4 := M.out.2.1
    have hz := M.out.2.1.2.2.2.2
    by_cases hlt : k < np
    · have hi : (k : Int) < n.places := by have := HNP.out; omega
      have hol := oneR_len p k
      have HOL := Lib.hid hol
      clear hol
      have hsn : ∀ x : Int, x = (if (k : Int) = p then 1 else 0) → Hid (oneR p k ++ [x] = oneR p (k + 1)) := fun x hx => Lib.hid (by rw [oneR_succ, hx])
      have HSN := Lib.hid hsn
      clear hsn
      go_wp2_with (at_builtin; refine wpList_app rfl _ _ rfl ti_int (fun _ => rfl) oneI rfl rfl (M.out.alloc _) (by (repeat' (first | exact True.intro | refine And.intro (fun k hk e => ?_) ?_)) <;> (first | exact e | ((try dsimp only [Loc.c1, Loc.c2, Loc.k1, Loc.k2, Loc.k3, Loc.k4, Loc.k6, Loc.fr, Loc.bl, Loc.own, Loc.sz, Loc.rd, Loc.rdI, Loc.rdS, Loc.rdM, Loc.rdT, Loc.ow, Loc.owI] at hk e) <;> omega))) (RdI.lit1 _ _ _) (by have := HOL.out; simp; omega) (by have := HOL.out; simp; omega) (by simp; omega) ?_; intro A1 c1 w1 hM1 hs1 hch1; rw [HOL.out] at hM1; replace M := Lib.hid hM1; clear hM1 hch1; (try simp only [World.size_alloc] at hs1))
      all_goals (refine ⟨⟨k + 1, A1, c1, _, by omega, by go_num, by simp [HOL.out], Nat.le_refl _, Lib.hid ?_⟩, by simp [intOf]; omega⟩)
      all_goals
        have hM := M.out
        rw [(HSN.out _ (by go_light; grind)).out] at hM
        simpa using hM
    · obtain rfl : k = np := by omega
      have hi : ¬ (k : Int) < n.places := by have := HNP.out; omega
      go_wp2_with fail
      exact HR.out _ _ (RetL.mk (by rw [← HE.out, oneR_len]) (HE.out ▸ M.out.1.rd) (by omega) hhs M.out.2.2.1.1)

set_option maxHeartbeats 400000 in
theorem rInitial_any (n : Net) (np : Nat) (vt : Value) (w : World) (hnp : n.places = np) (h40 : np ≤ 40) (hp : 0 ≤ n.source) :
    Calls Try.prog 71 #[netV n vt] w (RetL w (oneL np n.source)) := by
  have HC := Lib.hid (fun W => r1_any n n.source np vt W hnp h40 hp)
  clear hnp hp
  refine calls_cps fun R hR => ?_
  have HR := Lib.hid hR
  clear hR
  go_enter Try.func71, Try.ntmps71
  have M : Hid (Mem [Loc.k4 w.heap.size (.int .i64 n.places) (vt) (.int .i64 n.source) (.int .i64 n.sink), Loc.bl w.heap.size w] (w.alloc (.cells #[.int .i64 n.places, vt, .int .i64 n.source, .int .i64 n.sink] 24))) := Lib.hid ⟨K4.new w _ _ _ _ _, ⟨(Below.refl _ _).alloc (Nat.le_refl _) _, by simp⟩, True.intro⟩
  go_wp2_with (go_at_call 95; refine (HC.out _).mono ?_; rintro e w1 ⟨A1, c1, rfl, hr1, hb1⟩; have HR1 := Lib.hid hr1; replace M := Lib.hid (M.out.below hb1); clear hb1 hr1)
  exact HR.out _ _ ⟨_, _, rfl, (HR1.out.mono (by simp) (Nat.le_refl _)), M.out.2.1.1⟩
set_option maxHeartbeats 400000 in
theorem rFinal_any (n : Net) (np : Nat) (vt : Value) (w : World) (hnp : n.places = np) (h40 : np ≤ 40) (hp : 0 ≤ n.sink) :
    Calls Try.prog 72 #[netV n vt] w (RetL w (oneL np n.sink)) := by
  have HC := Lib.hid (fun W => r1_any n n.sink np vt W hnp h40 hp)
  clear hnp hp
  refine calls_cps fun R hR => ?_
  have HR := Lib.hid hR
  clear hR
  go_enter Try.func72, Try.ntmps72
  have M : Hid (Mem [Loc.k4 w.heap.size (.int .i64 n.places) (vt) (.int .i64 n.source) (.int .i64 n.sink), Loc.bl w.heap.size w] (w.alloc (.cells #[.int .i64 n.places, vt, .int .i64 n.source, .int .i64 n.sink] 24))) := Lib.hid ⟨K4.new w _ _ _ _ _, ⟨(Below.refl _ _).alloc (Nat.le_refl _) _, by simp⟩, True.intro⟩
  go_wp2_with (go_at_call 95; refine (HC.out _).mono ?_; rintro e w1 ⟨A1, c1, rfl, hr1, hb1⟩; have HR1 := Lib.hid hr1; replace M := Lib.hid (M.out.below hb1); clear hb1 hr1)
  exact HR.out _ _ ⟨_, _, rfl, (HR1.out.mono (by simp) (Nat.le_refl _)), M.out.2.1.1⟩

/-- two lists of one length, equal or not, element by element -/
def eqLs {α : Type} [DecidableEq α] : List α → List α → Bool
  | [], [] => true
  | x :: a, y :: b => if x = y then eqLs a b else false
  | _, _ => false
theorem eqLs_iff {α : Type} [DecidableEq α] : ∀ a b : List α, eqLs a b = decide (a = b)
  | [], [] => rfl
  | [], _ :: _ => by simp [eqLs]
  | _ :: _, [] => by simp [eqLs]
  | x :: a, y :: b => by
    rw [eqLs, eqLs_iff a b]
    by_cases h : x = y <;> simp [h]
theorem eqLs_len {α : Type} [DecidableEq α] {a b : List α} (h : a.length ≠ b.length) : decide (a = b) = false := by
  simp
  intro e
  exact h (by rw [e])

set_option maxHeartbeats 1000000 in
theorem sameMarking_any (a b : List Int) (lo hi lo2 hi2 : Nat) (v1 v2 : Value) (w : World) (h1 : RdI w lo hi v1 a) (h2 : RdI w lo2 hi2 v2 b) :
    Calls Try.prog 52 #[v1, v2] w fun e w' => e = .returned (.bool (decide (a = b))) ∧ Below w.heap.size w w' := by
  obtain ⟨A1, c1, rfl, hc1, hm1⟩ := h1.form
  obtain ⟨A2, c2, rfl, hc2, hm2⟩ := h2.form
  have H1 := Lib.hid h1
  have H2 := Lib.hid h2
  clear h1 h2
  refine calls_cps fun R hR => ?_
  have HR := Lib.hid hR
  clear hR
  go_enter Try.func52, Try.ntmps52
  by_cases hl : a.length = b.length
  · have hl' : (a.length : Int) = b.length := by omega
    have HL := Lib.hid hl
    clear hl
    go_wp2_with fail
    go_loopw [5] (fun v5 wr => ∃ (k q : Nat), k ≤ a.length ∧ v5 = .int .i64 k ∧ wr = w.drewN q ∧ Hid (decide (a = b) = eqLs (a.drop k) (b.drop k))) (fun v5 _ => a.length - (intOf v5).toNat)
    case atStart => exact ⟨0, 0, by omega, rfl, rfl, Lib.hid (by rw [← eqLs_iff]; rfl)⟩
    case round =>
      obtain ⟨k, q, hk, rfl, rfl, HI⟩ := hrel
      by_cases hlt : k < a.length
      · have hkd : decide ((k : Int) < (a.length : Int)) = true := by simp; omega
        have hkb : (k : Int) < (a.length : Int) := by omega
        have hkc : (k : Int) < (b.length : Int) := by omega
        obtain ⟨b1, o1, rfl, _, _, f1⟩ := RdI.at1 H1.out hlt
        obtain ⟨b2, o2, rfl, _, _, f2⟩ := RdI.at1 H2.out (k := k) (by have := HL.out; omega)
        have HJ : Hid (decide (a = b) = if gti a k = gti b k then eqLs (a.drop (k + 1)) (b.drop (k + 1)) else false) := Lib.hid (by rw [HI.out, drop_gti hlt, drop_gti (l := b) (k := k) (by have := HL.out; omega), eqLs])
        generalize gti a k = x at *
        generalize gti b k = y at *
        go_wp2
        go_quiet (fail)
        go_wp2
        all_goals have hj := HJ.out
        · refine HR.out _ _ ⟨ret_bool ?_, below_drewN (below_drewN (Below.refl _ _) _) _⟩
          clear HJ HI; go_light; grind
        all_goals first
          | (refine ⟨⟨k + 1, q + nq, by omega, by go_num, by first | rfl | rw [World.drewN_drewN], Lib.hid (by clear HJ HI; go_light; grind)⟩, by simp [intOf]; omega⟩)
      · have hkd : decide ((k : Int) < (a.length : Int)) = false := by simp; omega
        have HE : Hid (decide (a = b) = true) := Lib.hid (by rw [HI.out, List.drop_eq_nil_of_le (by omega), List.drop_eq_nil_of_le (by have := HL.out; omega)]; rfl)
        clear HI
        go_wp2
        exact HR.out _ _ ⟨ret_bool HE.out.symm, below_drewN (Below.refl _ _) _⟩
  · have hl' : ¬ (a.length : Int) = b.length := by omega
    have HL := Lib.hid hl
    clear hl
    go_wp2_with fail
    exact HR.out _ _ ⟨ret_bool (eqLs_len HL.out).symm, Below.refl _ _⟩

set_option maxHeartbeats 1000000 in
theorem equalI_any (a b : List Int) (lo hi lo2 hi2 : Nat) (v1 v2 : Value) (w : World) (h1 : RdI w lo hi v1 a) (h2 : RdI w lo2 hi2 v2 b) :
    Calls Try.prog 23 #[v1, v2] w fun e w' => e = .returned (.bool (decide (a = b))) ∧ Below w.heap.size w w' := by
  obtain ⟨A1, c1, rfl, hc1, hm1⟩ := h1.form
  obtain ⟨A2, c2, rfl, hc2, hm2⟩ := h2.form
  have H1 := Lib.hid h1
  have H2 := Lib.hid h2
  clear h1 h2
  refine calls_cps fun R hR => ?_
  have HR := Lib.hid hR
  clear hR
  go_enter Try.func23, Try.ntmps23
  by_cases hl : a.length = b.length
  · have hl' : (a.length : Int) = b.length := by omega
    have HL := Lib.hid hl
    clear hl
    go_wp2_with fail
    go_loopw [13, 5] (fun v13 _ wr => ∃ (k q : Nat), k ≤ a.length ∧ v13 = .int .i64 k ∧ wr = w.drewN q ∧ Hid (decide (a = b) = eqLs (a.drop k) (b.drop k))) (fun v13 _ _ => a.length - (intOf v13).toNat)
    case atStart => exact ⟨0, 0, by omega, rfl, rfl, Lib.hid (by rw [← eqLs_iff]; rfl)⟩
    case round =>
      obtain ⟨k, q, hk, rfl, rfl, HI⟩ := hrel
      by_cases hlt : k < a.length
      · have hkd : decide ((k : Int) < (a.length : Int)) = true := by simp; omega
        have hkb : (k : Int) < (a.length : Int) := by omega
        have hkc : (k : Int) < (b.length : Int) := by omega
        obtain ⟨b1, o1, rfl, _, _, f1⟩ := RdI.at1 H1.out hlt
        obtain ⟨b2, o2, rfl, _, _, f2⟩ := RdI.at1 H2.out (k := k) (by have := HL.out; omega)
        have HJ : Hid (decide (a = b) = if gti a k = gti b k then eqLs (a.drop (k + 1)) (b.drop (k + 1)) else false) := Lib.hid (by rw [HI.out, drop_gti hlt, drop_gti (l := b) (k := k) (by have := HL.out; omega), eqLs])
        generalize gti a k = x at *
        generalize gti b k = y at *
        go_wp2
        go_quiet (fail)
        go_wp2
        all_goals have hj := HJ.out
        · refine HR.out _ _ ⟨ret_bool ?_, below_drewN (below_drewN (Below.refl _ _) _) _⟩
          clear HJ HI; go_light; grind
        all_goals first
          | (refine ⟨⟨k + 1, q + nq, by omega, by go_num, by first | rfl | rw [World.drewN_drewN], Lib.hid (by clear HJ HI; go_light; grind)⟩, by simp [intOf]; omega⟩)
      · have hkd : decide ((k : Int) < (a.length : Int)) = false := by simp; omega
        have HE : Hid (decide (a = b) = true) := Lib.hid (by rw [HI.out, List.drop_eq_nil_of_le (by omega), List.drop_eq_nil_of_le (by have := HL.out; omega)]; rfl)
        clear HI
        go_wp2
        exact HR.out _ _ ⟨ret_bool HE.out.symm, below_drewN (Below.refl _ _) _⟩
  · have hl' : ¬ (a.length : Int) = b.length := by omega
    have HL := Lib.hid hl
    clear hl
    go_wp2_with fail
    exact HR.out _ _ ⟨ret_bool (eqLs_len HL.out).symm, Below.refl _ _⟩

set_option maxHeartbeats 400000 in
theorem rstate_any (p : Int) (m : List Int) (lo hi : Nat) (v : Value) (w : World) (hv : RdI w lo hi v m) (hl : m.length ≤ 1000000) :
    Calls Try.prog 70 #[.int .i64 p, v] w (RetL w (p :: m)) := by
  obtain ⟨A1, c1, rfl, hc1, hm1⟩ := hv.form
  have HV := Lib.hid hv
  have HL := Lib.hid hl
  clear hv hl
  have M : Hid (Mem [Loc.bl w.heap.size w] w) := Lib.hid ⟨⟨Below.refl _ _, Nat.le_refl _⟩, True.intro⟩
  refine calls_cps fun R hR => ?_
  have HR := Lib.hid hR
  clear hR
  go_enter Try.func70, Try.ntmps70
  go_wp2_with (at_builtin; refine wpList_app rfl _ _ rfl ti_int (fun _ => rfl) oneI rfl rfl (Mem.lit1 M.out p) (by (repeat' (first | exact True.intro | refine And.intro (fun k hk e => ?_) ?_)) <;> (first | exact e | ((try dsimp only [Loc.c1, Loc.c2, Loc.k1, Loc.k2, Loc.k3, Loc.k4, Loc.k6, Loc.fr, Loc.bl, Loc.own, Loc.sz, Loc.rd, Loc.rdI, Loc.rdS, Loc.rdM, Loc.rdT, Loc.ow, Loc.owI] at hk e) <;> omega))) (HV.out.after (M.out.1.1.alloc M.out.1.2 _)) (by have := HL.out; simp; omega) (by have := HL.out; simp; omega) (by simp) ?_; intro A1 c1 w1 hM1 hs1 hch1; replace M := Lib.hid hM1; clear hM1 hch1)
  exact HR.out _ _ (RetL.mk (by simp; omega) M.out.1.rd (Nat.le_refl _) (Nat.le_refl _) M.out.2.1.1)
end Go.Proofs.Ytamhbmaimiifmaa
