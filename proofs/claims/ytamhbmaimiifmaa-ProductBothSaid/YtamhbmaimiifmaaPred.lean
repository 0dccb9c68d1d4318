/-
  Walks of product's kind, fine, isWord, casebooklaw42's few, short, and the closures in them. Conditions: none.
-/
import Derived.Test.YtamhbmaimiifmaaFind
import Derived.Test.YtamhbmaimiifmaaName
namespace Go.Proofs.Ytamhbmaimiifmaa
set_option linter.unusedSimpArgs false
set_option linter.unusedVariables false
open Go.RowKit

def kindB (k : Int) : Bool := decide (1 ≤ k) && decide (k ≤ 4)
def fineB (l : List Stp) : Bool := decide (l.length ≤ 4000) && l.all fun m => kindB m.kind
def lenOfV : Value → Nat
  | .slice _ n _ => n
  | _ => 0
def few1B (a : TrV) : Bool := decide (20 < lenOfV a.vi) || decide (20 < lenOfV a.vo) || decide (100 < a.label.size)
def wordB (l : List ByteArray) : Bool := decide (l.length ≤ 200) && l.all nameB

set_option maxHeartbeats 400000 in
theorem kind_any (k : Int) (w : World) : Calls Try.prog 74 #[.int .i64 k] w fun e w' => e = .returned (.bool (kindB k)) ∧ Below w.heap.size w w' := by
  refine calls_cps fun R hR => ?_
  have HR := Lib.hid hR
  clear hR
  go_enter Try.func74, Try.ntmps74
  by_cases h1 : (1 : Int) ≤ k <;> by_cases h2 : k ≤ 4 <;>
    (first | have b5 := decide_eq_false h1 | have b5 := decide_eq_true h1) <;>
    (first | have b6 := decide_eq_false h2 | have b6 := decide_eq_true h2) <;>
    (go_wp2
     refine HR.out _ _ ⟨congrArg Ending.returned (congrArg Value.bool ?_), Below.refl _ _⟩
     unfold kindB
     rw [b5, b6]
     try rfl)

theorem ent_fine1 : Ent 89 := ent_of Try.func89 (by kernel_rfl) rfl
theorem ent_isWord1 : Ent 94 := ent_of Try.func94 (by kernel_rfl) rfl
theorem ent_few1 : Ent 44 := ent_of Try.func44 (by kernel_rfl) rfl
theorem ent_few2 : Ent 46 := ent_of Try.func46 (by kernel_rfl) rfl
theorem ent_short1 : Ent 48 := ent_of Try.func48 (by kernel_rfl) rfl

set_option maxHeartbeats 400000 in
theorem fine1_any (a : Stp) (w : World) : Calls Try.prog 89 #[.agg #[.int .i64 a.kind, .int .i64 a.trans, .string a.act]] w fun e w' => e = .returned (.bool (!kindB a.kind)) ∧ Below w.heap.size w w' := by
  refine calls_cps fun R hR => ?_
  have HR := Lib.hid hR
  clear hR
  go_enter Try.func89, Try.ntmps89
  go_wp2_with fail
  refine (kind_any _ _).mono ?_
  rintro e w1 ⟨rfl, hb1⟩
  have HB1 := Lib.hid hb1
  clear hb1
  go_wp2
  exact HR.out _ _ ⟨rfl, ((Below.refl _ _).alloc (Nat.le_refl _) _).trans (HB1.out.mono (by simp))⟩

set_option maxHeartbeats 400000 in
theorem isWord1_any (a : ByteArray) (w : World) : Calls Try.prog 94 #[.string a] w fun e w' => e = .returned (.bool (!nameB a)) ∧ Below w.heap.size w w' := by
  refine calls_cps fun R hR => ?_
  have HR := Lib.hid hR
  clear hR
  go_enter Try.func94, Try.ntmps94
  go_wp2_with fail
  refine (isName_any _ _).mono ?_
  rintro e w1 ⟨rfl, hb1⟩
  have HB1 := Lib.hid hb1
  clear hb1
  go_wp2
  exact HR.out _ _ ⟨rfl, HB1.out⟩

set_option maxHeartbeats 400000 in
theorem fine_any (l : List Stp) (lo hi : Nat) (v : Value) (w : World) (hv : RdM w lo hi v l) :
    Calls Try.prog 53 #[v] w fun e w' => e = .returned (.bool (fineB l)) ∧ Below w.heap.size w w' := by
  have HC := Lib.hid (containsFM_any 89 ent_fine1 #[] (fun a => !kindB a.kind) l lo hi v w hv (fun a _ W _ => fine1_any a W))
  obtain ⟨A, c, rfl, hc, hm⟩ := hv.form
  clear hv
  refine calls_cps fun R hR => ?_
  have HR := Lib.hid hR
  clear hR
  go_enter Try.func53, Try.ntmps53
  by_cases h1 : l.length ≤ 4000
  · have b5 : decide ((l.length : Int) ≤ 4000) = true := decide_eq_true (by omega)
    go_wp2_with fail
    refine HC.out.mono ?_
    rintro e w1 ⟨rfl, hb1⟩
    have HB1 := Lib.hid hb1
    clear hb1
    go_wp2
    refine HR.out _ _ ⟨congrArg (fun b => Ending.returned (.bool b)) ?_, HB1.out⟩
    simp [fineB, h1, List.all_eq_not_any_not]
  · have b5 : decide ((l.length : Int) ≤ 4000) = false := decide_eq_false (by omega)
    go_wp2
    refine HR.out _ _ ⟨congrArg Ending.returned (congrArg Value.bool ?_), Below.refl _ _⟩
    simp [fineB, h1]

set_option maxHeartbeats 400000 in
theorem isWord_any (l : List ByteArray) (lo hi : Nat) (v : Value) (w : World) (hv : RdS w lo hi v l) :
    Calls Try.prog 69 #[v] w fun e w' => e = .returned (.bool (wordB l)) ∧ Below w.heap.size w w' := by
  have HC := Lib.hid (containsFS_any 94 ent_isWord1 #[] (fun a => !nameB a) l lo hi v w hv (fun a _ W _ => isWord1_any a W))
  obtain ⟨A, c, rfl, hc, hm⟩ := hv.form
  clear hv
  refine calls_cps fun R hR => ?_
  have HR := Lib.hid hR
  clear hR
  go_enter Try.func69, Try.ntmps69
  by_cases h1 : l.length ≤ 200
  · have b5 : decide ((l.length : Int) ≤ 200) = true := decide_eq_true (by omega)
    go_wp2_with fail
    refine HC.out.mono ?_
    rintro e w1 ⟨rfl, hb1⟩
    have HB1 := Lib.hid hb1
    clear hb1
    go_wp2
    refine HR.out _ _ ⟨congrArg (fun b => Ending.returned (.bool b)) ?_, HB1.out⟩
    simp [wordB, h1, List.all_eq_not_any_not]
  · have b5 : decide ((l.length : Int) ≤ 200) = false := decide_eq_false (by omega)
    go_wp2
    refine HR.out _ _ ⟨congrArg Ending.returned (congrArg Value.bool ?_), Below.refl _ _⟩
    simp [wordB, h1]

set_option maxHeartbeats 400000 in
theorem few1_any (a : TrV) (h : ∃ A n c B m d, a.vi = .slice A n c ∧ a.vo = .slice B m d) (w : World) : Calls Try.prog 44 #[.agg #[.string a.label, a.vi, a.vo]] w fun e w' => e = .returned (.bool (few1B a)) ∧ Below w.heap.size w w' := by
  obtain ⟨A, n, c, B, m, d, h1, h2⟩ := h
  obtain ⟨s, vi, vo⟩ := a
  simp only at h1 h2
  subst h1 h2
  simp only [few1B, lenOfV]
  refine calls_cps fun R hR => ?_
  have HR := Lib.hid hR
  clear hR
  go_enter Try.func44, Try.ntmps44
  by_cases h1 : 20 < n <;> by_cases h2 : 20 < m <;> by_cases h3 : 100 < s.size <;>
    (first | have b1 : decide ((20 : Int) < n) = true := decide_eq_true (by omega) | have b1 : decide ((20 : Int) < n) = false := decide_eq_false (by omega)) <;>
    (first | have b2 : decide ((20 : Int) < m) = true := decide_eq_true (by omega) | have b2 : decide ((20 : Int) < m) = false := decide_eq_false (by omega)) <;>
    (first | have b3 : decide ((100 : Int) < s.size) = true := decide_eq_true (by omega) | have b3 : decide ((100 : Int) < s.size) = false := decide_eq_false (by omega)) <;>
    (go_wp2
     refine HR.out _ _ ⟨congrArg Ending.returned (congrArg Value.bool ?_), ((Below.refl _ _).alloc (Nat.le_refl _) _)⟩
     simp [h1, h2, h3])

set_option maxHeartbeats 400000 in
theorem few2_any (a : ByteArray) (w : World) : Calls Try.prog 46 #[.string a] w fun e w' => e = .returned (.bool (decide ((100 : Int) < a.size))) ∧ Below w.heap.size w w' := by
  refine calls_cps fun R hR => ?_
  have HR := Lib.hid hR
  clear hR
  go_enter Try.func46, Try.ntmps46
  go_wp2
  exact HR.out _ _ ⟨rfl, Below.refl _ _⟩

set_option maxHeartbeats 400000 in
theorem short1_any (a : Stp) (w : World) : Calls Try.prog 48 #[.agg #[.int .i64 a.kind, .int .i64 a.trans, .string a.act]] w fun e w' => e = .returned (.bool (decide ((100 : Int) < a.act.size))) ∧ Below w.heap.size w w' := by
  refine calls_cps fun R hR => ?_
  have HR := Lib.hid hR
  clear hR
  go_enter Try.func48, Try.ntmps48
  go_wp2
  exact HR.out _ _ ⟨rfl, ((Below.refl _ _).alloc (Nat.le_refl _) _)⟩

set_option maxHeartbeats 400000 in
theorem short_any (l : List Stp) (lo hi : Nat) (v : Value) (w : World) (hv : RdM w lo hi v l) :
    Calls Try.prog 11 #[v] w fun e w' => ∃ z, e = .returned (.bool z) ∧ Below w.heap.size w w' := by
  have HC := Lib.hid (containsFM_any 48 ent_short1 #[] (fun a => decide ((100 : Int) < a.act.size)) l lo hi v w hv (fun a _ W _ => short1_any a W))
  obtain ⟨A, c, rfl, hc, hm⟩ := hv.form
  clear hv
  refine calls_cps fun R hR => ?_
  have HR := Lib.hid hR
  clear hR
  go_enter Try.func11, Try.ntmps11
  by_cases h1 : (l.length : Int) ≤ 60
  · have b1 := decide_eq_true h1
    go_wp2_with fail
    refine HC.out.mono ?_
    rintro e w1 ⟨rfl, hb1⟩
    have HB1 := Lib.hid hb1
    clear hb1
    go_wp2
    exact HR.out _ _ ⟨_, rfl, HB1.out⟩
  · have b1 := decide_eq_false h1
    by_cases h2 : (4000 : Int) < l.length
    · have b2 := decide_eq_true h2
      by_cases h3 : (l.length : Int) < 4005
      · have b3 := decide_eq_true h3
        go_wp2_with fail
        refine HC.out.mono ?_
        rintro e w1 ⟨rfl, hb1⟩
        have HB1 := Lib.hid hb1
        clear hb1
        go_wp2
        exact HR.out _ _ ⟨_, rfl, HB1.out⟩
      · have b3 := decide_eq_false h3
        go_wp2
        exact HR.out _ _ ⟨_, rfl, Below.refl _ _⟩
    · have b2 := decide_eq_false h2
      go_wp2
      exact HR.out _ _ ⟨_, rfl, Below.refl _ _⟩
end Go.Proofs.Ytamhbmaimiifmaa
