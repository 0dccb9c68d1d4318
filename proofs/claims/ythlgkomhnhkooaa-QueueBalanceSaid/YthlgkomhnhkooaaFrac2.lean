/-
  Walks of casebook/frac: Valid and the helpers over lists. Conditions: none.
-/
import Derived.Test.YthlgkomhnhkooaaFrac1
namespace Go.Proofs.Ythlgkomhnhkooaa
set_option linter.unusedSimpArgs false
set_option linter.unusedVariables false
open Go.RowKit

theorem okB_gcd (an ad : Int) (h1 : -1073741824 ≤ an) (h2 : an ≤ 1073741824) (h3 : 1 ≤ ad) (h4 : ad ≤ 1073741824) : ((Int.gcd an ad : Int) == 1) = (Fr.mk an ad).okB := by
  rw [Bool.eq_iff_iff, beq_iff_eq, Fr.okB_iff]
  unfold Fr.ok
  simp only
  omega
theorem okB_out (an ad : Int) (h : ¬ (-1073741824 ≤ an ∧ an ≤ 1073741824 ∧ 1 ≤ ad ∧ ad ≤ 1073741824)) : false = (Fr.mk an ad).okB := by
  rw [Fr.okB_not]
  unfold Fr.ok
  simp only
  omega

set_option maxHeartbeats 1000000 in
theorem fracValid_any (a : Fr) (w : World) :
    Calls Try.prog 36 #[.agg #[.int .i64 a.n, .int .i64 a.d]] w fun e w' => e = .returned (.bool a.okB) ∧ Below w.heap.size w w' := by
  obtain ⟨an, ad⟩ := a
  refine calls_cps fun R hR => ?_
  have HR := Lib.hid hR
  clear hR
  go_enter Try.func36, Try.ntmps36
  go_wp2_with (go_at_call 65; refine (gcd_any _ _ _ (by omega) (by omega) (by omega) (by omega)).mono ?_; rintro e w' ⟨rfl, n, rfl⟩)
  all_goals refine HR.out _ _ ⟨congrArg _ (congrArg _ ?_), ?_⟩
  all_goals first | (exact okB_gcd _ _ (by omega) (by omega) (by omega) (by omega)) | (exact okB_out _ _ (by omega)) | (repeat (first | exact Below.refl _ _ | assumption | refine Below.setCell ?_ (by first | omega | (simp; done) | (simp; omega)) _ | refine Below.alloc ?_ (by first | omega | (simp; done) | (simp; omega)) _ | refine Below.drew ?_ | refine below_drewN ?_ _))

/-- a slice that reads as a list of fractions, below block B -/
def RdB (w : World) (B : Nat) (v : Value) (l : List Fr) : Prop :=
  ∃ A c, v = .slice A l.length c ∧ l.length ≤ maxLen ∧ l.length ≤ c ∧ (0 < l.length → ∃ b off, A = some ⟨b, off, none⟩ ∧ b < B ∧
    ∀ i a, l[i]? = some a → w.cell? ⟨b, off + i * 2, none⟩ = some (.int .i64 a.n) ∧ w.cell? ⟨b, off + i * 2 + 1, none⟩ = some (.int .i64 a.d))

theorem snoc_no {α : Type} {p : α → Bool} {l : List α} {k : Nat} {a : α} (h : ∀ j a, j < k → l[j]? = some a → p a = false) (ha : l[k]? = some a) (hp : p a = false) : ∀ j a, j < k + 1 → l[j]? = some a → p a = false := by
  intro j b hj hb
  rcases Nat.lt_or_eq_of_le (Nat.le_of_lt_succ hj) with h1 | rfl
  · exact h j b h1 hb
  · rw [ha] at hb; injection hb with hb; rw [← hb]; exact hp

set_option maxHeartbeats 1000000 in
theorem indexFuncF_any (f : FuncId) (hent : Ent f) (cap : Array Value) (p : Fr → Bool) (l : List Fr) (v : Value) (w : World) (hv : RdB w w.heap.size v l)
    (hf : ∀ a ∈ l, ∀ W, Below w.heap.size w W → Calls Try.prog f (#[.agg #[.int .i64 a.n, .int .i64 a.d]] ++ cap) W fun e W' => e = .returned (.bool (p a)) ∧ Below W.heap.size W W') :
    Calls Try.prog 64 #[v, .func (.func f) #[] cap] w fun e w' => e = .returned (.int .i64 (firstAt p l)) ∧ Below w.heap.size w w' := by
  obtain ⟨A, c, rfl, hm, hc, hA⟩ := hv
  unfold maxLen at hm
  unfold Ent at hent
  have HF := Lib.hid hf
  clear hf
  have HA := Lib.hid hA
  clear hA
  refine calls_cps fun R hR => ?_
  have HR := Lib.hid hR
  clear hR
  go_enter Try.func64, Try.ntmps64
  go_wp2
  go_loopw [8] (fun i wr => ∃ k : Nat, k ≤ l.length ∧ i = .int .i64 k ∧ (∀ j a, j < k → l[j]? = some a → p a = false) ∧ Below w.heap.size w wr) (fun i _ => l.length - (intOf i).toNat)
  case atStart => exact ⟨0, Nat.zero_le _, rfl, fun j a h => absurd h (by omega), Below.refl _ _⟩
  case round =>
    obtain ⟨k, hk, rfl, hno, hb⟩ := hrel
    have HNO := Lib.hid hno
    have HB := Lib.hid hb
    clear hno hb
    by_cases hlt : k < l.length
    · obtain ⟨b, off, rfl, hbB, hcell⟩ := HA.out (by omega)
      obtain ⟨a, ha⟩ : ∃ a, l[k]? = some a := ⟨_, List.getElem?_eq_getElem hlt⟩
      have hc1 : wr.cell? ⟨b, off + k * 2, none⟩ = some (.int .i64 a.n) := (HB.out.cell hbB).trans (hcell k a ha).1
      have hc2 : wr.cell? ⟨b, off + k * 2 + 1, none⟩ = some (.int .i64 a.d) := (HB.out.cell hbB).trans (hcell k a ha).2
      have HA2 := Lib.hid ha
      clear ha hcell
      go_wp2_with fail
      refine (HF.out a (List.mem_of_getElem? HA2.out) _ HB.out).mono ?_
      rintro e w1 ⟨rfl, hb1⟩
      have HB1 := Lib.hid hb1
      clear hb1
      cases hp : p a with
      | true =>
        have HP := Lib.hid hp
        clear hp
        go_wp2
        exact HR.out _ _ ⟨ret_int (firstAt_some HA2.out HP.out HNO.out).symm, HB.out.trans (HB1.out.mono HB.out.size)⟩
      | false =>
        have HP := Lib.hid hp
        clear hp
        go_wp2
        go_roundw
        case rel => exact ⟨k + 1, by omega, by go_num, snoc_no HNO.out HA2.out HP.out, HB.out.trans (HB1.out.mono HB.out.size)⟩
        case measure => simp [intOf]; omega
    · go_wp2
      have hkl : k = l.length := by omega
      exact HR.out _ _ ⟨ret_int (firstAt_none (by rw [← hkl]; exact HNO.out)).symm, HB.out⟩

set_option maxHeartbeats 400000 in
theorem containsFuncF_any (f : FuncId) (hent : Ent f) (cap : Array Value) (p : Fr → Bool) (l : List Fr) (v : Value) (w : World) (hv : RdB w w.heap.size v l)
    (hf : ∀ a ∈ l, ∀ W, Below w.heap.size w W → Calls Try.prog f (#[.agg #[.int .i64 a.n, .int .i64 a.d]] ++ cap) W fun e W' => e = .returned (.bool (p a)) ∧ Below W.heap.size W W') :
    Calls Try.prog 34 #[v, .func (.func f) #[] cap] w fun e w' => e = .returned (.bool (l.any p)) ∧ Below w.heap.size w w' := by
  have HC := Lib.hid (indexFuncF_any f hent cap p l v w hv hf)
  clear hf hent hv
  refine calls_cps fun R hR => ?_
  have HR := Lib.hid hR
  clear hR
  go_enter Try.func34, Try.ntmps34
  go_wp2_with fail
  refine HC.out.mono ?_
  rintro e w1 ⟨rfl, hb1⟩
  have HB1 := Lib.hid hb1
  clear hb1
  go_wp2
  exact HR.out _ _ ⟨congrArg (fun b => Ending.returned (.bool b)) (firstAt_any p l), HB1.out⟩

theorem ent_valid1 : Ent 75 := ent_of Try.func75 (by kernel_rfl) rfl

set_option maxHeartbeats 400000 in
theorem valid1_any (a : Fr) (w : World) :
    Calls Try.prog 75 #[.agg #[.int .i64 a.n, .int .i64 a.d]] w fun e w' => e = .returned (.bool (!a.okB)) ∧ Below w.heap.size w w' := by
  refine calls_cps fun R hR => ?_
  have HR := Lib.hid hR
  clear hR
  go_enter Try.func75, Try.ntmps75
  go_wp2_with fail
  refine (fracValid_any a _).mono ?_
  rintro e w1 ⟨rfl, hb1⟩
  have HB1 := Lib.hid hb1
  clear hb1
  go_wp2
  exact HR.out _ _ ⟨rfl, ((Below.refl _ _).alloc (Nat.le_refl _) _).trans (HB1.out.mono (by simp))⟩

set_option maxHeartbeats 400000 in
theorem valid_any (l : List Fr) (v : Value) (w : World) (hv : RdB w w.heap.size v l) :
    Calls Try.prog 56 #[v] w fun e w' => e = .returned (.bool (l.all Fr.okB)) ∧ Below w.heap.size w w' := by
  have HC := Lib.hid (containsFuncF_any 75 ent_valid1 #[] (fun a => !a.okB) l v w hv (fun a _ W _ => valid1_any a W))
  clear hv
  refine calls_cps fun R hR => ?_
  have HR := Lib.hid hR
  clear hR
  go_enter Try.func56, Try.ntmps56
  go_wp2_with fail
  refine HC.out.mono ?_
  rintro e w1 ⟨rfl, hb1⟩
  have HB1 := Lib.hid hb1
  clear hb1
  go_wp2
  refine HR.out _ _ ⟨congrArg (fun b => Ending.returned (.bool b)) ?_, HB1.out⟩
  simp [List.all_eq_not_any_not]

end Go.Proofs.Ythlgkomhnhkooaa
