/-
  Walks of casebook/queue: the closure of leave. Conditions: none.
-/
import Derived.Test.YthlgkomhnhkooaaQueue1
import Derived.Test.YthlgkomhnhkooaaMem2
namespace Go.Proofs.Ythlgkomhnhkooaa
set_option linter.unusedSimpArgs false
set_option linter.unusedVariables false
open Go.RowKit

theorem do_k (f : FuncId) (hent : Ent f) (E : FE) (a b : Fr) (hf : ∀ W, Calls Try.prog f #[.agg #[.int .i64 (a).n, .int .i64 (a).d], .agg #[.int .i64 (b).n, .int .i64 (b).d]] W fun e W' => e = .returned (.tuple #[.agg #[.int .i64 (E).n, .int .i64 (E).d], .int .i64 (E).e]) ∧ Below W.heap.size W W')
    (cb : Nat) (x : Int) (w : World) (hc : K1 w cb (.int .i64 x)) :
    Calls Try.prog 52 #[.pointer (some ⟨cb, 0, none⟩), .func (.func f) #[] #[], .agg #[.int .i64 (a).n, .int .i64 (a).d], .agg #[.int .i64 (b).n, .int .i64 (b).d]] w fun e w' =>
      e = .returned (.agg #[.int .i64 (doR x E).n, .int .i64 (doR x E).d]) ∧ K1 w' cb (.int .i64 (doX x E)) ∧ Off cb w.heap.size w w' := do_any f hent E a b hf cb x w hc

/-- the cells of a list of fractions -/
def flat : List Fr → List Value
  | [] => []
  | a :: l => .int .i64 a.n :: .int .i64 a.d :: flat l
theorem flat_len : ∀ l : List Fr, (flat l).length = l.length * 2
  | [] => rfl
  | a :: l => by simp [flat, flat_len l]; omega
theorem flat_append : ∀ l m : List Fr, flat (l ++ m) = flat l ++ flat m
  | [], m => rfl
  | a :: l, m => by simp [flat, flat_append l m]
theorem flat_get : ∀ {l : List Fr} {i : Nat} {a : Fr}, l[i]? = some a → (flat l)[i * 2]? = some (.int .i64 a.n) ∧ (flat l)[i * 2 + 1]? = some (.int .i64 a.d)
  | [], i, a, h => by simp at h
  | b :: l, 0, a, h => by simp at h; subst h; simp [flat]
  | b :: l, i + 1, a, h => by
    have := flat_get (l := l) (i := i) (a := a) (by simpa using h)
    rw [show (i + 1) * 2 = i * 2 + 1 + 1 by omega]
    simpa [flat] using this
theorem flat_one : ∀ l : List Fr, ∀ u ∈ flat l, u.oneCell' = true
  | [], u, h => by simp [flat] at h
  | a :: l, u, h => by
    simp [flat] at h
    rcases h with rfl | rfl | h
    · rfl
    · rfl
    · exact flat_one l u h
/-- a slice of fractions -/
def RdF (w : World) (lo hi : Nat) (v : Value) (l : List Fr) : Prop := RdG 23 2 w lo hi v l.length (flat l)
theorem RdF.form {w : World} {lo hi : Nat} {v : Value} {l : List Fr} (h : RdF w lo hi v l) : ∃ A c, v = .slice A l.length c ∧ l.length ≤ c ∧ l.length ≤ 9223372036854775807 := RdG.form h
theorem RdF.at_ {w : World} {lo hi : Nat} {A : Option Addr} {c : Nat} {l : List Fr} (h : RdF w lo hi (.slice A l.length c) l) {i : Nat} {a : Fr} (hi : l[i]? = some a) :
    ∃ b off, A = some ⟨b, off, none⟩ ∧ b < w.heap.size ∧ w.cell? ⟨b, off + i * 2, none⟩ = some (.int .i64 a.n) ∧ w.cell? ⟨b, off + i * 2 + 1, none⟩ = some (.int .i64 a.d) := by
  have hl : i < l.length := (List.getElem?_eq_some_iff.1 hi).1
  obtain ⟨b, off, hA, _, _, hb, hc⟩ := RdG.cells h (by omega)
  have := flat_get hi
  exact ⟨b, off, hA, hb, hc _ _ this.1, by rw [Nat.add_assoc]; exact hc _ _ this.2⟩

set_option maxHeartbeats 1000000 in
theorem at_any (k : Int) (bb lo hi : Nat) (v : Value) (l : List Fr) (w : World) (hB : K1 w bb v) (hv : RdF w lo hi v l) :
    Calls Try.prog 83 #[.int .i64 k, .pointer (some ⟨bb, 0, none⟩)] w fun e w' => e = .returned (.agg #[.int .i64 (at0 l k).n, .int .i64 (at0 l k).d]) ∧ Below w.heap.size w w' := by
  obtain ⟨A, c, rfl, hlc, hm⟩ := hv.form
  have HV := Lib.hid hv
  clear hv
  have lt0 : bb < w.heap.size + 1 := by omega
  refine calls_cps fun R hR => ?_
  have HR := Lib.hid hR
  clear hR
  by_cases h0 : k < 0
  · have HE : Hid (at0 l k = zeroF) := Lib.hid (by unfold at0; rw [if_neg (by omega)])
    go_enter Try.func83, Try.ntmps83
    go_wp2_with (go_at_call 53; refine (whole_any 0 _).mono ?_; rintro e w1 ⟨rfl, hb1⟩; have hK := (B2.new w (.int .i64 0) (.int .i64 0) 23).after hb1 (by simp); have ⟨k1, k2, k3, k4, k5⟩ := hK; have HK := Lib.hid hK; have HB1 := Lib.hid (Below.step ((Below.refl _ w).alloc (Nat.le_refl _) _) hb1 (by simp)); clear hb1 hK)
    refine ret_B2 rfl rfl rfl (HK.out.set _ _) (HR.out _ _ ⟨by rw [HE.out]; rfl, ?_⟩)
    have := HB1.out; (repeat (first | exact Below.refl _ _ | assumption | refine Below.setCell ?_ (by first | omega | (simp; done) | (simp; omega)) _ | refine Below.alloc ?_ (by first | omega | (simp; done) | (simp; omega)) _ | refine Below.drew ?_ | refine below_drewN ?_ _))
  · by_cases h1 : k < (l.length : Int)
    · obtain ⟨i, rfl⟩ := Int.eq_ofNat_of_zero_le (show 0 ≤ k by omega)
      obtain ⟨a, ha⟩ : ∃ a, l[i]? = some a := ⟨_, List.getElem?_eq_getElem (by omega)⟩
      obtain ⟨b, off, rfl, hb, c1, c2⟩ := HV.out.at_ ha
      have HE : Hid (at0 l (i : Int) = a) := Lib.hid (by unfold at0; rw [if_pos (by omega)]; simp [ha])
      have lt1 : b < w.heap.size + 1 := by omega
      clear ha
      go_enter Try.func83, Try.ntmps83
      go_wp2
      refine ret_B2 (x := .int .i64 a.n) (y := .int .i64 a.d) rfl rfl rfl (by simp [B2, go_sem]) (HR.out _ _ ⟨by rw [HE.out], ?_⟩)
      (repeat (first | exact Below.refl _ _ | assumption | refine Below.setCell ?_ (by first | omega | (simp; done) | (simp; omega)) _ | refine Below.alloc ?_ (by first | omega | (simp; done) | (simp; omega)) _ | refine Below.drew ?_ | refine below_drewN ?_ _))
    · have HE : Hid (at0 l k = zeroF) := Lib.hid (by unfold at0; rw [if_pos (by omega), List.getElem?_eq_none (by omega)]; rfl)
      go_enter Try.func83, Try.ntmps83
      go_wp2_with (go_at_call 53; refine (whole_any 0 _).mono ?_; rintro e w1 ⟨rfl, hb1⟩; have hK := (B2.new w (.int .i64 0) (.int .i64 0) 23).after hb1 (by simp); have ⟨k1, k2, k3, k4, k5⟩ := hK; have HK := Lib.hid hK; have HB1 := Lib.hid (Below.step ((Below.refl _ w).alloc (Nat.le_refl _) _) hb1 (by simp)); clear hb1 hK)
      refine ret_B2 rfl rfl rfl (HK.out.set _ _) (HR.out _ _ ⟨by rw [HE.out]; rfl, ?_⟩)
      have := HB1.out; (repeat (first | exact Below.refl _ _ | assumption | refine Below.setCell ?_ (by first | omega | (simp; done) | (simp; omega)) _ | refine Below.alloc ?_ (by first | omega | (simp; done) | (simp; omega)) _ | refine Below.drew ?_ | refine below_drewN ?_ _))

end Go.Proofs.Ythlgkomhnhkooaa
