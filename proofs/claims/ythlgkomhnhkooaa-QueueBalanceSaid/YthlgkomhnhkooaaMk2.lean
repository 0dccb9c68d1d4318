/-
  Walks of casebook/markov: one, distribution, Valid, column, IsStationary, for chains and distributions that are right. Conditions: as each theorem says.
-/
import Derived.Test.YthlgkomhnhkooaaMk1
namespace Go.Proofs.Ythlgkomhnhkooaa
set_option linter.unusedSimpArgs false
set_option linter.unusedVariables false
open Go.RowKit

/-- a distribution whose sum fits -/
def DistOk (l : List Fr) (n : Nat) : Prop := l.length = n ∧ n ≤ 1000 ∧ (∀ a ∈ l, nn a) ∧ downS l l.length = some oneF
theorem nn_all {l : List Fr} (h : ∀ a ∈ l, nn a) : l.all Fr.okB = true := List.all_eq_true.2 fun a ha => Fr.okB_of (h a ha).1
theorem DistOk.sum {l : List Fr} {n : Nat} (h : DistOk l n) : sumE l = ⟨1, 1, 0⟩ := by
  unfold sumE
  rw [nn_all h.2.2.1, if_pos rfl, if_pos (by rw [h.1]; exact h.2.1), h.2.2.2]
  rfl

set_option maxHeartbeats 400000 in
theorem mone_any (w : World) :
    Calls Try.prog 81 #[] w fun e w' => e = .returned (.agg #[.int .i64 1, .int .i64 1]) ∧ Below w.heap.size w w' := by
  refine calls_cps fun R hR => ?_
  have HR := Lib.hid hR
  clear hR
  go_enter Try.func81, Try.ntmps81
  go_wp2
  refine bodyPost_ret (v := .agg #[.int .i64 1, .int .i64 1]) (by simp [results, Try.results81, go_sem]) rfl (HR.out _ _ ⟨rfl, ?_⟩)
  (repeat (first | exact Below.refl _ _ | assumption | refine Below.setCell ?_ (by first | omega | (simp; done) | (simp; omega)) _ | refine Below.alloc ?_ (by first | omega | (simp; done) | (simp; omega)) _ | refine Below.drew ?_ | refine below_drewN ?_ _))

set_option maxHeartbeats 1000000 in
theorem dist1_any (a : Fr) (w : World) :
    Calls Try.prog 80 #[.agg #[.int .i64 (a).n, .int .i64 (a).d]] w fun e w' => e = .returned (.bool (!a.okB || decide (a.n < 0))) ∧ Below w.heap.size w w' := by
  refine calls_cps fun R hR => ?_
  have HR := Lib.hid hR
  clear hR
  go_enter Try.func80, Try.ntmps80
  go_wp2_with fail
  have k0 := K2.new w (.int .i64 a.n) (.int .i64 a.d) 23
  refine (fracValid_any a _).mono ?_
  rintro e w1 ⟨rfl, hb1⟩
  replace k0 := K2.aft hb1 k0
  have HB : Hid (Below w.heap.size w w1) := Lib.hid (by refine Below.step ?_ hb1 (by first | omega | (simp; done) | (simp; omega)); (repeat (first | exact Below.refl _ _ | assumption | refine Below.setCell ?_ (by first | omega | (simp; done) | (simp; omega)) _ | refine Below.alloc ?_ (by first | omega | (simp; done) | (simp; omega)) _ | refine Below.drew ?_ | refine below_drewN ?_ _)))
  clear hb1
  cases hv : a.okB <;> by_cases h1 : a.n < 0
  all_goals
    go_wp2_with fail
    refine HR.out _ _ ⟨by first | (simp [hv, h1]; done) | (simp [hv, h1]; omega), HB.out⟩
theorem ent_dist1 : Ent 80 := ent_of Try.func80 (by kernel_rfl) rfl
theorem nn_none {l : List Fr} (h : ∀ a ∈ l, nn a) : (l.any fun a => !a.okB || decide (a.n < 0)) = false := by
  rw [List.any_eq_false]
  intro a ha
  have := h a ha
  simp [Fr.okB_of this.1]
  exact this.2

set_option maxHeartbeats 2000000 in
theorem distribution_ok (l : List Fr) (n : Nat) (lo hi : Nat) (v : Value) (w : World) (hv : RdF w lo hi v l) (hh : hi ≤ w.heap.size) (hd : DistOk l n) :
    Calls Try.prog 67 #[v, .int .i64 n] w fun e w' => e = .returned (.bool true) ∧ Below w.heap.size w w' := by
  obtain ⟨A, c, rfl, hlc, hm⟩ := hv.form
  obtain rfl : l.length = n := hd.1
  have HD := Lib.hid hd
  have M0 : Mem [Loc.rdF lo hi (.slice A l.length c) l, Loc.bl w.heap.size w] w := ⟨hv, ⟨Below.refl _ _, Nat.le_refl _⟩, True.intro⟩
  clear hv hd
  refine calls_cps fun R hR => ?_
  have HR := Lib.hid hR
  clear hR
  go_enter Try.func67, Try.ntmps67
  go_wp2_with fail
  refine (containsFuncF_any 80 ent_dist1 #[] (fun a => !a.okB || decide (a.n < 0)) l _ _ (RdF.toB M0.1) (fun a _ W _ => dist1_any a W)).mono ?_
  rintro e w1 ⟨rfl, hb1⟩
  rw [nn_none HD.out.2.2.1]
  replace M0 := M0.below hb1
  have hz1 := hb1.size
  clear hb1
  go_wp2_with fail
  refine (Sum_any l lo hi _ _ M0.1 (by omega)).mono ?_
  rintro e w2 ⟨rfl, hb2⟩
  rw [HD.out.sum]
  replace M0 := (M0.below hb2).alloc (.cells #[.int .i64 1, .int .i64 1] 23)
  have k2 := K2.new w2 (.int .i64 1) (.int .i64 1) 23
  clear hb2
  go_upto_region 4 with (fail)
  go_region_held3 (fun W => K2 W w2.heap.size (.int .i64 1) (.int .i64 1)) (exact k2) ((go_at_call 81; refine (mone_any _).mono ?_; rintro e w3 ⟨rfl, hb3⟩; replace M0 := Mem.below (by first | exact M0 | exact M0.drew) hb3; replace k2 := K2.aft hb3 k2; clear hb3))
  have HM := Lib.hid M0
  clear M0 k2
  go_wp2_with fail
  exact HR.out _ _ ⟨rfl, HM.out.2.1.1⟩

set_option maxHeartbeats 1000000 in
theorem indexFF_none (f : FuncId) (hent : Ent f) (cap : Array Value) (ll : List (List Fr)) (lo hi : Nat) (v : Value) (w : World) (hv : RdFF w lo hi v ll) (hh : hi ≤ w.heap.size)
    (hf : ∀ (l : List Fr) (u : Value) (W : World), l ∈ ll → RdF W lo hi u l → Below w.heap.size w W → Calls Try.prog f (#[u] ++ cap) W fun e W' => e = .returned (.bool false) ∧ Below W.heap.size W W') :
    Calls Try.prog 84 #[v, .func (.func f) #[] cap] w fun e w' => e = .returned (.int .i64 (-1)) ∧ Below w.heap.size w w' := by
  obtain ⟨A, c, rfl, hc, hm⟩ := hv.form
  unfold Ent at hent
  have HF := Lib.hid hf
  clear hf
  have M0 : Mem [Loc.rdFF lo hi (.slice A ll.length c) ll, Loc.bl w.heap.size w] w := ⟨hv, ⟨Below.refl _ _, Nat.le_refl _⟩, True.intro⟩
  have HM0 := Lib.hid M0
  clear hv M0
  refine calls_cps fun R hR => ?_
  have HR := Lib.hid hR
  clear hR
  go_enter Try.func84, Try.ntmps84
  go_wp2
  go_loopw [8] (fun i wr => ∃ k : Nat, k ≤ ll.length ∧ i = .int .i64 k ∧ Mem [Loc.rdFF lo hi (.slice A ll.length c) ll, Loc.bl w.heap.size w] wr) (fun i _ => ll.length - (intOf i).toNat)
  case atStart => exact ⟨0, by omega, rfl, HM0.out⟩
  case round =>
    clear HM0
    obtain ⟨k, hk, rfl, M⟩ := hrel
    by_cases hlt : k < ll.length
    · have hkd : decide ((k : Int) < (ll.length : Int)) = true := by simp; omega
      have hkb : (k : Int) < (ll.length : Int) := by omega
      obtain ⟨b1, o1, u1, rfl, _, f1, g1⟩ := RdFF.at_ M.1 (rw_get hlt)
      obtain ⟨B1, d1, rfl, _, _⟩ := g1.form
      have hmem : rw' ll k ∈ ll := List.mem_of_getElem? (rw_get hlt)
      have HCA := Lib.hid (HF.out (rw' ll k) _ wr hmem g1 M.2.1.1)
      have HM := Lib.hid M
      clear g1 hmem M
      go_wp2_with fail
      refine HCA.out.mono ?_
      rintro e w1 ⟨rfl, hb1⟩
      have HM1 := Lib.hid (HM.out.below hb1)
      clear hb1 f1 HM HCA
      go_wp2_with fail
      go_roundw
      case rel => exact ⟨k + 1, by omega, by go_num, HM1.out⟩
      case measure => simp [intOf]; omega
    · have hkd : decide ((k : Int) < (ll.length : Int)) = false := by simp; omega
      have HM := Lib.hid M
      clear M
      go_wp2_with fail
      exact HR.out _ _ ⟨rfl, HM.out.2.1.1⟩

set_option maxHeartbeats 400000 in
theorem containsFF_none (f : FuncId) (hent : Ent f) (cap : Array Value) (ll : List (List Fr)) (lo hi : Nat) (v : Value) (w : World) (hv : RdFF w lo hi v ll) (hh : hi ≤ w.heap.size)
    (hf : ∀ (l : List Fr) (u : Value) (W : World), l ∈ ll → RdF W lo hi u l → Below w.heap.size w W → Calls Try.prog f (#[u] ++ cap) W fun e W' => e = .returned (.bool false) ∧ Below W.heap.size W W') :
    Calls Try.prog 78 #[v, .func (.func f) #[] cap] w fun e w' => e = .returned (.bool false) ∧ Below w.heap.size w w' := by
  have HC := Lib.hid (indexFF_none f hent cap ll lo hi v w hv hh hf)
  clear hf hent hv
  refine calls_cps fun R hR => ?_
  have HR := Lib.hid hR
  clear hR
  go_enter Try.func78, Try.ntmps78
  go_wp2_with fail
  refine HC.out.mono ?_
  rintro e w1 ⟨rfl, hb1⟩
  have HB1 := Lib.hid hb1
  clear hb1
  go_wp2
  exact HR.out _ _ ⟨rfl, HB1.out⟩

/-- a chain whose rows are distributions -/
def ChainOk (rows : List (List Fr)) : Prop := 1 ≤ rows.length ∧ rows.length ≤ 20 ∧ ∀ l ∈ rows, DistOk l rows.length

set_option maxHeartbeats 1000000 in
theorem mvalid1_ok (l : List Fr) (n nb : Nat) (lo hi : Nat) (v : Value) (w : World) (hn : K1 w nb (.int .i64 n)) (hv : RdF w lo hi v l) (hh : hi ≤ w.heap.size) (hd : DistOk l n) :
    Calls Try.prog 79 (#[v] ++ #[.pointer (some ⟨nb, 0, none⟩)]) w fun e w' => e = .returned (.bool false) ∧ Below w.heap.size w w' := by
  have HV := Lib.hid hv
  clear hv
  show Calls Try.prog 79 #[v, .pointer (some ⟨nb, 0, none⟩)] w _
  refine calls_cps fun R hR => ?_
  have HR := Lib.hid hR
  clear hR
  go_enter Try.func79, Try.ntmps79
  go_wp2_with fail
  refine (distribution_ok l n lo hi _ _ HV.out hh hd).mono ?_
  rintro e w1 ⟨rfl, hb1⟩
  have HB := Lib.hid hb1
  clear hb1
  go_wp2_with fail
  exact HR.out _ _ ⟨rfl, HB.out⟩
theorem ent_mvalid1 : Ent 79 := ent_of Try.func79 (by kernel_rfl) rfl

set_option maxHeartbeats 2000000 in
theorem mvalid_ok (rows : List (List Fr)) (lo hi : Nat) (v : Value) (w : World) (hv : RdFF w lo hi v rows) (hh : hi ≤ w.heap.size) (hc : ChainOk rows) :
    Calls Try.prog 66 #[.agg #[v]] w fun e w' => e = .returned (.bool true) ∧ Below w.heap.size w w' := by
  obtain ⟨A, c, rfl, hlc, hm⟩ := hv.form
  obtain ⟨h1, h2, h3⟩ := hc
  have HC := Lib.hid h3
  have HV := Lib.hid hv
  clear h3 hv
  have hd1 : decide ((1 : Int) ≤ (rows.length : Int)) = true := by simp; omega
  have hd2 : decide ((rows.length : Int) ≤ 20) = true := by simp; omega
  refine calls_cps fun R hR => ?_
  have HR := Lib.hid hR
  clear hR
  go_enter Try.func66, Try.ntmps66
  go_wp2_with fail
  have n1 := K1.new (w.alloc (.cells #[.slice A rows.length c] 42)) (.int .i64 rows.length) 3
  simp only [World.size_alloc] at n1
  have b2 : Below w.heap.size w ((w.alloc (.cells #[.slice A rows.length c] 42)).alloc (.cells #[.int .i64 rows.length] 3)) := ((Below.refl _ _).alloc (Nat.le_refl _) _).alloc (by simp) _
  have HV2 := Lib.hid (RdFF.after HV.out b2)
  have HB2 := Lib.hid b2
  have HN := Lib.hid n1
  refine (containsFF_none 79 ent_mvalid1 #[.pointer (some ⟨w.heap.size + 1, 0, none⟩)] rows lo hi _ _ HV2.out (by simp; omega) (fun l u W hl hu hW => mvalid1_ok l rows.length (w.heap.size + 1) lo hi u W (K1.aft hW HN.out) hu (by have := hW.size; simp at this; omega) (HC.out l hl))).mono ?_
  rintro e w3 ⟨rfl, hb3⟩
  have HB3 := Lib.hid (Below.step HB2.out hb3 (by simp; omega))
  clear hb3 b2 n1
  go_wp2_with fail
  exact HR.out _ _ ⟨rfl, HB3.out⟩

end Go.Proofs.Ythlgkomhnhkooaa
