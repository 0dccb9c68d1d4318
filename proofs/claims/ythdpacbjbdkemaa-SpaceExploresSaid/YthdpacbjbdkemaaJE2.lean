/-
  Texts joined: Fire, Fire2, Fire3, SpA, AwA, Tail, AwB, AwC, AwD. Conditions: none.
-/
import Derived.Test.YthdpacbjbdkemaaJE1
import Derived.Lib.SliceRun
import Derived.StillTailTactics
import Derived.WalkKit
import Derived.Laws.AppendOwn
import Derived.Orders
import Derived.Maps.Own
import Derived.Maps.Views
import Derived.Deep.LoopGhost
import Derived.IntWalk
import Derived.Lib.Strings
section
namespace Go.Proofs.Ythdpacbjbdkemaa
set_option linter.unusedSimpArgs false
set_option linter.unusedVariables false
open Go.RowKit

set_option maxRecDepth 100000 in
set_option maxHeartbeats 1000000 in
theorem clone_any (l : List Int) (v : Value) (lo hi : Nat) (w : World) (hv : RdI w lo hi v l) (hl : l.length ≤ 1000000) :
    Calls Try.prog 32 #[v] w fun e w' => ∃ A c, e = .returned (.slice A l.length c) ∧ OwnI w' w.heap.size w'.heap.size (.slice A l.length c) l ∧ Below w.heap.size w w' := by
  have hq : ∀ (w : World) (a : Option Addr) (n c n' c' : Nat), (binOp .eql 25 (.slice a n c) (.slice none n' c')).run Try.prog w = .ok (.bool a.isNone) w := fun w a n c n' c' => Lib.run_eql_slice_nil w _ _ a n c n' c' Try.underlying25
  obtain ⟨A, c, rfl, hc, hm⟩ := hv.form
  have HV := Lib.hid hv
  have HL := Lib.hid hl
  clear hl
  rcases A with _ | ad
  · have hnil : l = [] := by
      rcases Nat.eq_zero_or_pos l.length with h0 | h0
      · exact List.eq_nil_of_length_eq_zero h0
      · obtain ⟨b, off, h, _⟩ := RdC.cells hv h0
        cases h
    clear hv
    subst hnil
    refine calls_cps fun R hR => ?_
    have HR := Lib.hid hR
    clear hR
    go_enter Try.func32, Try.ntmps32
    go_wp2_with fail
    exact HR.out _ _ ⟨none, 0, rfl, Own.nil _ _ _, Below.refl _ _⟩
  · clear hv
    refine calls_cps fun R hR => ?_
    have HR := Lib.hid hR
    clear hR
    go_enter Try.func32, Try.ntmps32
    have M : Hid (Mem [Loc.owI w.heap.size (w.heap.size + 1) (.slice (some ⟨w.heap.size, 0, none⟩) 0 0) [], Loc.bl w.heap.size w] (w.alloc (.cells #[] 3))) := Lib.hid ⟨Own.lit w 3 w.heap.size [] #[] 0 rfl rfl (Nat.le_refl _) (Nat.zero_le _) (fun _ => rfl), ⟨(Below.refl _ _).alloc (Nat.le_refl _) _, by simp⟩, True.intro⟩
    go_wp2_with (at_builtin; refine wpList_app rfl _ _ rfl ti_int (fun _ => rfl) oneI rfl rfl (M.out) (by (repeat' (first | exact True.intro | refine And.intro (fun k hk e => ?_) ?_)) <;> (first | exact e | ((try dsimp only [Loc.c1, Loc.c2, Loc.k1, Loc.k2, Loc.k3, Loc.k4, Loc.k6, Loc.fr, Loc.bl, Loc.own, Loc.sz, Loc.rd, Loc.rdI, Loc.rdS, Loc.rdM, Loc.rdT, Loc.ow, Loc.owI] at hk e) <;> omega))) (HV.out.after ((Below.refl _ _).alloc (Nat.le_refl _) _)) (by have := HL.out; simp; omega) (by have := HL.out; simp; omega) (by simp) ?_; intro A1 c1 w1 hM1 hs1 hch1; replace M := Lib.hid hM1; clear hM1 hch1)
    refine HR.out _ _ ⟨A1, c1, ?_, ?_, M.out.2.1.1⟩
    · simp
    · have := M.out.1
      simp only [List.length_nil, Nat.zero_add, List.nil_append] at this
      exact this

def maxI : Int → List Int → Int
  | x, [] => x
  | x, y :: l => maxI (max x y) l
theorem maxI_gt (b : Int) : ∀ (l : List Int) (x : Int), decide (b < maxI x l) = (x :: l).any fun y => decide (b < y)
  | [], x => by simp [maxI] <;> rfl
  | y :: l, x => by
    rw [maxI, maxI_gt b l]
    simp only [List.any_cons]
    grind
set_option maxHeartbeats 1000000 in
theorem max_any (x : Int) (l : List Int) (v : Value) (lo hi : Nat) (w : World) (hv : RdI w lo hi v (x :: l)) :
    Calls Try.prog 71 #[v] w fun e w' => e = .returned (.int .i64 (maxI x l)) ∧ Below w.heap.size w w' := by
  have hx0 := hv
  obtain ⟨A, c, rfl, hc, hm⟩ := hv.form
  obtain ⟨b, off, rfl, _, _, hcell0⟩ := RdI.at1 hv (k := 0) (by simp)
  have HV := Lib.hid hv
  simp only [gti, List.getElem?_cons_zero, Option.getD_some, Nat.add_zero] at hcell0
  simp only [List.length_cons] at hc hm
  clear hv hx0
  refine calls_cps fun R hR => ?_
  have HR := Lib.hid hR
  clear hR
  go_enter Try.func71, Try.ntmps71
  go_wp2_with fail
  go_loop [3, 4] (fun v3 v4 => ∃ (k : Nat) (y : Int), k ≤ l.length ∧ v3 = .int .i64 y ∧ v4 = .int .i64 (k + 1 : Nat) ∧ Hid (maxI y (l.drop k) = maxI x l)) (fun _ v4 => l.length + 1 - (intOf v4).toNat)
  case atStart => exact ⟨0, x, by omega, rfl, rfl, Lib.hid rfl⟩
  case round =>
    obtain ⟨k, y, hk, rfl, rfl, HI⟩ := hrel
    by_cases hlt : k < l.length
    · obtain ⟨_, _, e, _, _, hcell⟩ := RdI.at1 HV.out (k := k + 1) (by simp; omega)
      injection e with e
      injection e with e1 e2
      subst e1 e2
      have HD := Lib.hid (drop_gti hlt)
      have e3 : gti (x :: l) (k + 1) = gti l k := by simp [gti]
      rw [e3] at hcell
      clear e3
      generalize gti l k = z at *
      go_wp2_with fail
      refine ⟨⟨k + 1, _, by omega, rfl, by go_num, Lib.hid ?_⟩, by simp [intOf]; omega⟩
      have h := HI.out
      rw [HD.out, maxI] at h
      rw [← h]
      congr 1
      omega
    · obtain rfl : k = l.length := by omega
      have HE := HI.out
      simp only [List.drop_length, maxI] at HE
      have HE := Lib.hid HE
      go_wp2_with fail
      exact HR.out _ _ ⟨ret_int (by first | exact HE.out | rfl), Below.refl _ _⟩

def enB (t : Tr) (m : List Int) : Bool := !t.inn.any fun p => decide (gti m p.toNat = 0)
theorem ent_enabled1 : Ent 72 := ent_of Try.func72 (by kernel_rfl) rfl
set_option maxHeartbeats 400000 in
theorem enabled1_any (m : List Int) (v : Value) (lo hi g : Nat) (p : Int) (w : World) (hg : C1 w g 0 v) (hv : RdI w lo hi v m) (h0 : 0 ≤ p) (h1 : p < m.length) :
    Calls Try.prog 72 #[.int .i64 p, .pointer (some ⟨g, 0, none⟩)] w fun e w' => e = .returned (.bool (decide (gti m p.toNat = 0))) ∧ Below w.heap.size w w' := by
  obtain ⟨k, rfl⟩ : ∃ k : Nat, p = k := ⟨p.toNat, by omega⟩
  have hlt : k < m.length := by omega
  clear h0 h1
  obtain ⟨A, c, rfl, hc, hm⟩ := hv.form
  obtain ⟨b, off, rfl, _, _, hcell⟩ := RdI.at1 hv hlt
  have HV := Lib.hid hv
  clear hv
  simp only [Int.toNat_natCast]
  refine calls_cps fun R hR => ?_
  have HR := Lib.hid hR
  clear hR
  go_enter Try.func72, Try.ntmps72
  go_wp2_with fail
  all_goals (refine HR.out _ _ ⟨ret_bool ?_, Below.refl _ _⟩ <;> (go_light; grind))

abbrev trV (t : Tr) (vi vo : Value) : Value := .agg #[.string t.label, vi, vo]
set_option maxRecDepth 100000 in
set_option maxHeartbeats 400000 in
theorem enabled_any (t : Tr) (vi vo : Value) (m : List Int) (v : Value) (lo hi lo' hi' : Nat) (w : World) (hi1 : RdI w lo hi vi t.inn) (hv : RdI w lo' hi' v m) (hin : ∀ p ∈ t.inn, 0 ≤ p ∧ p < m.length) :
    Calls Try.prog 49 #[trV t vi vo, v] w fun e w' => e = .returned (.bool (enB t m)) ∧ Below w.heap.size w w' := by
  obtain ⟨A, c, rfl, hc, hm⟩ := hv.form
  obtain ⟨A2, c2, rfl, hc2, hm2⟩ := hi1.form
  have HV := Lib.hid hv
  have HI := Lib.hid hi1
  have HN := Lib.hid hin
  clear hv hi1 hin
  have HC : Hid (∀ W, Mem [Loc.c1 (w.heap.size + 1) 0 (.slice A m.length c), Loc.bl w.heap.size w] W → Calls Try.prog 69 #[.slice A2 t.inn.length c2, .func (.func 72) #[] #[.pointer (some ⟨w.heap.size + 1, 0, none⟩)]] W fun e w' => e = .returned (.bool (t.inn.any fun p => decide (gti m p.toNat = 0))) ∧ Below W.heap.size W w') :=
    Lib.hid (fun W hM => containsFI_any 72 ent_enabled1 #[.pointer (some ⟨w.heap.size + 1, 0, none⟩)] (fun p => decide (gti m p.toNat = 0)) t.inn lo hi _ W (HI.out.after hM.2.1.1) (fun a ha W' hW' => enabled1_any m _ lo' hi' _ a W' (hM.below hW').1 ((HV.out.after hM.2.1.1).after hW') (HN.out a ha).1 (HN.out a ha).2))
  refine calls_cps fun R hR => ?_
  have HR := Lib.hid hR
  clear hR
  go_enter Try.func49, Try.ntmps49
  have M : Hid (Mem [Loc.c1 (w.heap.size + 1) 0 (.slice A m.length c), Loc.bl w.heap.size w] ((w.alloc (Obj.cells #[Value.string t.label, Value.slice A2 t.inn.length c2, vo] 59)).alloc (Obj.cells #[Value.slice A m.length c] 25))) := Lib.hid ⟨by simp [C1, go_sem], ⟨((Below.refl _ _).alloc (Nat.le_refl _) _).alloc (by simp) _, by simp; omega⟩, True.intro⟩
  go_wp2_with (go_at_call 69; refine (HC.out _ M.out).mono ?_; rintro e w1 ⟨rfl, hb1⟩; replace M := Lib.hid (M.out.below hb1); clear hb1; skip)
  exact HR.out _ _ ⟨rfl, M.out.2.1.1⟩

/-- a list of places, read: each is one; they ascend; there are not too many -/
theorem placesB_at {n : Int} {l : List Int} (h : placesB n l = true) {k : Nat} (hk : k < l.length) : 0 ≤ gti l k ∧ gti l k < n ∧ (k : Int) ≤ gti l k := by
  have hall : ∀ j, j < l.length → ¬ badP n l j := by
    intro j hj hb
    rw [placesB_false hj hb] at h
    cases h
  have h1 := hall k hk
  unfold badP at h1
  refine ⟨by omega, by omega, ?_⟩
  induction k with
  | zero => omega
  | succ k ih =>
    have h2 := hall k (by omega)
    unfold badP at h2
    have := ih (by omega) h2
    simp only [Nat.add_sub_cancel] at h1
    omega
theorem placesB_len {n : Int} {l : List Int} (h : placesB n l = true) : (l.length : Int) ≤ n ∨ l.length = 0 := by
  rcases Nat.eq_zero_or_pos l.length with h0 | h0
  · exact .inr h0
  · have := placesB_at h (k := l.length - 1) (by omega)
    omega
theorem mem_gti {α : Type} [Inhabited α] {l : List α} {a : α} (h : a ∈ l) : ∃ k, k < l.length ∧ gti l k = a := by
  obtain ⟨k, hk, rfl⟩ := List.mem_iff_getElem.1 h
  exact ⟨k, hk, by unfold gti; rw [List.getElem?_eq_getElem hk]; rfl⟩
theorem placesB_mem {n : Int} {l : List Int} (h : placesB n l = true) {p : Int} (hp : p ∈ l) : 0 ≤ p ∧ p < n := by
  obtain ⟨k, hk, rfl⟩ := mem_gti hp
  have := placesB_at h hk
  exact ⟨this.1, this.2.1⟩
theorem validL_tr {n : Net} : ∀ {l : List Tr}, validL n l = true → ∀ t ∈ l, trB n.places t = true
  | [], _, t, ht => by cases ht
  | x :: l, h, t, ht => by
    simp only [validL] at h
    split at h
    · rcases List.mem_cons.1 ht with rfl | ht
      · assumption
      · exact validL_tr h t ht
    · cases h
theorem validB_tr {n : Net} (h : validB n = true) {t : Tr} (ht : t ∈ n.trans) : (t.label.toList.isEmpty || nameB t.label) = true ∧ placesB n.places t.inn = true ∧ placesB n.places t.out = true := by
  unfold validB at h
  split at h
  · cases h
  · have := validL_tr h t ht
    unfold trB at this
    simp only [Bool.and_eq_true] at this
    exact ⟨this.1.1, this.1.2, this.2⟩
theorem gti_mem {α : Type} [Inhabited α] {l : List α} {k : Nat} (h : k < l.length) : gti l k ∈ l := List.mem_of_getElem? (gti_get h)
theorem mark2B_len {n : Net} {m : List Int} (h : mark2B n m = true) : (m.length : Int) = n.places := by
  unfold mark2B at h
  split at h
  · cases h
  · omega
theorem all01_at : ∀ {m : List Int}, all01 m = true → ∀ k, 0 ≤ gti m k ∧ gti m k ≤ 100
  | [], _, k => by simp [gti]
  | x :: m, h, k => by
    simp only [all01] at h
    split at h
    · cases h
    · cases k with
      | zero => simp [gti]; omega
      | succ k =>
        have := all01_at h k
        simpa [gti] using this
theorem mark2B_at {n : Net} {m : List Int} (h : mark2B n m = true) (k : Nat) : 0 ≤ gti m k ∧ gti m k ≤ 100 := by
  unfold mark2B at h
  split at h
  · cases h
  · exact all01_at h k

def enabledL (m : List Int) : Nat → List Tr → List Int
  | _, [] => []
  | i, t :: ts => if enB t m then (i : Int) :: enabledL m (i + 1) ts else enabledL m (i + 1) ts
def enabledE (n : Net) (m : List Int) : List Int × Int := if markB n m then (enabledL m 0 n.trans, 0) else ([], 1)
theorem marking_is {n : Net} {m : List Int} {b : Bool} (hb : markB n m = b) (vt v : Value) (lo hi lo' hi' : Nat) (w : World) (hv : RdT w lo hi vt n.trans) (hm : RdI w lo' hi' v m) :
    Calls Try.prog 47 #[netV n vt, v] w fun e w' => e = .returned (.bool b) ∧ Below w.heap.size w w' := hb ▸ marking_any n m vt v lo hi lo' hi' w hv hm

set_option maxHeartbeats 1000000 in
theorem Enabled_any (n : Net) (m : List Int) (vt v : Value) (lo hi lo' hi' : Nat) (w : World) (hv : RdT w lo hi vt n.trans) (hm : RdI w lo' hi' v m) :
    Calls Try.prog 23 #[netV n vt, v] w (RetI w (enabledE n m)) := by
  obtain ⟨A, c, rfl, hc, hmm⟩ := hv.form
  obtain ⟨A2, c2, rfl, hc2, hmm2⟩ := hm.form
  have HV := Lib.hid hv
  have HW := Lib.hid hm
  clear hv hm
  cases hvb : markB n m
  · have HVB := Lib.hid hvb
    clear hvb
    refine calls_cps fun R hR => ?_
    have HR := Lib.hid hR
    clear hR
    go_enter Try.func23, Try.ntmps23
    have M : Hid (Mem [Loc.k4 w.heap.size (.int .i64 n.places) (.slice A n.trans.length c) (.int .i64 n.source) (.int .i64 n.sink), Loc.bl w.heap.size w] (w.alloc (.cells #[.int .i64 n.places, .slice A n.trans.length c, .int .i64 n.source, .int .i64 n.sink] 24))) := Lib.hid ⟨K4.new w _ _ _ _ _, ⟨(Below.refl _ _).alloc (Nat.le_refl _) _, by simp⟩, True.intro⟩
    have hk4 := M.out.1
    go_wp2_with (go_at_call 47; refine (marking_is HVB.out _ _ lo hi lo' hi' _ (HV.out.after M.out.2.1.1) (HW.out.after M.out.2.1.1)).mono ?_; rintro e w1 ⟨rfl, hb1⟩; replace M := Lib.hid (M.out.below hb1); clear hb1; replace hk4 := M.out.1)
    exact HR.out _ _ (RetI.nil (by rw [enabledE, HVB.out]; rfl) M.out.2.1.1)
  · have HVB := Lib.hid hvb
    have hval : validB n = true := by unfold markB at hvb; simp at hvb; exact hvb.1
    have HMK : Hid (mark2B n m = true) := Lib.hid (by unfold markB at hvb; simp at hvb; exact hvb.2)
    have HVAL := Lib.hid hval
    have hpl := (validB_places hval).2.2
    clear hvb hval
    refine calls_cps fun R hR => ?_
    have HR := Lib.hid hR
    clear hR
    go_enter Try.func23, Try.ntmps23
    have M : Hid (Mem [Loc.k4 w.heap.size (.int .i64 n.places) (.slice A n.trans.length c) (.int .i64 n.source) (.int .i64 n.sink), Loc.bl w.heap.size w] (w.alloc (.cells #[.int .i64 n.places, .slice A n.trans.length c, .int .i64 n.source, .int .i64 n.sink] 24))) := Lib.hid ⟨K4.new w _ _ _ _ _, ⟨(Below.refl _ _).alloc (Nat.le_refl _) _, by simp⟩, True.intro⟩
    have hk4 := M.out.1
    go_wp2_with (go_at_call 47; refine (marking_is HVB.out _ _ lo hi lo' hi' _ (HV.out.after M.out.2.1.1) (HW.out.after M.out.2.1.1)).mono ?_; rintro e w1 ⟨rfl, hb1⟩; replace M := Lib.hid (M.out.below hb1); clear hb1; replace hk4 := M.out.1)
    go_loopw [16, 6, 7, 8] (fun v16 v6 _ _ wr => ∃ (k : Nat) (out : List Int) (B : Option Addr) (d hh : Nat), k ≤ n.trans.length ∧ v16 = .int .i64 k ∧ v6 = .slice B out.length d ∧ out.length ≤ k ∧ Hid (out ++ enabledL m k (n.trans.drop k) = enabledL m 0 n.trans) ∧ hh ≤ wr.heap.size ∧ Hid (Mem [Loc.owI w1.heap.size hh (.slice B out.length d) out, Loc.k4 w.heap.size (.int .i64 n.places) (.slice A n.trans.length c) (.int .i64 n.source) (.int .i64 n.sink), Loc.bl w.heap.size w, Loc.sz w1.heap.size] wr)) (fun v16 _ _ _ _ => n.trans.length - (intOf v16).toNat)
    case atStart => exact ⟨0, [], none, 0, 0, by omega, rfl, rfl, by simp, Lib.hid (by simp), by omega, Lib.hid ⟨Own.nil _ _ _, M.out.1, M.out.2.1, Nat.le_refl _, True.intro⟩⟩
    case round =>
      have hws := M.out.2.1.2
      have hwk := M.out.1.2.2.2.2
      clear M hk4
      obtain ⟨k, out, B, d, hh, hk, rfl, rfl, hol, HI, hhs, HM⟩ := hrel
      have hk4 := HM.out.2.1
      by_cases hlt : k < n.trans.length
      · obtain ⟨b, off, vi, vo, rfl, _, _, hcell, hri, hro⟩ := RdT.at3 (HV.out.after HM.out.2.2.1.1) hlt
        have HD := Lib.hid (drop_gti hlt)
        have HTR := Lib.hid (validB_tr HVAL.out (gti_mem hlt))
        obtain ⟨Ai, ci, rfl, hci, hmi⟩ := hri.form
        obtain ⟨Ao, co, rfl, hco, hmo⟩ := hro.form
        generalize gti n.trans k = t at *
        have M : Hid (Mem [Loc.owI w1.heap.size hh (.slice B out.length d) out, Loc.k4 w.heap.size (.int .i64 n.places) (.slice (some ⟨b, off, none⟩) n.trans.length c) (.int .i64 n.source) (.int .i64 n.sink), Loc.bl w.heap.size w, Loc.sz w1.heap.size, Loc.k3 wr.heap.size (.string t.label) (.slice Ai t.inn.length ci) (.slice Ao t.out.length co)] (wr.alloc (.cells #[.string t.label, .slice Ai t.inn.length ci, .slice Ao t.out.length co] 59))) :=
          Lib.hid ⟨(HM.out.alloc _).1, (HM.out.alloc _).2.1, (HM.out.alloc _).2.2.1, (HM.out.alloc _).2.2.2.1, K3.new wr _ _ _ _, True.intro⟩
        have HRI := Lib.hid (hri.after ((Below.refl _ _).alloc (Nat.le_refl _) (.cells #[.string t.label, .slice Ai t.inn.length ci, .slice Ao t.out.length co] 59)))
        clear HM hri hro
        replace hk4 := M.out.2.1
        have hk3 := M.out.2.2.2.2.1
        have hwz := M.out.2.2.2.1
        go_wp2_with (first
          | (go_at_call 49; refine (enabled_any t _ _ m _ lo hi lo' hi' _ HRI.out (HW.out.after M.out.2.2.1.1) (fun p hp => by have := placesB_mem HTR.out.2.1 hp; have := mark2B_len HMK.out; omega)).mono ?_; rintro e w1 ⟨rfl, hb1⟩; replace M := Lib.hid (M.out.below hb1); clear hb1; replace hk4 := M.out.2.1; replace hk3 := M.out.2.2.2.2.1)
          | (at_builtin; refine wpList_app rfl _ _ rfl ti_int (fun _ => rfl) oneI rfl rfl (M.out.alloc _) (by (repeat' (first | exact True.intro | refine And.intro (fun k hk e => ?_) ?_)) <;> (first | exact e | ((try dsimp only [Loc.c1, Loc.c2, Loc.k1, Loc.k2, Loc.k3, Loc.k4, Loc.k6, Loc.fr, Loc.bl, Loc.own, Loc.sz, Loc.rd, Loc.rdI, Loc.rdS, Loc.rdM, Loc.rdT, Loc.ow, Loc.owI] at hk e) <;> omega))) (RdI.lit1 _ _ _) (by simp; omega) (by simp; omega) ((M.out.alloc _).2.2.2.1) ?_; intro A1 c1 w1 hM1 hs1 hch1; replace M := Lib.hid hM1; clear hM1 hch1; (try simp only [World.size_alloc] at hs1); skip))
        all_goals have h := HI.out
        all_goals rw [HD.out, enabledL] at h
        · refine ⟨⟨k + 1, out ++ [(k : Int)], A1, c1, _, by omega, by go_num, by simp, by simp; omega, Lib.hid (by go_light; grind), Nat.le_refl _, Lib.hid ⟨by simpa using M.out.1, M.out.2.1, M.out.2.2.1, M.out.2.2.2.1, True.intro⟩⟩, by simp [intOf]; omega⟩
        · have hsz := (M.out.2.2.2.2.1).2.2.2
          exact ⟨⟨k + 1, out, B, d, hh, by omega, by go_num, by simp, by omega, Lib.hid (by go_light; grind), by omega, Lib.hid ⟨M.out.1, M.out.2.1, M.out.2.2.1, M.out.2.2.2.1, True.intro⟩⟩, by simp [intOf]; omega⟩
      · obtain rfl : k = n.trans.length := by omega
        have HE : Hid (out = enabledL m 0 n.trans) := Lib.hid (by have h := HI.out; simpa [enabledL] using h)
        go_wp2_with fail
        exact HR.out _ _ (RetI.mk (l := out) (by rw [enabledE, HVB.out, if_pos rfl, HE.out]) rfl HM.out.1.rd hws hhs HM.out.2.2.1.1)

def decL : List Int → List Int → List Int
  | [], m => m
  | p :: ps, m => decL ps (m.set p.toNat (gti m p.toNat - 1))
def incL : List Int → List Int → List Int
  | [], m => m
  | p :: ps, m => incL ps (m.set p.toNat (gti m p.toNat + 1))
theorem decL_len : ∀ ps m, (decL ps m).length = m.length
  | [], m => rfl
  | p :: ps, m => by rw [decL, decL_len ps, List.length_set]
theorem incL_len : ∀ ps m, (incL ps m).length = m.length
  | [], m => rfl
  | p :: ps, m => by rw [incL, incL_len ps, List.length_set]
def fireE (n : Net) (m : List Int) (t : Int) : List Int × Int :=
  if t < 0 ∨ n.trans.length ≤ t then ([], 2) else
  if enB (gti n.trans t.toNat) m then
    if (incL (gti n.trans t.toNat).out (decL (gti n.trans t.toNat).inn m)).any (fun y => decide (100 < y)) then ([], 5)
    else (incL (gti n.trans t.toNat).out (decL (gti n.trans t.toNat).inn m), 0)
  else ([], 12)
/-- all numbers of a list lie between -B and B -/
def Bnd (B : Int) (l : List Int) : Prop := ∀ i, -B ≤ gti l i ∧ gti l i ≤ B
theorem gti_set (l : List Int) (i j : Nat) (x : Int) : gti (l.set i x) j = if i = j ∧ j < l.length then x else gti l j := by
  unfold gti
  rw [List.getElem?_set]
  by_cases h : i = j
  · subst h
    by_cases h2 : i < l.length
    · simp [h2]
    · simp [h2]
  · simp [h]
theorem Bnd.dec {B : Int} {l : List Int} (h : Bnd B l) (i : Nat) : Bnd (B + 1) (l.set i (gti l i - 1)) := fun j => by
  rw [gti_set]
  have := h i
  have := h j
  split <;> omega
theorem Bnd.inc {B : Int} {l : List Int} (h : Bnd B l) (i : Nat) : Bnd (B + 1) (l.set i (gti l i + 1)) := fun j => by
  rw [gti_set]
  have := h i
  have := h j
  split <;> omega

theorem C3.aft {w W : World} {b o : Nat} {x y z : Value} (hb : Below w.heap.size w W) (h : C3 w b o x y z) : C3 W b o x y z := by
  have hbs := World.block_lt_of_cell? _ _ h.1
  exact ⟨(hb.cell (p := ⟨b, o, none⟩) hbs).trans h.1, (hb.cell (p := ⟨b, o + 1, none⟩) hbs).trans h.2.1, (hb.cell (p := ⟨b, o + 2, none⟩) hbs).trans h.2.2⟩
def maxL (l : List Int) : Int := maxI (gti l 0) l.tail
theorem maxL_gt (b : Int) {l : List Int} (h : 0 < l.length) : decide (b < maxL l) = l.any fun y => decide (b < y) := by
  cases l with
  | nil => simp at h
  | cons x l => exact maxI_gt b l x
theorem maxL_any (l : List Int) (v : Value) (lo hi : Nat) (w : World) (hv : RdI w lo hi v l) (hl : 0 < l.length) :
    Calls Try.prog 71 #[v] w fun e w' => e = .returned (.int .i64 (maxL l)) ∧ Below w.heap.size w w' := by
  cases l with
  | nil => simp at hl
  | cons x l => exact max_any x l v lo hi w hv

set_option maxRecDepth 100000 in
set_option maxHeartbeats 2000000 in
theorem fire_any (n : Net) (m : List Int) (t : Int) (vt v : Value) (lo hi lo' hi' : Nat) (w : World) (hv : RdT w lo hi vt n.trans) (hm : RdI w lo' hi' v m) (hmk : markB n m = true) :
    Calls Try.prog 48 #[netV n vt, v, .int .i64 t] w (RetI w (fireE n m t)) := by
  obtain ⟨A, c, rfl, hc, hmm⟩ := hv.form
  obtain ⟨A2, c2, rfl, hc2, hmm2⟩ := hm.form
  have HV := Lib.hid hv
  have HW := Lib.hid hm
  have hval : validB n = true := by unfold markB at hmk; simp at hmk; exact hmk.1
  have hmk2 : mark2B n m = true := by unfold markB at hmk; simp at hmk; exact hmk.2
  have HVAL := Lib.hid hval
  have HMK := Lib.hid hmk2
  have hpl := validB_places hval
  have hlen := mark2B_len hmk2
  obtain ⟨np, hnp⟩ : ∃ k : Nat, n.places = k := ⟨n.places.toNat, by omega⟩
  have hml : m.length = np := by omega
  have hnp1 : 1 ≤ np := by omega
  have hnp40 : np ≤ 40 := by omega
  have HNP := Lib.hid hnp
  have HML := Lib.hid hml
  clear hv hm hmk hval hmk2 hpl hlen hnp hml
  by_cases ht : t < 0 ∨ n.trans.length ≤ t
  · have HT := Lib.hid ht
    refine calls_cps fun R hR => ?_
    have HR := Lib.hid hR
    clear hR
    go_enter Try.func48, Try.ntmps48
    have M : Hid (Mem [Loc.k4 w.heap.size (.int .i64 n.places) (.slice A n.trans.length c) (.int .i64 n.source) (.int .i64 n.sink), Loc.bl w.heap.size w] (w.alloc (.cells #[.int .i64 n.places, .slice A n.trans.length c, .int .i64 n.source, .int .i64 n.sink] 24))) := Lib.hid ⟨K4.new w _ _ _ _ _, ⟨(Below.refl _ _).alloc (Nat.le_refl _) _, by simp⟩, True.intro⟩
    have hk4 := M.out.1
    go_wp2_with fail
    all_goals first
      | exact HR.out _ _ (RetI.nil (by rw [fireE, if_pos HT.out]) M.out.2.1.1)
      | (exfalso; go_light; omega)
  · have HT := Lib.hid ht
    obtain ⟨kt, rfl⟩ : ∃ k : Nat, t = k := ⟨t.toNat, by omega⟩
    have hlt : kt < n.trans.length := by omega
    clear ht
    obtain ⟨b, off, vi, vo, rfl, hbl, hbh, hcell, hri, hro⟩ := RdT.at3 HV.out hlt
    have HTR := Lib.hid (validB_tr HVAL.out (gti_mem hlt))
    obtain ⟨Ai, ci, rfl, hci, hmi⟩ := hri.form
    obtain ⟨Ao, co, rfl, hco, hmo⟩ := hro.form
    have HFE : Hid (fireE n m kt = if enB (gti n.trans kt) m then
        if (incL (gti n.trans kt).out (decL (gti n.trans kt).inn m)).any (fun y => decide (100 < y)) then ([], 5)
        else (incL (gti n.trans kt).out (decL (gti n.trans kt).inn m), 0)
      else ([], 12)) := Lib.hid (by rw [fireE, if_neg HT.out, Int.toNat_natCast])
    generalize gti n.trans kt = x at *
    have HRI := Lib.hid hri
    have HRO := Lib.hid hro
    have hil : x.inn.length ≤ 40 := by have := placesB_len HTR.out.2.1; have := HNP.out; omega
    have hol : x.out.length ≤ 40 := by have := placesB_len HTR.out.2.2; have := HNP.out; omega
    have hx1 : ((kt : Int) < 0) = False := by simp
    have hx2 : ((n.trans.length : Int) ≤ (kt : Int)) = False := by simp; omega
    clear hri hro HT
    refine calls_cps fun R hR => ?_
    have HR := Lib.hid hR
    clear hR
    go_enter Try.func48, Try.ntmps48
    have hcell' : C3 (w.alloc (.cells #[.int .i64 n.places, .slice (some ⟨b, off, none⟩) n.trans.length c, .int .i64 n.source, .int .i64 n.sink] 24)) b (off + kt * 3) (.string x.label) (.slice Ai x.inn.length ci) (.slice Ao x.out.length co) := C3.aft ((Below.refl w.heap.size w).alloc (Nat.le_refl _) _) hcell
    have M : Hid (Mem [Loc.k4 w.heap.size (.int .i64 n.places) (.slice (some ⟨b, off, none⟩) n.trans.length c) (.int .i64 n.source) (.int .i64 n.sink), Loc.bl w.heap.size w, Loc.k3 (w.heap.size + 1) (.string x.label) (.slice Ai x.inn.length ci) (.slice Ao x.out.length co)] ((w.alloc (.cells #[.int .i64 n.places, .slice (some ⟨b, off, none⟩) n.trans.length c, .int .i64 n.source, .int .i64 n.sink] 24)).alloc (.cells #[.string x.label, .slice Ai x.inn.length ci, .slice Ao x.out.length co] 59))) :=
      Lib.hid ⟨K4.aft ((Below.refl _ _).alloc (Nat.le_refl _) _) (K4.new w _ _ _ _ _), ⟨((Below.refl _ _).alloc (Nat.le_refl _) _).alloc (by simp) _, by simp; omega⟩, by have := K3.new (w.alloc (.cells #[.int .i64 n.places, .slice (some ⟨b, off, none⟩) n.trans.length c, .int .i64 n.source, .int .i64 n.sink] 24)) (.string x.label) (.slice Ai x.inn.length ci) (.slice Ao x.out.length co) 59; rw [World.size_alloc] at this; exact this, True.intro⟩
    have hk4 := K4.new w (.int .i64 n.places) (.slice (some ⟨b, off, none⟩) n.trans.length c) (.int .i64 n.source) (.int .i64 n.sink) 24
    have hk3 := M.out.2.2.1
    clear hcell
    go_wp2_with (first
      | (go_at_call 49; refine (enabled_any x _ _ m _ lo hi lo' hi' _ (HRI.out.after M.out.2.1.1) (HW.out.after M.out.2.1.1) (fun p hp => by have := placesB_mem HTR.out.2.1 hp; have := HNP.out; have := HML.out; omega)).mono ?_; rintro e w1 ⟨rfl, hb1⟩; replace M := Lib.hid (M.out.below hb1); clear hb1; replace hk4 := M.out.1; replace hk3 := M.out.2.2.1)
      | (go_at_call 32; refine (clone_any m _ lo' hi' _ (HW.out.after M.out.2.1.1) (by have := HML.out; omega)).mono ?_; rintro e w2 ⟨A1, c1, rfl, ho1, hb1⟩; have HO := Lib.hid ho1; have hsz2 := hb1.size; have hsz1 := M.out.2.2.1.2.2.2; replace M := Lib.hid (M.out.below hb1); clear hb1 ho1; replace hk4 := M.out.1; replace hk3 := M.out.2.2.1))
    · exact HR.out _ _ (RetI.nil (by have hfe := HFE.out; clear HFE; go_light; grind) M.out.2.1.1)
    · obtain ⟨g, cap, hA1, hgl, hgh, hgs⟩ := HO.out.blk (by have := HML.out; omega)
      injection hA1 with e1 _ e3
      subst e1 e3
      go_loopw [37, 11] (fun v37 _ wr => ∃ (k : Nat) (cur : List Int), k ≤ x.inn.length ∧ v37 = .int .i64 k ∧ Hid (decL (x.inn.drop k) cur = decL x.inn m) ∧ Hid (Bnd (100 + k) cur) ∧ Hid (cur.length = m.length) ∧ Hid (Mem [Loc.owI w1.heap.size w2.heap.size (.slice (some ⟨g, 0, none⟩) m.length c1) cur, Loc.k4 w.heap.size (.int .i64 n.places) (.slice (some ⟨b, off, none⟩) n.trans.length c) (.int .i64 n.source) (.int .i64 n.sink), Loc.bl w.heap.size w, Loc.k3 (w.heap.size + 1) (.string x.label) (.slice Ai x.inn.length ci) (.slice Ao x.out.length co), Loc.sz w2.heap.size] wr)) (fun v37 _ _ => x.inn.length - (intOf v37).toNat)
      case atStart => exact ⟨0, m, by omega, rfl, Lib.hid rfl, Lib.hid (fun i => by have := mark2B_at HMK.out i; omega), Lib.hid rfl, Lib.hid ⟨HO.out, M.out.1, M.out.2.1, M.out.2.2.1, Nat.le_refl _, True.intro⟩⟩
      case round =>
        obtain ⟨k, cur, hk, rfl, HI, HBD, HCL, HM⟩ := hrel
        by_cases hltk : k < x.inn.length
        · obtain ⟨bb, oo, rfl, _, _, hce⟩ := RdI.at1 (HRI.out.after HM.out.2.2.1.1) hltk
          have HD := Lib.hid (drop_gti hltk)
          have hpr := placesB_at HTR.out.2.1 hltk
          generalize gti x.inn k = p at *
          obtain ⟨kp, rfl⟩ : ∃ j : Nat, p = j := ⟨p.toNat, by omega⟩
          have hkp : kp < m.length := by have := HNP.out; have := HML.out; omega
          have hkc : kp < cur.length := by rw [HCL.out]; exact hkp
          have hat := OwnI.at1 HM.out.1 hkc
          have hbd := HBD.out kp
          have HO2 := Lib.hid (OwnI.set HM.out.1 kp (gti cur kp - 1))
          clear hpr hkc
          go_wp2_with fail
          refine ⟨⟨k + 1, cur.set kp (gti cur kp - 1), by omega, by go_num, Lib.hid ?_, Lib.hid ?_, Lib.hid (by rw [List.length_set]; exact HCL.out), Lib.hid ⟨HO2.out, HM.out.2.set (by (repeat' (first | exact True.intro | refine And.intro (fun k hk e => ?_) ?_)) <;> (first | exact e | ((try dsimp only [Loc.c1, Loc.c2, Loc.k1, Loc.k2, Loc.k3, Loc.k4, Loc.k6, Loc.fr, Loc.bl, Loc.own, Loc.sz, Loc.rd, Loc.rdI, Loc.rdS, Loc.rdM, Loc.rdT, Loc.ow, Loc.owI] at hk e) <;> omega)))⟩⟩, by simp [intOf]; omega⟩
          · have h := HI.out
            rw [HD.out, decL, Int.toNat_natCast] at h
            exact h
          · have := HBD.out.dec kp
            rw [show (100 + ((k + 1 : Nat) : Int)) = 100 + (k : Int) + 1 by omega]
            exact this
        · obtain rfl : k = x.inn.length := by omega
          have HE : Hid (cur = decL x.inn m) := Lib.hid (by have h := HI.out; simpa [decL] using h)
          have HE0 := HE
          have hk3' := HM.out.2.2.2.1
          clear HI hk3 hk4
          go_wp2_with fail
          clear HE
          go_loopw [51, 13] (fun v51 _ wr => ∃ (k : Nat) (cur : List Int), k ≤ x.out.length ∧ v51 = .int .i64 k ∧ Hid (incL (x.out.drop k) cur = incL x.out (decL x.inn m)) ∧ Hid (Bnd ((100 + x.inn.length) + k) cur) ∧ Hid (cur.length = m.length) ∧ Hid (Mem [Loc.owI w1.heap.size w2.heap.size (.slice (some ⟨g, 0, none⟩) m.length c1) cur, Loc.k4 w.heap.size (.int .i64 n.places) (.slice (some ⟨b, off, none⟩) n.trans.length c) (.int .i64 n.source) (.int .i64 n.sink), Loc.bl w.heap.size w, Loc.k3 (w.heap.size + 1) (.string x.label) (.slice Ai x.inn.length ci) (.slice Ao x.out.length co), Loc.sz w2.heap.size] wr)) (fun v51 _ _ => x.out.length - (intOf v51).toNat)
          case atStart => exact ⟨0, cur, by omega, rfl, Lib.hid (by rw [HE0.out]; rfl), Lib.hid (by simpa using HBD.out), HCL, HM⟩
          case round =>
            clear HE0 HBD HCL HM
            obtain ⟨k, cur, hk, rfl, HI, HBD, HCL, HM⟩ := hrel
            by_cases hltk : k < x.out.length
            · obtain ⟨bb, oo, rfl, _, _, hce⟩ := RdI.at1 (HRO.out.after HM.out.2.2.1.1) hltk
              have HD := Lib.hid (drop_gti hltk)
              have hpr := placesB_at HTR.out.2.2 hltk
              generalize gti x.out k = p at *
              obtain ⟨kp, rfl⟩ : ∃ j : Nat, p = j := ⟨p.toNat, by omega⟩
              have hkp : kp < m.length := by have := HNP.out; have := HML.out; omega
              have hkc : kp < cur.length := by rw [HCL.out]; exact hkp
              have hat := OwnI.at1 HM.out.1 hkc
              have hbd := HBD.out kp
              have HO2 := Lib.hid (OwnI.set HM.out.1 kp (gti cur kp + 1))
              clear hpr hkc
              go_wp2_with fail
              refine ⟨⟨k + 1, cur.set kp (gti cur kp + 1), by omega, by go_num, Lib.hid ?_, Lib.hid ?_, Lib.hid (by rw [List.length_set]; exact HCL.out), Lib.hid ⟨HO2.out, HM.out.2.set (by (repeat' (first | exact True.intro | refine And.intro (fun k hk e => ?_) ?_)) <;> (first | exact e | ((try dsimp only [Loc.c1, Loc.c2, Loc.k1, Loc.k2, Loc.k3, Loc.k4, Loc.k6, Loc.fr, Loc.bl, Loc.own, Loc.sz, Loc.rd, Loc.rdI, Loc.rdS, Loc.rdM, Loc.rdT, Loc.ow, Loc.owI] at hk e) <;> omega)))⟩⟩, by simp [intOf]; omega⟩
              · have h := HI.out
                rw [HD.out, incL, Int.toNat_natCast] at h
                exact h
              · have := HBD.out.inc kp
                rw [show ((100 + x.inn.length) + ((k + 1 : Nat) : Int)) = (100 + x.inn.length) + (k : Int) + 1 by omega]
                exact this
            · obtain rfl : k = x.out.length := by omega
              have HE : Hid (cur = incL x.out (decL x.inn m)) := Lib.hid (by have h := HI.out; simpa [incL] using h)
              clear HI
              have hcp : 0 < cur.length := by rw [HCL.out, HML.out]; omega
              have HMG := Lib.hid (maxL_gt 100 hcp)
              have M := HM
              clear HM
              go_wp2_with (go_at_call 71; refine (maxL_any cur _ w1.heap.size w2.heap.size _ M.out.1.rd hcp).mono ?_; rintro e w1 ⟨rfl, hb1⟩; replace M := Lib.hid (M.out.below hb1); clear hb1; skip)
              all_goals (have hfe := HFE.out; have he := HE.out; have hmg := HMG.out; rw [← he, ← hmg] at hfe)
              · exact HR.out _ _ (RetI.nil (by clear HFE HE HMG he hmg; go_light; grind) M.out.2.2.1.1)
              · exact HR.out _ _ (RetI.mk (l := cur) (by clear HFE HE HMG he hmg; go_light; grind) HCL.out.symm M.out.1.rd (by omega) M.out.2.2.2.2.1 M.out.2.2.1.1)

end Go.Proofs.Ythdpacbjbdkemaa
end
section
namespace Go.Proofs.Ythdpacbjbdkemaa
set_option linter.unusedSimpArgs false
set_option linter.unusedVariables false
open Go.RowKit

theorem placesB_lt {n : Int} {l : List Int} (h : placesB n l = true) : ∀ (j i : Nat), i < j → j < l.length → gti l i < gti l j
  | 0, i, hij, _ => by omega
  | j + 1, i, hij, hj => by
    have hb : ¬ badP n l (j + 1) := fun hb => by rw [placesB_false hj hb] at h; cases h
    unfold badP at hb
    simp only [Nat.add_sub_cancel] at hb
    by_cases hji : i = j
    · subst hji; omega
    · have := placesB_lt h j i (by omega) (by omega)
      omega
theorem placesB_tail {n : Int} {p : Int} {ps : List Int} (h : placesB n (p :: ps) = true) : placesB n ps = true := by
  apply placesB_true
  intro k hk
  have hb : ¬ badP n (p :: ps) (k + 1) := fun hb => by rw [placesB_false (by simp; omega) hb] at h; cases h
  unfold badP at hb ⊢
  have e1 : gti (p :: ps) (k + 1) = gti ps k := by simp [gti]
  rw [e1] at hb
  rcases Nat.eq_zero_or_pos k with rfl | hk0
  · omega
  · obtain ⟨j, rfl⟩ : ∃ j, k = j + 1 := ⟨k - 1, by omega⟩
    have e2 : gti (p :: ps) (j + 1) = gti ps j := by simp [gti]
    simp only [Nat.add_sub_cancel] at hb ⊢
    rw [e2] at hb
    omega
theorem placesB_head {n : Int} {p : Int} {ps : List Int} (h : placesB n (p :: ps) = true) : 0 ≤ p ∧ p < n ∧ ∀ q ∈ ps, q.toNat ≠ p.toNat := by
  have h0 := placesB_at h (k := 0) (by simp)
  have e : gti (p :: ps) 0 = p := by simp [gti]
  rw [e] at h0
  refine ⟨h0.1, h0.2.1, fun q hq => ?_⟩
  obtain ⟨k, hk, rfl⟩ := mem_gti hq
  have := placesB_lt h (k + 1) 0 (by omega) (by simp; omega)
  have e1 : gti (p :: ps) (k + 1) = gti ps k := by simp [gti]
  rw [e, e1] at this
  omega
theorem decL_nonneg {n : Int} : ∀ {ps m : List Int}, placesB n ps = true → (∀ i, 0 ≤ gti m i) → (∀ p ∈ ps, 1 ≤ gti m p.toNat) → ∀ i, 0 ≤ gti (decL ps m) i
  | [], m, _, h, _, i => h i
  | p :: ps, m, hp, h, h1, i => by
    obtain ⟨hp0, hp1, hpn⟩ := placesB_head hp
    refine decL_nonneg (placesB_tail hp) (fun j => ?_) (fun q hq => ?_) i
    · rw [gti_set]
      have := h j
      have := h1 p (List.mem_cons_self ..)
      split <;> omega
    · rw [gti_set, if_neg (fun e => hpn q hq e.1.symm)]
      exact h1 q (List.mem_cons_of_mem _ hq)
theorem incL_nonneg : ∀ {ps m : List Int}, (∀ i, 0 ≤ gti m i) → ∀ i, 0 ≤ gti (incL ps m) i
  | [], m, h, i => h i
  | p :: ps, m, h, i => by
    rw [incL]
    refine incL_nonneg (fun j => ?_) i
    rw [gti_set]
    have := h j
    have := h p.toNat
    split <;> omega
theorem enB_at {t : Tr} {m : List Int} (h : enB t m = true) {p : Int} (hp : p ∈ t.inn) : gti m p.toNat ≠ 0 := by
  unfold enB at h
  simp only [Bool.not_eq_true', List.any_eq_false, decide_eq_true_eq] at h
  exact h p hp
theorem all01_iff : ∀ {m : List Int}, (∀ i, 0 ≤ gti m i) → all01 m = !m.any fun y => decide (100 < y)
  | [], _ => rfl
  | x :: m, h => by
    have h0 : 0 ≤ x := by have := h 0; simpa [gti] using this
    have := all01_iff (m := m) (fun i => by have := h (i + 1); simpa [gti] using this)
    simp only [all01, List.any_cons]
    rw [this]
    grind
/-- the marking after a transition that is enabled: too many tokens, or a marking -/
theorem fire_mark {n : Net} {m : List Int} {t : Tr} (hm : mark2B n m = true) (ht : placesB n.places t.inn = true) (he : enB t m = true) :
    mark2B n (incL t.out (decL t.inn m)) = !(incL t.out (decL t.inn m)).any fun y => decide (100 < y) := by
  have hnn : ∀ i, 0 ≤ gti (incL t.out (decL t.inn m)) i := incL_nonneg (decL_nonneg ht (fun i => (mark2B_at hm i).1) (fun p hp => by
    have := enB_at he hp
    have := (mark2B_at hm p.toNat).1
    omega))
  unfold mark2B
  rw [if_neg (by rw [incL_len, decL_len]; have := mark2B_len hm; omega), all01_iff hnn]
theorem fireE_mark {n : Net} {m : List Int} {t : Int} (hm : markB n m = true) (h : (fireE n m t).2 = 0) : markB n (fireE n m t).1 = true := by
  unfold markB at hm ⊢
  simp only [Bool.and_eq_true] at hm ⊢
  refine ⟨hm.1, ?_⟩
  unfold fireE at h ⊢
  split
  · rename_i h1; rw [if_pos h1] at h; simp at h
  · rename_i h1
    rw [if_neg h1] at h
    split
    · rename_i h2
      rw [if_pos h2] at h
      split
      · rename_i h3; rw [if_pos h3] at h; simp at h
      · rename_i h3
        have htr := validB_tr hm.1 (gti_mem (l := n.trans) (k := t.toNat) (by omega))
        rw [fire_mark hm.2 htr.2.1 h2]
        simpa using h3
    · rename_i h2; rw [if_neg h2] at h; simp at h

def FireE (n : Net) (m : List Int) (t : Int) : List Int × Int := if markB n m then fireE n m t else ([], 1)
set_option maxHeartbeats 1000000 in
theorem Fire_any (n : Net) (m : List Int) (t : Int) (vt v : Value) (lo hi lo' hi' : Nat) (w : World) (hv : RdT w lo hi vt n.trans) (hm : RdI w lo' hi' v m) :
    Calls Try.prog 24 #[netV n vt, v, .int .i64 t] w (RetI w (FireE n m t)) := by
  obtain ⟨A, c, rfl, hc, hmm⟩ := hv.form
  obtain ⟨A2, c2, rfl, hc2, hmm2⟩ := hm.form
  have HV := Lib.hid hv
  have HW := Lib.hid hm
  clear hv hm
  cases hvb : markB n m <;> have HVB := Lib.hid hvb <;> clear hvb
  all_goals
    refine calls_cps fun R hR => ?_
    have HR := Lib.hid hR
    clear hR
    go_enter Try.func24, Try.ntmps24
    have M : Hid (Mem [Loc.k4 w.heap.size (.int .i64 n.places) (.slice A n.trans.length c) (.int .i64 n.source) (.int .i64 n.sink), Loc.bl w.heap.size w] (w.alloc (.cells #[.int .i64 n.places, .slice A n.trans.length c, .int .i64 n.source, .int .i64 n.sink] 24))) := Lib.hid ⟨K4.new w _ _ _ _ _, ⟨(Below.refl _ _).alloc (Nat.le_refl _) _, by simp⟩, True.intro⟩
    have hk4 := M.out.1
    go_wp2_with (first
      | (go_at_call 47; refine (marking_is HVB.out _ _ lo hi lo' hi' _ (HV.out.after M.out.2.1.1) (HW.out.after M.out.2.1.1)).mono ?_; rintro e w1 ⟨rfl, hb1⟩; replace M := Lib.hid (M.out.below hb1); clear hb1; replace hk4 := M.out.1)
      | (go_at_call 48; refine (fire_any n m t _ _ lo hi lo' hi' _ (HV.out.after M.out.2.1.1) (HW.out.after M.out.2.1.1) HVB.out).mono ?_; rintro e w2 ⟨A1, c1, rfl, hr1, hb1⟩; have HR1 := Lib.hid hr1; have hws := M.out.2.1.2; replace M := Lib.hid (M.out.below hb1); clear hb1 hr1))
  · exact HR.out _ _ (RetI.nil (by rw [FireE, HVB.out]; rfl) M.out.2.1.1)
  · exact HR.out _ _ (RetI.mk (by rw [FireE, HVB.out]; rfl) rfl HR1.out hws (Nat.le_refl _) M.out.2.1.1)

def canL (m : List Int) : List Int → Bool
  | [] => true
  | p :: ps => if gti m p.toNat < 1 then false else canL m ps
theorem canL_en {m : List Int} (hm : ∀ i, 0 ≤ gti m i) : ∀ ps : List Int, canL m ps = !ps.any fun p => decide (gti m p.toNat = 0)
  | [] => rfl
  | p :: ps => by
    have := hm p.toNat
    rw [canL, canL_en hm ps, List.any_cons]
    grind
set_option maxHeartbeats 1000000 in
theorem can_any (n : Net) (m : List Int) (t : Nat) (vt v : Value) (lo hi lo' hi' : Nat) (w : World) (hv : RdT w lo hi vt n.trans) (hm : RdI w lo' hi' v m) (ht : t < n.trans.length) (hin : ∀ k, k < (gti n.trans t).inn.length → 0 ≤ gti (gti n.trans t).inn k ∧ gti (gti n.trans t).inn k < m.length) :
    Calls Try.prog 36 #[netV n vt, v, .int .i64 t] w fun e w' => e = .returned (.bool (canL m (gti n.trans t).inn)) ∧ Below w.heap.size w w' := by
  obtain ⟨A, c, rfl, hc, hmm⟩ := hv.form
  obtain ⟨A2, c2, rfl, hc2, hmm2⟩ := hm.form
  obtain ⟨b, off, vi, vo, rfl, hbl, hbh, hcell, hri, hro⟩ := RdT.at3 hv ht
  obtain ⟨Ai, ci, rfl, hci, hmi⟩ := hri.form
  have HV := Lib.hid hv
  have HW := Lib.hid hm
  have HRI := Lib.hid hri
  have HN := Lib.hid hin
  clear hv hm hri hro hin
  generalize gti n.trans t = x at *
  refine calls_cps fun R hR => ?_
  have HR := Lib.hid hR
  clear hR
  go_enter Try.func36, Try.ntmps36
  have M : Hid (Mem [Loc.k4 w.heap.size (.int .i64 n.places) (.slice (some ⟨b, off, none⟩) n.trans.length c) (.int .i64 n.source) (.int .i64 n.sink), Loc.bl w.heap.size w] (w.alloc (.cells #[.int .i64 n.places, .slice (some ⟨b, off, none⟩) n.trans.length c, .int .i64 n.source, .int .i64 n.sink] 24))) := Lib.hid ⟨K4.new w _ _ _ _ _, ⟨(Below.refl _ _).alloc (Nat.le_refl _) _, by simp⟩, True.intro⟩
  have hk4 := M.out.1
  replace hcell := C3.aft ((Below.refl w.heap.size w).alloc (Nat.le_refl _) (.cells #[.int .i64 n.places, .slice (some ⟨b, off, none⟩) n.trans.length c, .int .i64 n.source, .int .i64 n.sink] 24)) hcell
  go_wp2_with fail
  generalize w.alloc (.cells #[.int .i64 n.places, .slice (some ⟨b, off, none⟩) n.trans.length c, .int .i64 n.source, .int .i64 n.sink] 24) = W at *
  go_loop [7] (fun v7 => ∃ k : Nat, k ≤ x.inn.length ∧ v7 = .int .i64 k ∧ Hid (canL m (x.inn.drop k) = canL m x.inn)) (fun v7 => x.inn.length - (intOf v7).toNat)
  case atStart => exact ⟨0, by omega, rfl, Lib.hid rfl⟩
  case round =>
    obtain ⟨k, hk, rfl, HI⟩ := hrel
    by_cases hlt : k < x.inn.length
    · have hpr := HN.out k hlt
      obtain ⟨bb, oo, rfl, _, _, hce⟩ := RdI.at1 (HRI.out.after M.out.2.1.1) hlt
      have HD := Lib.hid (drop_gti hlt)
      generalize gti x.inn k = p at *
      obtain ⟨kp, rfl⟩ : ∃ j : Nat, p = j := ⟨p.toNat, by omega⟩
      have hkp : kp < m.length := by omega
      clear hpr
      obtain ⟨b2, o2, rfl, _, _, hce2⟩ := RdI.at1 (HW.out.after M.out.2.1.1) hkp
      have HJ : Hid (canL m x.inn = if gti m kp < 1 then false else canL m (x.inn.drop (k + 1))) := Lib.hid (by rw [← HI.out, HD.out, canL, Int.toNat_natCast])
      generalize gti m kp = y at *
      go_wp2_with fail
      all_goals have hj := HJ.out
      all_goals first
        | ((with_reducible refine HR.out _ _ ⟨?_, ?_⟩) <;> first | exact ret_bool (by clear HJ; go_light; grind) | exact M.out.2.1.1)
        | (refine ⟨⟨k + 1, by omega, by go_num, Lib.hid (by clear HJ; go_light; grind)⟩, by simp [intOf]; omega⟩)
    · obtain rfl : k = x.inn.length := by omega
      have HE : Hid (canL m x.inn = true) := Lib.hid (by rw [← HI.out]; simp [canL])
      clear HI
      go_wp2_with fail
      all_goals ((with_reducible refine HR.out _ _ ⟨?_, ?_⟩) <;> first | exact ret_bool (by rw [HE.out]) | exact M.out.2.1.1)
end Go.Proofs.Ythdpacbjbdkemaa
end
section
namespace Go.Proofs.Ythdpacbjbdkemaa
set_option linter.unusedSimpArgs false
set_option linter.unusedVariables false
open Go.RowKit

theorem Mem.lit1 {L : List Loc} {w : World} (hM : Mem L w) (x : Int) : Mem (Loc.owI w.heap.size (w.heap.size + 1) (.slice (some ⟨w.heap.size, 0, none⟩) 1 1) [x] :: L) (w.alloc (.cells #[.int .i64 x] 3)) :=
  ⟨Own.lit w 3 w.heap.size [x] #[.int .i64 x] 1 rfl rfl (Nat.le_refl _) (by decide) (fun _ => rfl), hM.alloc _⟩
end Go.Proofs.Ythdpacbjbdkemaa
end
section
namespace Go.Proofs.Ythdpacbjbdkemaa
set_option linter.unusedSimpArgs false
set_option linter.unusedVariables false
open Go.RowKit

structure Mvx where
  fr : Int
  tt : Int
  sym : Int
instance : Inhabited Mvx := ⟨⟨0, 0, 0⟩⟩
structure Spc where
  st : List (List Int)
  mv : List Mvx
  full : Bool
def zSp : Spc := ⟨[], [], false⟩
def findI (S : List (List Int)) (m : List Int) : Int := firstAt (fun x => decide (x = m)) S
def stepS (most : Int) (i : Nat) (s : Spc) (r : List Int × Int) (t : Int) : Option Spc :=
  if r.2 ≠ 0 ∨ (findI s.st r.1 < 0 ∧ most ≤ s.st.length) then some ⟨s.st, s.mv, false⟩
  else if 20000 ≤ s.mv.length then none
  else some ⟨if findI s.st r.1 < 0 then s.st ++ [r.1] else s.st, s.mv ++ [⟨i, if findI s.st r.1 < 0 then s.st.length else findI s.st r.1, t⟩], s.full⟩
def rowS (n : Net) (most : Int) (i : Nat) (x : List Int) : List Int → Spc → Option Spc
  | [], s => some s
  | t :: ts, s => (stepS most i s (FireE n x t) t).bind (rowS n most i x ts)
def expS (n : Net) (most : Int) : Nat → Nat → Spc → Option Spc
  | 0, _, s => some s
  | f + 1, i, s => if i < s.st.length then (rowS n most i (gti s.st i) (enabledL (gti s.st i) 0 n.trans) s).bind (expS n most f (i + 1)) else some s
def explR (r : Option Spc) : Spc × Int := match r with | some s => (s, 0) | none => (zSp, 13)
def explE (n : Net) (m : List Int) (most : Int) : Spc × Int := if markB n m = true then (if most < 1 ∨ 2000 < most then (zSp, 2) else explR (expS n most (most.toNat + 1) 0 ⟨[m], [], true⟩)) else (zSp, 1)
/-! ## where a marking is -/
theorem mem_gti' {α : Type} [Inhabited α] {l : List α} {x : α} (h : x ∈ l) : ∃ k, k < l.length ∧ gti l k = x := by
  obtain ⟨k, hk, rfl⟩ := List.getElem_of_mem h
  exact ⟨k, hk, by unfold gti; rw [List.getElem?_eq_getElem hk]; rfl⟩
theorem findI_neg {S : List (List Int)} {m : List Int} : findI S m < 0 ↔ m ∉ S := by
  have h := firstAt_any (fun x => decide (x = m)) S
  unfold findI
  rw [Bool.eq_iff_iff, List.any_eq_true] at h
  simp only [decide_eq_true_eq] at h
  constructor
  · intro hn hm
    have := h.2 ⟨m, hm, rfl⟩
    omega
  · intro hm
    by_cases h0 : 0 ≤ firstAt (fun x => decide (x = m)) S
    · obtain ⟨x, hx, rfl⟩ := h.1 h0
      exact absurd hx hm
    · omega
theorem findI_pos {S : List (List Int)} {m : List Int} (h : 0 ≤ findI S m) : ∃ k : Nat, findI S m = k ∧ S[k]? = some m ∧ k < S.length := by
  unfold findI firstAt at h ⊢
  cases e : S.findIdx? (fun x => decide (x = m)) with
  | none => rw [e] at h; simp at h
  | some k =>
    refine ⟨k, rfl, ?_, ?_⟩
    · have := List.findIdx?_eq_some_iff_getElem.1 e
      obtain ⟨h1, h2, _⟩ := this
      rw [List.getElem?_eq_getElem h1]
      exact congrArg some (of_decide_eq_true h2)
    · exact (List.findIdx?_eq_some_iff_getElem.1 e).1
theorem findI_at {S : List (List Int)} {m : List Int} {k : Nat} (hk : S[k]? = some m) (hn : ∀ j, j < k → S[j]? ≠ some m) : findI S m = k :=
  firstAt_some hk (decide_eq_true rfl) (fun j a hj ha => decide_eq_false (fun e => hn j hj (by rw [ha, e])))
theorem findI_snoc_self {S : List (List Int)} {m : List Int} (h : m ∉ S) : findI (S ++ [m]) m = S.length :=
  findI_at (by simp) (fun j hj e => h (by rw [List.getElem?_append_left hj] at e; exact List.mem_of_getElem? e))
theorem findI_snoc_old {S : List (List Int)} {m x : List Int} (h : m ∈ S) : findI (S ++ [x]) m = findI S m := by
  obtain ⟨k, h1, h2, h3⟩ := findI_pos (S := S) (m := m) (by by_cases h0 : findI S m < 0; exact absurd h (findI_neg.1 h0); omega)
  unfold findI firstAt at *
  rw [List.findIdx?_append]
  cases e : S.findIdx? (fun x => decide (x = m)) with
  | none => rw [e] at h1; simp at h1
  | some k => rfl
/-! ## keys of markings -/
def keyL (m : List Int) : List UInt8 := m.flatMap fun n => [UInt8.ofNat n.toNat, 0]
theorem keyL_len (m : List Int) : (keyL m).length = 2 * m.length := by
  induction m with
  | nil => rfl
  | cons a m ih =>
    have : keyL (a :: m) = [UInt8.ofNat a.toNat, 0] ++ keyL m := rfl
    rw [this, List.length_append, ih]
    simp
    omega
theorem byte_of {n : Int} (h0 : 0 ≤ n) (h1 : n ≤ 255) : ((UInt8.ofNat n.toNat).toNat : Int) = n := by
  rw [UInt8.toNat_ofNat', Nat.mod_eq_of_lt (by omega)]
  omega
theorem keyL_inj : ∀ {a b : List Int}, (∀ x ∈ a, 0 ≤ x ∧ x ≤ 255) → (∀ x ∈ b, 0 ≤ x ∧ x ≤ 255) → keyL a = keyL b → a = b
  | [], [], _, _, _ => rfl
  | [], y :: b, _, _, h => by simp [keyL] at h
  | x :: a, [], _, _, h => by simp [keyL] at h
  | x :: a, y :: b, ha, hb, h => by
    have h1 : keyL (x :: a) = [UInt8.ofNat x.toNat, 0] ++ keyL a := rfl
    have h2 : keyL (y :: b) = [UInt8.ofNat y.toNat, 0] ++ keyL b := rfl
    rw [h1, h2] at h
    simp only [List.cons_append, List.nil_append, List.cons.injEq, true_and] at h
    have e1 := byte_of (ha x List.mem_cons_self).1 (ha x List.mem_cons_self).2
    have e2 := byte_of (hb y List.mem_cons_self).1 (hb y List.mem_cons_self).2
    rw [h.1, e2] at e1
    rw [e1, keyL_inj (fun z hz => ha z (List.mem_cons_of_mem _ hz)) (fun z hz => hb z (List.mem_cons_of_mem _ hz)) h.2]
/-! ## what holds of a space while it is made -/
theorem FireE_mark {n : Net} {m : List Int} {t : Int} (hm : markB n m = true) (h : (FireE n m t).2 = 0) : markB n (FireE n m t).1 = true := by
  unfold FireE at h ⊢
  rw [if_pos hm] at h ⊢
  exact fireE_mark hm h
theorem markB_small {n : Net} {m : List Int} (h : markB n m = true) : ∀ x ∈ m, 0 ≤ x ∧ x ≤ 255 := by
  intro x hx
  unfold markB at h
  simp only [Bool.and_eq_true] at h
  obtain ⟨k, _, rfl⟩ := mem_gti' hx
  have := mark2B_at h.2 k
  omega
theorem markB_len {n : Net} {m : List Int} (h : markB n m = true) : 1 ≤ m.length ∧ m.length ≤ 40 ∧ (m.length : Int) = n.places := by
  unfold markB at h
  simp only [Bool.and_eq_true] at h
  have := mark2B_len h.2
  have := validB_places h.1
  omega
structure SI (n : Net) (most : Int) (s : Spc) : Prop where
  marks : ∀ x ∈ s.st, markB n x = true
  nd : s.st.Nodup
  ne : 1 ≤ s.st.length
  le : (s.st.length : Int) ≤ most
  mvs : s.mv.length ≤ 20000
theorem SI.init {n : Net} {m : List Int} {most : Int} (h : markB n m = true) (h1 : ¬ most < 1) : SI n most ⟨[m], [], true⟩ :=
  ⟨fun x hx => by simp at hx; subst hx; exact h, by simp, by simp, by simp; omega, by simp⟩
theorem SI.step {n : Net} {most : Int} {s s' : Spc} {i : Nat} {x : List Int} {t : Int} (h : SI n most s) (hx : markB n x = true) (he : stepS most i s (FireE n x t) t = some s') : SI n most s' := by
  unfold stepS at he
  split at he
  · cases he; exact ⟨h.marks, h.nd, h.ne, h.le, h.mvs⟩
  · rename_i h1
    split at he
    · cases he
    · rename_i h2
      cases he
      have h0 : (FireE n x t).2 = 0 := Classical.byContradiction fun hc => h1 (.inl hc)
      by_cases hf : findI s.st (FireE n x t).1 < 0
      · simp only [if_pos hf]
        have hlt : ¬ most ≤ s.st.length := fun hc => h1 (.inr ⟨hf, hc⟩)
        refine ⟨fun y hy => ?_, ?_, by simp, by simp; omega, by simp; omega⟩
        · rcases List.mem_append.1 hy with hy | hy
          · exact h.marks y hy
          · simp at hy; subst hy; exact FireE_mark hx h0
        · refine List.nodup_append.2 ⟨h.nd, by simp, fun a ha b hb e => ?_⟩
          simp at hb
          subst hb e
          exact findI_neg.1 hf ha
      · simp only [if_neg hf]
        exact ⟨h.marks, h.nd, h.ne, h.le, by simp; omega⟩
theorem SI.gti {n : Net} {most : Int} {s : Spc} (h : SI n most s) {i : Nat} (hi : i < s.st.length) : markB n (gti s.st i) = true := h.marks _ (gti_mem hi)
end Go.Proofs.Ythdpacbjbdkemaa
end
section
namespace Go.Proofs.Ythdpacbjbdkemaa.Aw
set_option linter.unusedSimpArgs false
set_option linter.unusedVariables false
open Go.RowKit

/-- what is known of a value -/
inductive AV where
  | any
  | s (v : Value)
  | agg (cs : List AV)
  | sl (l : List AV)
  | emp
  | ref (cs : List AV)
  | own (id sz n : Nat)
  | ptr (id sz k j : Nat)
  | fn (f : FuncId) (cs : List AV)
  | tup (l : List AV)
  | mp (id : Nat)
  | sub (id sz o n : Nat)

def AV.cells : AV → List AV
  | .agg cs => cs
  | x => [x]
def AV.one : AV → Bool
  | .s v => v.oneCell'
  | .any | .agg _ | .tup _ => false
  | _ => true

/-- a map of the call's own: its types, how many entries at most, what it reads as -/
structure MapX where
  P : Program
  kt : TypeId
  el : TypeId
  n : Nat
  D : DataW Unit
def MapX.At (X : MapX) (w : World) (b : Nat) : Prop := w.ownsMap X.P X.kt (plainElem X.P X.el) b X.n X.D
theorem MapX.At.keep {X : MapX} {w w' : World} {b : Nat} (h : X.At w b) (hb : w'.heap[b]? = w.heap[b]?) : X.At w' b := by
  obtain ⟨es, clock, h1, F, hs, hD⟩ := h
  exact ⟨es, clock, hb.trans h1, F, hs, hD⟩
theorem MapX.At.map {X : MapX} {w : World} {b : Nat} (h : X.At w b) : ∃ es clock, w.heap[b]? = some (.map es clock) := by
  obtain ⟨es, clock, h1, _⟩ := h
  exact ⟨es, clock, h1⟩
theorem MapX.At.lt {X : MapX} {w : World} {b : Nat} (h : X.At w b) : b < w.heap.size := by
  obtain ⟨es, clock, h1⟩ := h.map
  exact (Array.getElem?_eq_some_iff.1 h1).1
/-- a thing of the call's own -/
inductive Ob where
  | dead
  | row (sz : Nat) (cs : List AV)
  | fz (sz : Nat) (cs : List AV)
  | mp (X : MapX)

/-- where things are -/
structure Cx where
  base : Nat
  w0 : World
  w : World
  mu : Nat → Option (Option Nat)
  St : Nat → Nat → Prop

inductive Rep (G : Cx) : Value → AV → Prop
  | any (v : Value) : Rep G v .any
  | s (v : Value) : Rep G v (.s v)
  | agg (vs : Array Value) (cs : List AV) (hl : vs.size = cs.length) (h1 : ∀ c ∈ cs, c.one = true)
      (h : ∀ (j : Nat) v c, vs[j]? = some v → cs[j]? = some c → Rep G v c) : Rep G (.agg vs) (.agg cs)
  | emp (A : Option Addr) (hA : ∀ a, A = some a → a.spot = none) : Rep G (.slice A 0 0) .emp
  | slnil (A : Option Addr) (cap : Nat) : Rep G (.slice A 0 cap) (.sl [])
  | sl (b o cap sz : Nat) (l : List AV) (val : Nat → Nat → Value) (hc : l.length ≤ cap) (hm : l.length ≤ maxLen)
      (h1 : ∀ (k : Nat) e, l[k]? = some e → e.cells.length = sz ∧ ∀ c ∈ e.cells, c.one = true)
      (h2 : ∀ (k : Nat) e (j : Nat) c, l[k]? = some e → e.cells[j]? = some c → G.St b (o + k * sz + j) ∧ G.w.cell? ⟨b, o + k * sz + j, none⟩ = some (val k j))
      (h : ∀ (k : Nat) e (j : Nat) c, l[k]? = some e → e.cells[j]? = some c → Rep G (val k j) c) : Rep G (.slice (some ⟨b, o, none⟩) l.length cap) (.sl l)
  | ref (b o : Nat) (cs : List AV) (val : Nat → Value) (h1 : ∀ c ∈ cs, c.one = true)
      (h2 : ∀ (j : Nat) c, cs[j]? = some c → G.St b (o + j) ∧ G.w.cell? ⟨b, o + j, none⟩ = some (val j))
      (h : ∀ (j : Nat) c, cs[j]? = some c → Rep G (val j) c) : Rep G (.pointer (some ⟨b, o, none⟩)) (.ref cs)
  | own0 (id sz : Nat) (A : Option Addr) (hA : ∀ a, A = some a → a.spot = none) (hm : G.mu id = some none) : Rep G (.slice A 0 0) (.own id sz 0)
  | own (id sz n b cap : Nat) (hm : G.mu id = some (some b)) (hn : n ≤ cap) (hc : cap ≤ maxLen)
      (hb : ∃ (cur : Array Value) (e : TypeId) (f : Nat × Nat), G.w.heap[b]? = some (Obj.cells cur e f) ∧ cur.size = cap * sz) : Rep G (.slice (some ⟨b, 0, none⟩) n cap) (.own id sz n)
  | ptr (id sz k j b : Nat) (hm : G.mu id = some (some b)) : Rep G (.pointer (some ⟨b, k * sz + j, none⟩)) (.ptr id sz k j)
  | fn (f : FuncId) (vs : Array Value) (cs : List AV) (hl : vs.size = cs.length) (h : ∀ (j : Nat) v c, vs[j]? = some v → cs[j]? = some c → Rep G v c) : Rep G (.func (.func f) #[] vs) (.fn f cs)
  | tup (vs : Array Value) (l : List AV) (hl : vs.size = l.length) (h : ∀ (j : Nat) v c, vs[j]? = some v → l[j]? = some c → Rep G v c) : Rep G (.tuple vs) (.tup l)
  | mp (id b : Nat) (hm : G.mu id = some (some b)) : Rep G (.map (some b)) (.mp id)
  | sub (id sz o n b cap : Nat) (A : Option Addr) (hm : G.mu id = some (some b)) (hA : 0 < n → A = some ⟨b, o * sz, none⟩)
      (hc : n ≤ cap ∧ cap ≤ maxLen ∧ ∃ (cur : Array Value) (e : TypeId) (f : Nat × Nat), G.w.heap[b]? = some (Obj.cells cur e f) ∧ (o + cap) * sz ≤ cur.size) : Rep G (.slice A n cap) (.sub id sz o n)

theorem Rep.one {G : Cx} {v : Value} {x : AV} (h : Rep G v x) (hx : x.one = true) : v.oneCell' = true := by
  cases h with
  | s => exact hx
  | any => simp [AV.one] at hx
  | agg => simp [AV.one] at hx
  | tup => simp [AV.one] at hx
  | _ => rfl

/-- rows of cells stay as long as they are -/
def RowsKept (w w' : World) : Prop := ∀ (b : Nat) (cur : Array Value) (e : TypeId) (f : Nat × Nat), w.heap[b]? = some (Obj.cells cur e f) → ∃ cur' : Array Value, w'.heap[b]? = some (Obj.cells cur' e f) ∧ cur'.size = cur.size
theorem RowsKept.refl (w : World) : RowsKept w w := fun _ cur _ _ h => ⟨cur, h, rfl⟩
theorem RowsKept.trans {a b c : World} (h : RowsKept a b) (k : RowsKept b c) : RowsKept a c := fun i cur e f x => by
  obtain ⟨c1, h1, s1⟩ := h i cur e f x
  obtain ⟨c2, h2, s2⟩ := k i c1 e f h1
  exact ⟨c2, h2, s2.trans s1⟩

/-- the world goes on: what is finished stays, what is named stays -/
structure Cx.Ext (G G' : Cx) : Prop where
  base : G'.base = G.base
  w0 : G'.w0 = G.w0
  st : ∀ b o, G.St b o → G'.St b o
  cell : ∀ b o, G.St b o → G'.w.cell? ⟨b, o, none⟩ = G.w.cell? ⟨b, o, none⟩
  mu : ∀ id x, G.mu id = some x → G'.mu id = some x
  size : G.w.heap.size ≤ G'.w.heap.size
  rows : RowsKept G.w G'.w
  stN : ∀ b o, G'.St b o → G.St b o ∨ G.base ≤ b

theorem Cx.Ext.refl (G : Cx) : G.Ext G := ⟨rfl, rfl, fun _ _ h => h, fun _ _ _ => rfl, fun _ _ h => h, Nat.le_refl _, RowsKept.refl _, fun _ _ h => .inl h⟩
theorem Cx.Ext.trans {G H K : Cx} (h : G.Ext H) (k : H.Ext K) : G.Ext K :=
  ⟨k.base.trans h.base, k.w0.trans h.w0, fun b o x => k.st b o (h.st b o x), fun b o x => (k.cell b o (h.st b o x)).trans (h.cell b o x), fun id x e => k.mu id x (h.mu id x e), Nat.le_trans h.size k.size,
    h.rows.trans k.rows, fun b o x => by
    rcases k.stN b o x with h1 | h1
    · exact h.stN b o h1
    · right; rw [← h.base]; exact h1⟩

theorem Rep.ext {G G' : Cx} {v : Value} {x : AV} (h : Rep G v x) (e : G.Ext G') : Rep G' v x := by
  induction h with
  | any v => exact .any v
  | s v => exact .s v
  | agg vs cs hl h1 _ ih => exact .agg vs cs hl h1 ih
  | emp A hA => exact .emp A hA
  | slnil A cap => exact .slnil A cap
  | sl b o cap sz l val hc hm h1 h2 _ ih => exact .sl b o cap sz l val hc hm h1 (fun k x j c hk hj => ⟨e.st _ _ (h2 k x j c hk hj).1, (e.cell _ _ (h2 k x j c hk hj).1).trans (h2 k x j c hk hj).2⟩) ih
  | ref b o cs val h1 h2 _ ih => exact .ref b o cs val h1 (fun j c hj => ⟨e.st _ _ (h2 j c hj).1, (e.cell _ _ (h2 j c hj).1).trans (h2 j c hj).2⟩) ih
  | own0 id sz A hA hm => exact .own0 id sz A hA (e.mu _ _ hm)
  | own id sz n b cap hm hn hc hb =>
    obtain ⟨cur, t, f, h1, h2⟩ := hb
    obtain ⟨cur', h3, h4⟩ := e.rows _ _ _ _ h1
    exact .own id sz n b cap (e.mu _ _ hm) hn hc ⟨cur', t, f, h3, h4.trans h2⟩
  | ptr id sz k j b hm => exact .ptr id sz k j b (e.mu _ _ hm)
  | fn f vs cs hl _ ih => exact .fn f vs cs hl ih
  | tup vs l hl _ ih => exact .tup vs l hl ih
  | mp id b hm => exact .mp id b (e.mu _ _ hm)
  | sub id sz o n b cap A hm hA hc =>
    obtain ⟨g1, g2, cur, t, f, h1, h2⟩ := hc
    obtain ⟨cur', h3, h4⟩ := e.rows _ _ _ _ h1
    exact .sub id sz o n b cap A (e.mu _ _ hm) hA ⟨g1, g2, cur', t, f, h3, by rw [h4]; exact h2⟩

/-- nothing of the call's own from id k on is named -/
inductive Lo (k : Nat) : AV → Prop
  | any : Lo k .any
  | s (v : Value) : Lo k (.s v)
  | agg (cs : List AV) (h : ∀ c ∈ cs, Lo k c) : Lo k (.agg cs)
  | emp : Lo k .emp
  | sl (l : List AV) (h : ∀ c ∈ l, Lo k c) : Lo k (.sl l)
  | ref (cs : List AV) (h : ∀ c ∈ cs, Lo k c) : Lo k (.ref cs)
  | own (id sz n : Nat) (h : id < k) : Lo k (.own id sz n)
  | ptr (id sz i j : Nat) (h : id < k) : Lo k (.ptr id sz i j)
  | fn (f : FuncId) (cs : List AV) (h : ∀ c ∈ cs, Lo k c) : Lo k (.fn f cs)
  | tup (l : List AV) (h : ∀ c ∈ l, Lo k c) : Lo k (.tup l)
  | mp (id : Nat) (h : id < k) : Lo k (.mp id)
  | sub (id sz o n : Nat) (h : id < k) : Lo k (.sub id sz o n)

theorem Lo.cells {k : Nat} {x : AV} (h : Lo k x) : ∀ c ∈ x.cells, Lo k c := by
  cases h with
  | agg cs h => exact h
  | any => intro c hc; simp [AV.cells] at hc; subst hc; exact .any
  | s v => intro c hc; simp [AV.cells] at hc; subst hc; exact .s v
  | emp => intro c hc; simp [AV.cells] at hc; subst hc; exact .emp
  | sl l h => intro c hc; simp [AV.cells] at hc; subst hc; exact .sl l h
  | ref l h => intro c hc; simp [AV.cells] at hc; subst hc; exact .ref l h
  | own id sz n h => intro c hc; simp [AV.cells] at hc; subst hc; exact .own id sz n h
  | ptr id sz i j h => intro c hc; simp [AV.cells] at hc; subst hc; exact .ptr id sz i j h
  | fn f l h => intro c hc; simp [AV.cells] at hc; subst hc; exact .fn f l h
  | tup l h => intro c hc; simp [AV.cells] at hc; subst hc; exact .tup l h
  | mp id h => intro c hc; simp [AV.cells] at hc; subst hc; exact .mp id h
  | sub id sz o n h => intro c hc; simp [AV.cells] at hc; subst hc; exact .sub id sz o n h

/-- the same without the names from k on -/
theorem Rep.low {G G' : Cx} {k : Nat} {v : Value} {x : AV} (h : Rep G v x) (hx : Lo k x) (hst : ∀ b o, G.St b o → G'.St b o) (hc : ∀ b o, G.St b o → G'.w.cell? ⟨b, o, none⟩ = G.w.cell? ⟨b, o, none⟩)
    (hmu : ∀ id y, id < k → G.mu id = some y → G'.mu id = some y) (hr : 0 < k → RowsKept G.w G'.w) : Rep G' v x := by
  induction h with
  | any v => exact .any v
  | s v => exact .s v
  | agg vs cs hl h1 _ ih => cases hx with | agg _ hx => exact .agg vs cs hl h1 (fun j v c a b => ih j v c a b (hx c (List.mem_of_getElem? b)))
  | emp A hA => exact .emp A hA
  | slnil A cap => exact .slnil A cap
  | sl b o cap sz l val hcp hm h1 h2 _ ih => cases hx with | sl _ hx => exact .sl b o cap sz l val hcp hm h1 (fun k x j c hk hj => ⟨hst _ _ (h2 k x j c hk hj).1, (hc _ _ (h2 k x j c hk hj).1).trans (h2 k x j c hk hj).2⟩) (fun k x j c hk hj => ih k x j c hk hj ((hx x (List.mem_of_getElem? hk)).cells c (List.mem_of_getElem? hj)))
  | ref b o cs val h1 h2 _ ih => cases hx with | ref _ hx => exact .ref b o cs val h1 (fun j c hj => ⟨hst _ _ (h2 j c hj).1, (hc _ _ (h2 j c hj).1).trans (h2 j c hj).2⟩) (fun j c hj => ih j c hj (hx c (List.mem_of_getElem? hj)))
  | own0 id sz A hA hm => cases hx with | own _ _ _ hx => exact .own0 id sz A hA (hmu _ _ hx hm)
  | own id sz n b cap hm hn hcp hb =>
    cases hx with
    | own _ _ _ hx =>
      obtain ⟨cur, t, f, h1, h2⟩ := hb
      obtain ⟨cur', h3, h4⟩ := hr (by omega) _ _ _ _ h1
      exact .own id sz n b cap (hmu _ _ hx hm) hn hcp ⟨cur', t, f, h3, h4.trans h2⟩
  | ptr id sz i j b hm => cases hx with | ptr _ _ _ _ hx => exact .ptr id sz i j b (hmu _ _ hx hm)
  | fn f vs cs hl _ ih => cases hx with | fn _ _ hx => exact .fn f vs cs hl (fun j v c a b => ih j v c a b (hx c (List.mem_of_getElem? b)))
  | tup vs l hl _ ih => cases hx with | tup _ hx => exact .tup vs l hl (fun j v c a b => ih j v c a b (hx c (List.mem_of_getElem? b)))
  | mp id b hm => cases hx with | mp _ hx => exact .mp id b (hmu _ _ hx hm)
  | sub id sz o n b cap A hm hA hc =>
    cases hx with
    | sub _ _ _ _ hx =>
      obtain ⟨g1, g2, cur, t, f, h1, h2⟩ := hc
      obtain ⟨cur', h3, h4⟩ := hr (by omega) _ _ _ _ h1
      exact .sub id sz o n b cap A (hmu _ _ hx hm) hA ⟨g1, g2, cur', t, f, h3, by rw [h4]; exact h2⟩

/-- block b holds these elements, in cells that may be written -/
def RowAt (G : Cx) (b sz : Nat) (cs : List AV) (f : Nat × Nat → Prop) : Prop :=
  ∃ (cur : Array Value) (e : TypeId) (fr : Nat × Nat), G.w.heap[b]? = some (Obj.cells cur e fr) ∧ f fr ∧ cs.length * sz ≤ cur.size ∧
    ∀ (k : Nat) e, cs[k]? = some e → e.cells.length = sz ∧ (∀ c ∈ e.cells, c.one = true) ∧ ∀ (j : Nat) c, e.cells[j]? = some c → ∃ v, cur[k * sz + j]? = some v ∧ Rep G v c

def ObOk (G : Cx) (id : Nat) : Ob → Prop
  | .dead => ∀ b, G.mu id = some (some b) → b < G.w.heap.size
  | .row sz cs => match G.mu id with
    | none => False
    | some none => cs = []
    | some (some b) => RowAt G b sz cs (· = (0, 0)) ∧ G.base ≤ b ∧ ∀ o, ¬ G.St b o
  | .fz sz cs => match G.mu id with
    | none => False
    | some none => cs = []
    | some (some b) => RowAt G b sz cs (fun _ => True) ∧ ∀ (k : Nat) e (j : Nat), cs[k]? = some e → j < e.cells.length → G.St b (k * sz + j)
  | .mp X => ∃ b, G.mu id = some (some b) ∧ X.At G.w b ∧ G.base ≤ b ∧ (∀ o, ¬ G.St b o) ∧ ∀ j, G.mu j = some (some b) → j = id

theorem ObOk.lt {G : Cx} {id b : Nat} {ob : Ob} (h : ObOk G id ob) (hm : G.mu id = some (some b)) : b < G.w.heap.size := by
  cases ob with
  | dead => exact h b hm
  | row sz cs =>
    simp only [ObOk, hm] at h
    obtain ⟨⟨cur, e, fr, h1, _⟩, _⟩ := h
    exact (Array.getElem?_eq_some_iff.1 h1).1
  | fz sz cs =>
    simp only [ObOk, hm] at h
    obtain ⟨⟨cur, e, fr, h1, _⟩, _⟩ := h
    exact (Array.getElem?_eq_some_iff.1 h1).1
  | mp X =>
    obtain ⟨b', h1, h2, _⟩ := h
    rw [hm] at h1
    cases h1
    exact h2.lt

def alive (σ : List Ob) (i : Nat) : Prop := ∃ sz cs, σ[i]? = some (.row sz cs)

structure Rel (G : Cx) (σ : List Ob) : Prop where
  below : Below G.base G.w0 G.w
  le : G.base ≤ G.w0.heap.size
  st : ∀ b o, G.St b o → b < G.w.heap.size
  obs : ∀ id ob, σ[id]? = some ob → ObOk G id ob
  inj : ∀ i j b, alive σ i → alive σ j → G.mu i = some (some b) → G.mu j = some (some b) → i = j
  fresh : ∀ id, σ.length ≤ id → G.mu id = none

abbrev Frm := List (Nat × AV)
def Frm.get : Frm → Nat → AV
  | [], _ => .any
  | (d, x) :: F, t => bif Nat.beq d t then x else Frm.get F t
def ofValue : Value → AV
  | .agg cs => bif cs.toList.all (·.oneCell') then .agg (cs.toList.map .s) else .any
  | v => .s v
def Frm.eval (F : Frm) : Operand → AV
  | .tmp t => F.get t
  | .const v => ofValue v
  | .global _ => .any
  | .func f => .fn f []

def FOk (G : Cx) (a : Act) (F : Frm) : Prop := ∀ d, Rep G (a.tmps.getD d undef) (F.get d)

structure S8 (N : Nat) (G : Cx) (a : Act) (F : Frm) (σ : List Ob) : Prop where
  rel : Rel G σ
  fr : FOk G a F
  df : a.defers = []
  nt : a.tmps.size = N

/-- from the call's beginning on -/
structure Cx.Step (G G' : Cx) : Prop where
  base : G'.base = G.base
  w0 : G'.w0 = G.w0
  st : ∀ b o, G.St b o → G'.St b o
  cell : ∀ b o, G.St b o → G'.w.cell? ⟨b, o, none⟩ = G.w.cell? ⟨b, o, none⟩
  stN : ∀ b o, G'.St b o → G.St b o ∨ G.base ≤ b
theorem Cx.Step.refl (G : Cx) : G.Step G := ⟨rfl, rfl, fun _ _ h => h, fun _ _ _ => rfl, fun _ _ h => .inl h⟩
theorem Cx.Step.trans {G H K : Cx} (h : G.Step H) (k : H.Step K) : G.Step K :=
  ⟨k.base.trans h.base, k.w0.trans h.w0, fun b o x => k.st b o (h.st b o x), fun b o x => (k.cell b o (h.st b o x)).trans (h.cell b o x), fun b o x => by
    rcases k.stN b o x with h1 | h1
    · exact h.stN b o h1
    · right; rw [← h.base]; exact h1⟩

theorem Cx.Ext.step {G G' : Cx} (e : G.Ext G') : G.Step G' := ⟨e.base, e.w0, e.st, e.cell, e.stN⟩

theorem rep_const (G : Cx) (v : Value) : Rep G v (ofValue v) := by
  cases v with
  | agg cs =>
    simp only [ofValue]
    cases h1 : cs.toList.all (·.oneCell') with
    | false => exact .any _
    | true =>
      refine .agg _ _ (by simp) (fun c hc => ?_) (fun j v c hv hc => ?_)
      · obtain ⟨u, hu, rfl⟩ := List.mem_map.1 hc
        exact List.all_eq_true.1 h1 u hu
      · simp only [List.getElem?_map, Array.getElem?_toList, hv, Option.map_some, Option.some.injEq] at hc
        subst hc; exact .s _
  | _ => exact .s _

theorem rep_eval {G : Cx} {a : Act} {F : Frm} (h : FOk G a F) (y : Operand) : Rep G (a.eval y) (F.eval y) := by
  cases y with
  | tmp t => exact h t
  | const v => exact rep_const G v
  | global g => exact .any _
  | func f => exact .fn f #[] [] rfl (fun j v c hv hc => by simp at hc)

theorem FOk.ext {G G' : Cx} {a : Act} {F : Frm} (h : FOk G a F) (e : G.Ext G') : FOk G' a F := fun d => (h d).ext e
theorem FOk.put {G : Cx} {a : Act} {F : Frm} {d : Nat} {v : Value} {x : AV} (h : FOk G a F) (hd : d < a.tmps.size) (hv : Rep G v x) : FOk G (a.put (some d) v) ((d, x) :: F) := by
  intro t
  by_cases e : d = t
  · subst e
    simpa [Act.put, Frm.get, Array.getD_eq_getD_getElem?, hd] using hv
  · have hb : Nat.beq d t = false := by
      cases hh : Nat.beq d t with
      | false => rfl
      | true => exact absurd (Nat.eq_of_beq_eq_true hh) e
    simpa [Act.put, Frm.get, Array.getD_eq_getD_getElem?, hb, Array.getElem?_setIfInBounds, e] using h t
end Go.Proofs.Ythdpacbjbdkemaa.Aw
end
section
namespace Go.Proofs.Ythdpacbjbdkemaa
set_option linter.unusedSimpArgs false
set_option linter.unusedVariables false
open Go.RowKit

section
variable {P : Program} {pre : List Oper} {last : Oper} {Q : Exit → Act → World → Prop} {S : World → Prop}

end
end Go.Proofs.Ythdpacbjbdkemaa
end
section
namespace Go.Proofs.Ythdpacbjbdkemaa.Aw
set_option linter.unusedSimpArgs false
set_option linter.unusedVariables false
open Go.RowKit

def lift (N : Nat) (G : Cx) (Q : Exit → Frm → List Ob → Prop) : Exit → Act → World → Prop :=
  fun e a' w' => ∃ G' F' σ', G'.w = w' ∧ G.Step G' ∧ S8 N G' a' F' σ' ∧ Q e F' σ'
theorem lift_mono {N : Nat} {G G1 : Cx} (h : G.Step G1) {Q Q' : Exit → Frm → List Ob → Prop} (hq : ∀ e F σ, Q e F σ → Q' e F σ) {e : Exit} {a : Act} {w : World} (x : lift N G1 Q e a w) : lift N G Q' e a w := by
  obtain ⟨G', F', σ', h1, h2, h3, h4⟩ := x
  exact ⟨G', F', σ', h1, h.trans h2, h3, hq _ _ _ h4⟩

def AWp (P : Program) (N : Nat) (c : Code) (F : Frm) (σ : List Ob) (Q : Exit → Frm → List Ob → Prop) : Prop :=
  ∀ G a, S8 N G a F σ → c.wp P (lift N G Q) a G.w
def AOps (P : Program) (N : Nat) (ops : Array Oper) (l : List Oper) (F : Frm) (σ : List Ob) (Q : Exit → Frm → List Ob → Prop) : Prop :=
  ∀ G a, S8 N G a F σ → wpList P ops (lift N G Q) l a G.w
def AThen (next : Frm → List Ob → Prop) (Q : Exit → Frm → List Ob → Prop) : Exit → Frm → List Ob → Prop
  | .normal, F, σ => next F σ
  | e, F, σ => Q e F σ
def ABlk (id : Nat) (Q : Exit → Frm → List Ob → Prop) : Exit → Frm → List Ob → Prop
  | .exit id', F, σ => if id' = id then Q .normal F σ else Q (.exit id') F σ
  | e, F, σ => Q e F σ

theorem upon_mono {P : Program} {o : Oper} {a : Act} {K K' : Act → World → Prop} {Q Q' : Exit → Act → World → Prop} (hK : ∀ a w, K a w → K' a w) (hQ : ∀ e a w, Q e a w → Q' e a w) {r : Result Next} (h : o.upon P a K Q r) : o.upon P a K' Q' r := by
  have hout : LetsOut Q → LetsOut Q' := fun ⟨a, w, q⟩ => ⟨a, w, hQ _ _ _ q⟩
  cases r with
  | ok n w =>
    cases n <;> simp only [Oper.upon] at h ⊢ <;>
      first
        | exact hK _ _ h
        | exact h.elim
        | exact Calls.mono h (fun e w'' he => by cases e <;> first | exact hK _ _ he | exact hQ _ _ _ he | exact hout he)
        | exact Rows.mono h (fun v w he => hK _ _ he)
  | halt x w => cases x <;> simp only [Oper.upon] at h ⊢ <;> first | exact hQ _ _ _ h | exact h.elim
theorem wpList_mono {P : Program} {ops : Array Oper} {Q Q' : Exit → Act → World → Prop} (hQ : ∀ e a w, Q e a w → Q' e a w) : ∀ (l : List Oper) (a : Act) (w : World), wpList P ops Q l a w → wpList P ops Q' l a w
  | [], a, w, h => hQ _ _ _ h
  | o :: l, a, w, h => by
    unfold wpList at h ⊢
    split
    · rename_i hw
      rw [if_pos hw] at h
      rcases h with h | ⟨h1, a0, w0, h2⟩
      · exact .inl (upon_mono (fun a w x => wpList_mono hQ l a w x) hQ h)
      · exact .inr ⟨h1, a0, w0, hQ _ _ _ h2⟩
    · rename_i hw
      rw [if_neg hw] at h
      exact wpList_mono hQ l _ w h

section
variable {P : Program} {N : Nat} {F : Frm} {σ : List Ob} {Q : Exit → Frm → List Ob → Prop}

theorem aw_seq {x y : Code} (h : AWp P N x F σ (AThen (fun F σ => AWp P N y F σ Q) Q)) : AWp P N (.seq x y) F σ Q := fun G a hs => by
  refine wp_seq (Code.wp_mono (fun e a1 w1 q => ?_) (h G a hs))
  obtain ⟨G', F', σ', rfl, h2, h3, h4⟩ := q
  cases e with
  | normal => exact Code.wp_mono (fun e a w q => lift_mono h2 (fun _ _ _ x => x) q) (h4 G' a1 h3)
  | _ => exact ⟨G', F', σ', rfl, h2, h3, h4⟩
theorem aw_skip (h : Q .normal F σ) : AWp P N .skip F σ Q := fun G a hs => wp_skip ⟨G, F, σ, rfl, .refl G, hs, h⟩
theorem aw_exit {id : Nat} (h : Q (.exit id) F σ) : AWp P N (.exit id) F σ Q := fun G a hs => wp_exit ⟨G, F, σ, rfl, .refl G, hs, h⟩
theorem aw_ret (h : Q .ret F σ) : AWp P N .ret F σ Q := fun G a hs => wp_ret ⟨G, F, σ, rfl, .refl G, hs, h⟩
theorem aw_block {id : Nat} {c : Code} (h : AWp P N c F σ (ABlk id Q)) : AWp P N (.block id c) F σ Q := fun G a hs => by
  refine wp_block (Code.wp_mono (fun e a1 w1 q => ?_) (h G a hs))
  obtain ⟨G', F', σ', rfl, h2, h3, h4⟩ := q
  cases e with
  | exit id' =>
    simp only [ABlk] at h4
    simp only [Exit.inBlock]
    split
    · rename_i e; rw [if_pos e] at h4; exact ⟨G', F', σ', rfl, h2, h3, h4⟩
    · rename_i e; rw [if_neg e] at h4; exact ⟨G', F', σ', rfl, h2, h3, h4⟩
  | _ => exact ⟨G', F', σ', rfl, h2, h3, h4⟩
theorem rep_bool {G : Cx} {a : Act} {y : Operand} {b : Bool} (hf : FOk G a F) (h : F.eval y = .s (.bool b)) : a.eval y = .bool b := by
  have := rep_eval hf y
  rw [h] at this
  generalize a.eval y = v at *
  cases this; rfl
theorem aw_cond {c : Operand} {x y : Code} {b : Bool} (hc : F.eval c = .s (.bool b)) (ht : b = true → AWp P N x F σ Q) (hf : b = false → AWp P N y F σ Q) : AWp P N (.cond c x y) F σ Q := fun G a hs =>
  wp_cond_split (rep_bool hs.fr hc) (fun e => ht e G a hs) (fun e => hf e G a hs)
theorem aw_if {c : Operand} {x y : Code} {p : Prop} [Decidable p] (hc : F.eval c = .s (.bool (decide p))) (ht : p → AWp P N x F σ Q) (hf : ¬ p → AWp P N y F σ Q) : AWp P N (.cond c x y) F σ Q :=
  aw_cond hc (fun e => ht (of_decide_eq_true e)) (fun e => hf (of_decide_eq_false e))
theorem aw_true {c : Operand} {x y : Code} (hc : F.eval c = .s (.bool true)) (ht : AWp P N x F σ Q) : AWp P N (.cond c x y) F σ Q := aw_cond hc (fun _ => ht) (fun e => by cases e)
theorem aw_false {c : Operand} {x y : Code} (hc : F.eval c = .s (.bool false)) (ht : AWp P N y F σ Q) : AWp P N (.cond c x y) F σ Q := aw_cond hc (fun e => by cases e) (fun _ => ht)
theorem aw_loop {c : Code} (I : Nat → Frm → List Ob → Prop) (m : Nat) (h0 : I m F σ)
    (round : ∀ m F σ, I m F σ → AWp P N c F σ (AThen (fun F' σ' => ∃ m', m' < m ∧ I m' F' σ') Q)) : AWp P N (.loop c) F σ Q := fun G a hs => by
  refine wp_loop_ghost (fun n a w => ∃ G' F' σ', G'.w = w ∧ G.Step G' ∧ S8 N G' a F' σ' ∧ I n F' σ') m ⟨G, F, σ, rfl, .refl G, hs, h0⟩ ?_
  rintro n a w ⟨G', F', σ', rfl, h2, h3, h4⟩
  refine Code.wp_mono (fun e a1 w1 q => ?_) (round n F' σ' h4 G' a h3)
  obtain ⟨G2, F2, σ2, rfl, h5, h6, h7⟩ := q
  cases e with
  | normal => obtain ⟨m', hm, hi⟩ := h7; exact ⟨m', hm, ⟨G2, F2, σ2, rfl, h2.trans h5, h6, hi⟩⟩
  | _ => exact ⟨G2, F2, σ2, rfl, h2.trans h5, h6, h7⟩

theorem aw_region {id : Nat} {l : List Oper} (h : AOps P N l.toArray l F σ Q) : AWp P N (.region id l.toArray false) F σ Q := fun G a hs => wp_region_lit (h G a hs)
theorem aw_mono {c : Code} {Q' : Exit → Frm → List Ob → Prop} (h : AWp P N c F σ Q) (hq : ∀ e F σ, Q e F σ → Q' e F σ) : AWp P N c F σ Q' := fun G a hs =>
  Code.wp_mono (fun e a w q => lift_mono (.refl G) hq q) (h G a hs)

/-- the same state, known less -/
def Weak (N : Nat) (F : Frm) (σ : List Ob) (F' : Frm) (σ' : List Ob) : Prop := ∀ G a, S8 N G a F σ → ∃ G', G'.w = G.w ∧ G.Step G' ∧ S8 N G' a F' σ'
theorem Weak.refl : Weak N F σ F σ := fun G a h => ⟨G, rfl, .refl G, h⟩
theorem Weak.trans {F1 F2 : Frm} {σ1 σ2 : List Ob} (h : Weak N F σ F1 σ1) (k : Weak N F1 σ1 F2 σ2) : Weak N F σ F2 σ2 := fun G a hs => by
  obtain ⟨G1, e1, s1, h1⟩ := h G a hs
  obtain ⟨G2, e2, s2, h2⟩ := k G1 a h1
  exact ⟨G2, e2.trans e1, s1.trans s2, h2⟩
theorem aw_weak {c : Code} {F' : Frm} {σ' : List Ob} (w : Weak N F σ F' σ') (h : AWp P N c F' σ' Q) : AWp P N c F σ Q := fun G a hs => by
  obtain ⟨G1, e1, s1, h1⟩ := w G a hs
  rw [← e1]
  exact Code.wp_mono (fun e a w q => lift_mono s1 (fun _ _ _ x => x) q) (h G1 a h1)
theorem aops_weak {ops : Array Oper} {l : List Oper} {F' : Frm} {σ' : List Ob} (w : Weak N F σ F' σ') (h : AOps P N ops l F' σ' Q) : AOps P N ops l F σ Q := fun G a hs => by
  obtain ⟨G1, e1, s1, h1⟩ := w G a hs
  rw [← e1]
  exact wpList_mono (fun e a w q => lift_mono s1 (fun _ _ _ x => x) q) _ _ _ (h G1 a h1)
end

/-- what an operation does: its value, and what becomes of the call's own things -/
def Does (P : Program) (o : Oper) (F : Frm) (σ : List Ob) (x : AV) (σ' : List Ob) : Prop :=
  ∀ (G : Cx) (a : Act) (next : Act → World → Prop) (Q : Exit → Act → World → Prop), Rel G σ → (∀ y ∈ o.op.operands, Rep G (a.eval y) (F.eval y)) →
    (∀ v G', G.Ext G' → Rel G' σ' → Rep G' v x → next (a.put o.dst v) G'.w) → o.wp P a G.w next Q

theorem S8.step {N : Nat} {G G' : Cx} {a : Act} {F : Frm} {σ σ' : List Ob} (h : S8 N G a F σ) (e : G.Ext G') (r : Rel G' σ') : S8 N G' a F σ' := ⟨r, h.fr.ext e, h.df, h.nt⟩
theorem S8.put {N : Nat} {G : Cx} {a : Act} {F : Frm} {σ : List Ob} {d : Nat} {v : Value} {x : AV} (h : S8 N G a F σ) (hd : d < N) (hv : Rep G v x) : S8 N G (a.put (some d) v) ((d, x) :: F) σ :=
  ⟨h.rel, h.fr.put (by rw [h.nt]; exact hd) hv, h.df, by simp [Act.put, h.nt]⟩

/-- whether the guard lets it run -/
def Runs (ops : Array Oper) (F : Frm) (o : Oper) (b : Bool) : Prop :=
  match o.guard with
  | none => b = true
  | some (j, want) => ∃ t, (ops[j]?).bind (·.dst) = some t ∧ ((∃ c, F.get t = .s (.bool c) ∧ b = (c == want)) ∨ (F.get t = .s undef ∧ b = false))
theorem runs_none {ops : Array Oper} {F : Frm} {o : Oper} (h : o.guard = none) : Runs ops F o true := by simp [Runs, h]
theorem runs_some {ops : Array Oper} {F : Frm} {o : Oper} {j : Nat} {want c : Bool} {t : Nat} (h : o.guard = some (j, want)) (hd : (ops[j]?).bind (·.dst) = some t) (hc : F.get t = .s (.bool c)) : Runs ops F o (c == want) := by
  simp only [Runs, h]
  exact ⟨t, hd, .inl ⟨c, hc, rfl⟩⟩
theorem runs_nu {ops : Array Oper} {F : Frm} {o : Oper} {j : Nat} {want : Bool} {t : Nat} (h : o.guard = some (j, want)) (hd : (ops[j]?).bind (·.dst) = some t) (hc : F.get t = .s undef) : Runs ops F o false := by
  simp only [Runs, h]
  exact ⟨t, hd, .inr ⟨hc, trivial⟩⟩
theorem Runs.wanted {ops : Array Oper} {F : Frm} {o : Oper} {b : Bool} {G : Cx} {a : Act} (h : Runs ops F o b) (hf : FOk G a F) : Region.wanted o (yielded ops a.tmps) = b := by
  unfold Runs at h
  unfold Region.wanted
  cases hg : o.guard with
  | none => rw [hg] at h; exact h.symm
  | some jb =>
    obtain ⟨j, want⟩ := jb
    rw [hg] at h
    obtain ⟨t, h1, ⟨c, h2, rfl⟩ | ⟨h2, rfl⟩⟩ := h
    case inr =>
      simp only
      have h3 := hf t
      rw [h2] at h3
      have h5 : a.tmps.getD t undef = undef := by generalize a.tmps.getD t undef = v at *; cases h3; rfl
      rw [Array.getD_eq_getD_getElem?] at h5
      cases h6 : a.tmps[t]? with
      | none => simp [yielded, h1, h6]
      | some u =>
        rw [h6] at h5
        simp only [Option.getD_some] at h5
        subst h5
        simp [yielded, h1, h6, undef]
    simp only
    have h3 := hf t
    rw [h2] at h3
    have h4 : a.tmps[t]? = some (.bool c) := by
      have h5 : a.tmps.getD t undef = .bool c := by generalize a.tmps.getD t undef = v at *; cases h3; rfl
      rw [Array.getD_eq_getD_getElem?] at h5
      cases h6 : a.tmps[t]? with
      | none => rw [h6] at h5; simp [undef] at h5
      | some u => rw [h6] at h5; simpa using h5
    simp [yielded, h1, h4]

section
variable {P : Program} {N : Nat} {F : Frm} {σ σ' : List Ob} {Q : Exit → Frm → List Ob → Prop} {ops : Array Oper} {o : Oper} {l : List Oper} {x : AV}

theorem ops_nil (h : Q .normal F σ) : AOps P N ops [] F σ Q := fun G a hs => ⟨G, F, σ, rfl, .refl G, hs, h⟩
theorem ops_op {d : Nat} (hd : o.dst = some d) (hN : Nat.blt d N = true) (hr : Runs ops F o true) (hD : Does P o F σ x σ') (k : AOps P N ops l ((d, x) :: F) σ' Q) : AOps P N ops (o :: l) F σ Q := fun G a hs => by
  unfold wpList
  rw [if_pos (hr.wanted hs.fr)]
  left
  refine hD G a _ _ hs.rel (fun y _ => rep_eval hs.fr y) (fun v G' e r hv => ?_)
  rw [hd]
  exact wpList_mono (fun e' a w q => lift_mono e.step (fun _ _ _ x => x) q) _ _ _ (k G' _ ((hs.step e r).put (by simpa [Nat.blt_eq] using hN) hv))
theorem ops_eff (hd : o.dst = none) (hr : Runs ops F o true) (hD : Does P o F σ x σ') (k : AOps P N ops l F σ' Q) : AOps P N ops (o :: l) F σ Q := fun G a hs => by
  unfold wpList
  rw [if_pos (hr.wanted hs.fr)]
  left
  refine hD G a _ _ hs.rel (fun y _ => rep_eval hs.fr y) (fun v G' e r hv => ?_)
  rw [hd]
  exact wpList_mono (fun e' a w q => lift_mono e.step (fun _ _ _ x => x) q) _ _ _ (k G' _ (hs.step e r))
theorem ops_skip {d : Nat} (hd : o.dst = some d) (hN : Nat.blt d N = true) (hr : Runs ops F o false) (k : AOps P N ops l ((d, .s undef) :: F) σ Q) : AOps P N ops (o :: l) F σ Q := fun G a hs => by
  unfold wpList
  rw [if_neg (by rw [hr.wanted hs.fr]; simp)]
  rw [hd]
  exact k G _ (hs.put (by simpa [Nat.blt_eq] using hN) (.s _))
end
end Go.Proofs.Ythdpacbjbdkemaa.Aw
end
section
namespace Go.Proofs.Ythdpacbjbdkemaa.Aw
set_option linter.unusedSimpArgs false
set_option linter.unusedVariables false
open Go.RowKit

def tyInfo (P : Program) (t : TypeId) : Option (Option Value × Nat × Nat) := (P.info? t).map fun i => (i.zero, i.size, i.bytes)
def tyAgg (P : Program) (t : TypeId) : Option Bool := (P.underlying t).map fun d => match d with | .struct _ => true | .array _ _ => true | _ => false
def tySlice (P : Program) (t : TypeId) : Option TypeId := match P.underlying t with | some (.slice e) => some e | _ => none
/-- a field's place, type and size -/
def tyField (P : Program) (t : TypeId) (f : Nat) : Option (Nat × TypeId × Option Nat) := match P.underlying t with
  | some (.struct fs) => (fs[f]?).map fun x => (x.offset, x.type, (P.info? x.type).map (·.size))
  | _ => none
theorem info_of {P : Program} {t : TypeId} {z : Option Value} {n b : Nat} (h : tyInfo P t = some (z, n, b)) : ∃ i, P.info? t = some i ∧ i.zero = z ∧ i.size = n ∧ i.bytes = b := by
  unfold tyInfo at h
  cases hi : P.info? t with
  | none => rw [hi] at h; cases h
  | some i => rw [hi] at h; simp only [Option.map_some, Option.some.injEq, Prod.mk.injEq] at h; exact ⟨i, rfl, h.1, h.2.1, h.2.2⟩
theorem slice_of {P : Program} {t e : TypeId} (h : tySlice P t = some e) : P.underlying t = some (.slice e) := by
  unfold tySlice at h
  split at h
  · rename_i e' h1; cases h; exact h1
  · cases h
theorem field_of {P : Program} {t : TypeId} {f off : Nat} {ft : TypeId} {n : Option Nat} (h : tyField P t f = some (off, ft, n)) :
    ∃ fs x, P.underlying t = some (.struct fs) ∧ fs[f]? = some x ∧ x.offset = off ∧ x.type = ft ∧ (P.info? ft).map (·.size) = n := by
  unfold tyField at h
  split at h
  · rename_i fs h1
    cases hx : fs[f]? with
    | none => rw [hx] at h; cases h
    | some x => rw [hx] at h; simp only [Option.map_some, Option.some.injEq, Prod.mk.injEq] at h; exact ⟨fs, x, h1, hx, h.1, h.2.1, by rw [← h.2.1]; exact h.2.2⟩
  · cases h
theorem run_sizeOf {P : Program} {t : TypeId} {z : Option Value} {n b : Nat} (h : tyInfo P t = some (z, n, b)) (w : World) : (sizeOf t).run P w = .ok n w := by
  obtain ⟨i, h1, _, h2, _⟩ := info_of h
  simp [sizeOf, typeInfo, h1, h2]
theorem run_isAgg {P : Program} {t : TypeId} {b : Bool} (h : tyAgg P t = some b) (w : World) : (isAgg t).run P w = .ok b w := by
  unfold tyAgg at h
  cases hd : P.underlying t with
  | none => rw [hd] at h; cases h
  | some d =>
    rw [hd] at h
    simp only [Option.map_some, Option.some.injEq] at h
    cases d <;> simp_all [isAgg, run_underlying hd]

theorem rep_s {G : Cx} {v u : Value} (h : Rep G v (.s u)) : v = u := by cases h; rfl

section
variable {P : Program} {o : Oper} {F : Frm} {σ : List Ob}

theorem does_val {x : AV} (h : ∀ (G : Cx) (ρ : Operand → Value), Rel G σ → (∀ y ∈ o.op.operands, Rep G (ρ y) (F.eval y)) → ∃ v, (execOp ρ o).run P G.w = .ok (.value v) G.w ∧ Rep G v x) : Does P o F σ x σ := by
  intro G a next Q hr ho hn
  obtain ⟨v, h1, h2⟩ := h G a.eval hr ho
  unfold Oper.wp
  rw [h1]
  exact hn v G (.refl G) hr h2

theorem does_move {y : Operand} {x : AV} (ho : o.op = .move y) (hx : F.eval y = x) : Does P o F σ x σ :=
  does_val fun G ρ hr hop => ⟨ρ y, by simp [execOp, ho], hx ▸ hop y (by simp [ho, Op.operands])⟩
theorem does_assign {y : Operand} {x : AV} (ho : o.op = .assign y) (hx : F.eval y = x) : Does P o F σ x σ :=
  does_val fun G ρ hr hop => ⟨ρ y, by simp [execOp, ho], hx ▸ hop y (by simp [ho, Op.operands])⟩
theorem does_pick {c x y : Operand} {b : Bool} (ho : o.op = .pick c x y) (hc : F.eval c = .s (.bool b)) : Does P o F σ (bif b then F.eval x else F.eval y) σ :=
  does_val fun G ρ hr hop => by
    have h1 := hop c (by simp [ho, Op.operands])
    rw [hc] at h1
    have h2 := rep_s h1
    refine ⟨if b then ρ x else ρ y, by simp [execOp, ho, h2, asBool], ?_⟩
    cases b
    · exact hop y (by simp [ho, Op.operands])
    · exact hop x (by simp [ho, Op.operands])

/-- a move of a value whose form is known -/
def Mv (o : Oper) (y : Operand) : Prop := o.op = .move y ∨ o.op = .assign y
theorem does_mv {y : Operand} {x : AV} (ho : Mv o y) (hx : F.eval y = x) : Does P o F σ x σ := by
  rcases ho with h | h
  · exact does_move h hx
  · exact does_assign h hx
section
variable {y : Operand} (ho : Mv o y)
include ho
theorem mv_s {v : Value} (hx : F.eval y = .s v) : Does P o F σ (.s v) σ := does_mv ho hx
theorem mv_sl {l : List AV} (hx : F.eval y = .sl l) : Does P o F σ (.sl l) σ := does_mv ho hx
theorem mv_tup {l : List AV} (hx : F.eval y = .tup l) : Does P o F σ (.tup l) σ := does_mv ho hx
theorem mv_ref {l : List AV} (hx : F.eval y = .ref l) : Does P o F σ (.ref l) σ := does_mv ho hx
theorem mv_emp (hx : F.eval y = .emp) : Does P o F σ .emp σ := does_mv ho hx
theorem mv_sub {a b c d : Nat} (hx : F.eval y = .sub a b c d) : Does P o F σ (.sub a b c d) σ := does_mv ho hx
theorem mv_own {a b c : Nat} (hx : F.eval y = .own a b c) : Does P o F σ (.own a b c) σ := does_mv ho hx
theorem mv_ptr {a b c d : Nat} (hx : F.eval y = .ptr a b c d) : Does P o F σ (.ptr a b c d) σ := does_mv ho hx
theorem mv_fn {f : FuncId} {l : List AV} (hx : F.eval y = .fn f l) : Does P o F σ (.fn f l) σ := does_mv ho hx
end
theorem get_here {d : Nat} {x : AV} {F : Frm} : Frm.get ((d, x) :: F) d = x := by simp [Frm.get]
theorem evc_nil {F : Frm} {caps : List AV} : List.map F.eval [] ++ caps = caps := rfl
theorem evc_cons {F : Frm} {y : Operand} {l : List Operand} {x : AV} {caps xs : List AV} (h : F.eval y = x) (t : l.map F.eval ++ caps = xs) : (y :: l).map F.eval ++ caps = x :: xs := by rw [List.map_cons, h, List.cons_append, t]
/-- a test or a sum of two finished values -/
theorem does_bin {b : BinOp} {t t' : TypeId} {x y : Operand} {u v r : Value} (ho : o.op = .binOp b t x y t') (hx : F.eval x = .s u) (hy : F.eval y = .s v)
    (h : ∀ w, (do eqGuard b t x y u v; binOp b t u v : Sem Value).run P w = .ok r w) : Does P o F σ (.s r) σ :=
  does_val fun G ρ hr hop => by
    have h1 := hop x (by simp [ho, Op.operands])
    have h2 := hop y (by simp [ho, Op.operands])
    rw [hx] at h1
    rw [hy] at h2
    refine ⟨r, ?_, .s r⟩
    have h3 := h G.w
    simp only [execOp, ho, rep_s h1, rep_s h2, Sem.run_bind] at h3 ⊢
    rw [h3]
    rfl

theorem run_intBin {b : BinOp} {t : TypeId} {x y : Operand} {k : IntKind} {m n : Int} {r : Value} (w : World) (hb : b ≠ .shl ∧ b ≠ .shr) (h : (match b with
    | .add | .sub | .mul => Op.intArith b k m n
    | .quo | .rem => Op.intDiv b k m n
    | .and | .or | .xor | .andNot => Op.intBits b k m n
    | _ => Op.intCmp b m n : Sem Value).run P w = .ok r w) : (do eqGuard b t x y (.int k m) (.int k n); binOp b t (.int k m) (.int k n) : Sem Value).run P w = .ok r w := by
  have h1 : (eqGuard b t x y (.int k m) (.int k n)).run P w = .ok () w := by
    unfold eqGuard
    cases b <;> rfl
  rw [Sem.run_bind, h1, Result.andThen_ok]
  unfold binOp
  cases b <;> first | exact absurd rfl hb.1 | exact absurd rfl hb.2 | simp_all
section
variable {t t' : TypeId} {x y : Operand} {k : IntKind} {m n c : Int}
theorem does_add (ho : o.op = .binOp .add t x y t') (hx : F.eval x = .s (.int k m)) (hy : F.eval y = .s (.int k n)) (hw : k.wrap (m + n) = c) : Does P o F σ (.s (.int k c)) σ :=
  does_bin ho hx hy fun w => run_intBin w (by simp) (by simp [Op.intArith, hw])
theorem does_sub (ho : o.op = .binOp .sub t x y t') (hx : F.eval x = .s (.int k m)) (hy : F.eval y = .s (.int k n)) (hw : k.wrap (m - n) = c) : Does P o F σ (.s (.int k c)) σ :=
  does_bin ho hx hy fun w => run_intBin w (by simp) (by simp [Op.intArith, hw])
theorem does_mul (ho : o.op = .binOp .mul t x y t') (hx : F.eval x = .s (.int k m)) (hy : F.eval y = .s (.int k n)) (hw : k.wrap (m * n) = c) : Does P o F σ (.s (.int k c)) σ :=
  does_bin ho hx hy fun w => run_intBin w (by simp) (by simp [Op.intArith, hw])
theorem does_quo (ho : o.op = .binOp .quo t x y t') (hx : F.eval x = .s (.int k m)) (hy : F.eval y = .s (.int k n)) (h0 : n ≠ 0) (hw : k.wrap (m.tdiv n) = c) : Does P o F σ (.s (.int k c)) σ :=
  does_bin ho hx hy fun w => run_intBin w (by simp) (by simp [Op.intDiv, hw, h0])
theorem does_rem (ho : o.op = .binOp .rem t x y t') (hx : F.eval x = .s (.int k m)) (hy : F.eval y = .s (.int k n)) (h0 : n ≠ 0) (hw : m.tmod n = c) : Does P o F σ (.s (.int k c)) σ :=
  does_bin ho hx hy fun w => run_intBin w (by simp) (by simp [Op.intDiv, hw, h0])
theorem does_lss (ho : o.op = .binOp .lss t x y t') (hx : F.eval x = .s (.int k m)) (hy : F.eval y = .s (.int k n)) : Does P o F σ (.s (.bool (decide (m < n)))) σ :=
  does_bin ho hx hy fun w => run_intBin w (by simp) (by simp [Op.intCmp])
theorem does_leq (ho : o.op = .binOp .leq t x y t') (hx : F.eval x = .s (.int k m)) (hy : F.eval y = .s (.int k n)) : Does P o F σ (.s (.bool (decide (m ≤ n)))) σ :=
  does_bin ho hx hy fun w => run_intBin w (by simp) (by simp [Op.intCmp])
theorem does_gtr (ho : o.op = .binOp .gtr t x y t') (hx : F.eval x = .s (.int k m)) (hy : F.eval y = .s (.int k n)) : Does P o F σ (.s (.bool (decide (n < m)))) σ :=
  does_bin ho hx hy fun w => run_intBin w (by simp) (by simp [Op.intCmp])
theorem does_geq (ho : o.op = .binOp .geq t x y t') (hx : F.eval x = .s (.int k m)) (hy : F.eval y = .s (.int k n)) : Does P o F σ (.s (.bool (decide (n ≤ m)))) σ :=
  does_bin ho hx hy fun w => run_intBin w (by simp) (by simp [Op.intCmp])
theorem does_eql (ho : o.op = .binOp .eql t x y t') (hx : F.eval x = .s (.int k m)) (hy : F.eval y = .s (.int k n)) : Does P o F σ (.s (.bool (decide (m = n)))) σ :=
  does_bin ho hx hy fun w => run_intBin w (by simp) (by
    by_cases h : m = n
    · simp [Op.intCmp, h]
    · have : (m == n) = false := by simpa using h
      simp [Op.intCmp, h, this])
theorem does_neq (ho : o.op = .binOp .neq t x y t') (hx : F.eval x = .s (.int k m)) (hy : F.eval y = .s (.int k n)) : Does P o F σ (.s (.bool (decide (m ≠ n)))) σ :=
  does_bin ho hx hy fun w => run_intBin w (by simp) (by
    by_cases h : m = n
    · simp [Op.intCmp, h]
    · have : (m != n) = true := by simpa using h
      simp [Op.intCmp, h, this])
end
theorem toList_inj {a b : ByteArray} : a.toList = b.toList ↔ a = b := by
  constructor
  · intro h
    rw [ByteArray.toList_eq, ByteArray.toList_eq] at h
    exact ByteArray.ext (Array.toList_inj.1 h)
  · intro h; rw [h]
theorem does_eqs {t t' : TypeId} {x y : Operand} {a b : ByteArray} (ho : o.op = .binOp .eql t x y t') (hx : F.eval x = .s (.string a)) (hy : F.eval y = .s (.string b)) : Does P o F σ (.s (.bool (decide (a = b)))) σ :=
  does_bin ho hx hy fun w => by
    by_cases h : a = b
    · simp [eqGuard, binOp, Op.stringOp, h]
    · have : (a.toList == b.toList) = false := by simpa [toList_inj] using h
      simp [eqGuard, binOp, Op.stringOp, h, this]
theorem does_nes {t t' : TypeId} {x y : Operand} {a b : ByteArray} (ho : o.op = .binOp .neq t x y t') (hx : F.eval x = .s (.string a)) (hy : F.eval y = .s (.string b)) : Does P o F σ (.s (.bool (decide (a ≠ b)))) σ :=
  does_bin ho hx hy fun w => by
    by_cases h : a = b
    · simp [eqGuard, binOp, Op.stringOp, h]
    · have : (a.toList == b.toList) = false := by simpa [toList_inj] using h
      simp [eqGuard, binOp, Op.stringOp, h, this]
theorem does_lts {t t' : TypeId} {x y : Operand} {a b : ByteArray} (ho : o.op = .binOp .lss t x y t') (hx : F.eval x = .s (.string a)) (hy : F.eval y = .s (.string b)) : Does P o F σ (.s (.bool (Op.bytesLess a.toList b.toList))) σ :=
  does_bin ho hx hy fun w => by simp [eqGuard, binOp, Op.stringOp]
theorem does_gts {t t' : TypeId} {x y : Operand} {a b : ByteArray} (ho : o.op = .binOp .gtr t x y t') (hx : F.eval x = .s (.string a)) (hy : F.eval y = .s (.string b)) : Does P o F σ (.s (.bool (!(Op.bytesLess a.toList b.toList || decide (a = b))))) σ :=
  does_bin ho hx hy fun w => by
    have : (a.toList == b.toList) = decide (a = b) := by rw [Bool.eq_iff_iff]; simp [toList_inj]
    simp [eqGuard, binOp, Op.stringOp, this]
theorem does_not {t : TypeId} {x : Operand} {b : Bool} (ho : o.op = .unOp .not t x) (hx : F.eval x = .s (.bool b)) : Does P o F σ (.s (.bool (!b))) σ :=
  does_val fun G ρ hr hop => by
    have h1 := hop x (by simp [ho, Op.operands])
    rw [hx] at h1
    exact ⟨_, by simp [execOp, ho, rep_s h1, Op.unary], .s _⟩
theorem does_notp {t : TypeId} {x : Operand} {p : Prop} [Decidable p] (ho : o.op = .unOp .not t x) (hx : F.eval x = .s (.bool (decide p))) : Does P o F σ (.s (.bool (decide (¬ p)))) σ := by
  rw [show decide (¬ p) = !decide p by simp]
  exact does_not ho hx
theorem does_neg {t : TypeId} {x : Operand} {k : IntKind} {n c : Int} (ho : o.op = .unOp .neg t x) (hx : F.eval x = .s (.int k n)) (hw : k.wrap (0 - n) = c) : Does P o F σ (.s (.int k c)) σ :=
  does_val fun G ρ hr hop => by
    have h1 := hop x (by simp [ho, Op.operands])
    rw [hx] at h1
    exact ⟨_, by simp only [execOp, ho, rep_s h1, Op.unary, Op.intArith, hw]; rfl, .s _⟩
def tyInt (P : Program) (t : TypeId) : Option IntKind := match P.underlying t with | some (.int k) => some k | _ => none
theorem does_conv {t t' : TypeId} {x : Operand} {k k' : IntKind} {n c : Int} (ho : o.op = .convert t t' x) (ht : (P.underlying t).isSome = true) (hk : tyInt P t' = some k') (hx : F.eval x = .s (.int k n)) (hw : k'.wrap n = c) : Does P o F σ (.s (.int k' c)) σ :=
  does_val fun G ρ hr hop => by
    have h1 := hop x (by simp [ho, Op.operands])
    rw [hx] at h1
    have h2 : P.underlying t' = some (.int k') := by
      unfold tyInt at hk
      split at hk
      · rename_i h3; cases hk; exact h3
      · cases hk
    obtain ⟨d, hd⟩ := Option.isSome_iff_exists.1 ht
    refine ⟨.int k' c, ?_, .s _⟩
    simp only [execOp, ho, rep_s h1, convert, Sem.run_bind, run_underlying hd, run_underlying h2, Result.andThen_ok, Conv.intToInt, hw, Sem.run_pure]
theorem does_extract {x : Operand} {i : Nat} {l : List AV} {y : AV} (ho : o.op = .extract x i) (hx : F.eval x = .tup l) (hy : l[i]? = some y) : Does P o F σ y σ :=
  does_val fun G ρ hr hop => by
    have h1 := hop x (by simp [ho, Op.operands])
    rw [hx] at h1
    generalize hv : ρ x = u at h1
    cases h1 with
    | tup vs _ hl h =>
      have hi : i < vs.size := by rw [hl]; exact (List.getElem?_eq_some_iff.1 hy).1
      exact ⟨vs[i], by simp [execOp, ho, hv, Instr.extract, hi], h i _ _ (by simp [hi]) hy⟩
theorem does_func {f : FuncId} {caps : Array Operand} {cs : List AV} (ho : o.op = .makeFunc (.func f) #[] caps) (hc : caps.toList.map F.eval = cs) : Does P o F σ (.fn f cs) σ :=
  does_val fun G ρ hr hop => by
    refine ⟨.func (.func f) #[] (caps.map ρ), by simp [execOp, ho, Instr.makeFunc], .fn f _ _ (by rw [← hc]; simp) (fun j v c hv hcj => ?_)⟩
    rw [← hc] at hcj
    simp only [Array.getElem?_map, List.getElem?_map, Array.getElem?_toList] at hv hcj
    cases hj : caps[j]? with
    | none => rw [hj] at hv; cases hv
    | some y =>
      rw [hj] at hv hcj
      simp only [Option.map_some, Option.some.injEq] at hv hcj
      subst hv hcj
      exact hop y (by simp only [ho, Op.operands]; simp; exact Array.mem_of_getElem? hj)
theorem does_nil_ptr {x : Operand} {id sz k j : Nat} (ho : o.op = .nilCheck x) (hx : F.eval x = .ptr id sz k j) : Does P o F σ (.ptr id sz k j) σ :=
  does_val fun G ρ hr hop => by
    have h1 := hop x (by simp [ho, Op.operands])
    rw [hx] at h1
    generalize hv : ρ x = u at h1
    cases h1 with
    | ptr _ _ _ _ b hm => exact ⟨_, by simp [execOp, ho, hv], .ptr id sz k j b hm⟩
theorem does_nil_fn {x : Operand} {f : FuncId} {cs : List AV} (ho : o.op = .nilCheck x) (hx : F.eval x = .fn f cs) : Does P o F σ (.fn f cs) σ :=
  does_val fun G ρ hr hop => by
    have h1 := hop x (by simp [ho, Op.operands])
    rw [hx] at h1
    generalize hv : ρ x = u at h1
    cases h1 with
    | fn _ vs _ hl h => exact ⟨_, by simp [execOp, ho, hv], .fn f vs cs hl h⟩

/-- places -/
theorem run_fieldAt {t : TypeId} {f off : Nat} {ft : TypeId} {n : Nat} (hf : tyField P t f = some (off, ft, some n)) (hn : n ≠ 0) (b i : Nat) (w : World) : (Instr.fieldAt t (.pointer (some ⟨b, i, none⟩)) f).run P w = .ok (.pointer (some ⟨b, i + off, none⟩)) w := by
  obtain ⟨fs, x, h1, h2, h3, h4, h5⟩ := field_of hf
  have h6 : (sizeOf x.type).run P w = .ok n w := by
    rw [h4]
    cases hi : P.info? ft with
    | none => rw [hi] at h5; cases h5
    | some i => rw [hi] at h5; simp only [Option.map_some, Option.some.injEq] at h5; simp [sizeOf, typeInfo, hi, h5]
  simp [Instr.fieldAt, run_underlying h1, h2, Instr.sureAddr, fieldPlace, h6, hn, h3, Addr.add_lit]
theorem does_fieldAddr_ptr {t : TypeId} {x : Operand} {f off : Nat} {ft : TypeId} {n id sz k j : Nat} (ho : o.op = .fieldAddr t x f) (hf : tyField P t f = some (off, ft, some n)) (hn : n ≠ 0) (hx : F.eval x = .ptr id sz k j) : Does P o F σ (.ptr id sz k (j + off)) σ :=
  does_val fun G ρ hr hop => by
    have h1 := hop x (by simp [ho, Op.operands])
    rw [hx] at h1
    generalize hv : ρ x = u at h1
    cases h1 with
    | ptr _ _ _ _ b hm =>
      refine ⟨.pointer (some ⟨b, k * sz + j + off, none⟩), by simp only [execOp, ho, hv, Sem.run_bind, run_fieldAt hf hn, Result.andThen_ok, Sem.run_pure], ?_⟩
      rw [Nat.add_assoc]
      exact .ptr id sz k (j + off) b hm
theorem does_fieldAddr_ref {t : TypeId} {x : Operand} {f off : Nat} {ft : TypeId} {n : Nat} {cs : List AV} (ho : o.op = .fieldAddr t x f) (hf : tyField P t f = some (off, ft, some n)) (hn : n ≠ 0) (hx : F.eval x = .ref cs) : Does P o F σ (.ref (cs.drop off)) σ :=
  does_val fun G ρ hr hop => by
    have h1 := hop x (by simp [ho, Op.operands])
    rw [hx] at h1
    generalize hv : ρ x = u at h1
    cases h1 with
    | ref b i _ val hone h2 h =>
      refine ⟨.pointer (some ⟨b, i + off, none⟩), by simp only [execOp, ho, hv, Sem.run_bind, run_fieldAt hf hn, Result.andThen_ok, Sem.run_pure], ?_⟩
      refine .ref b (i + off) _ (fun j => val (off + j)) (fun c hc => hone c (List.mem_of_mem_drop hc)) (fun j c hj => ?_) (fun j c hj => ?_)
      · rw [List.getElem?_drop] at hj
        rw [Nat.add_assoc]
        exact h2 _ c hj
      · rw [List.getElem?_drop] at hj
        exact h _ c hj
theorem run_indexAt {t e : TypeId} {z : Option Value} {sz bt : Nat} (ht : tySlice P t = some e) (he : tyInfo P e = some (z, sz, bt)) (b i m cap : Nat) (kd : IntKind) (n : Int) (h0 : 0 ≤ n) (h1 : n < m) (w : World) :
    (Instr.indexAt t (.slice (some ⟨b, i, none⟩) m cap) (.int kd n)).run P w = .ok (.pointer (some ⟨b, i + n.toNat * sz, none⟩)) w := by
  simp [Instr.indexAt, asIntOf, run_underlying (slice_of ht), h0, h1, run_sizeOf he, Addr.add_lit]
theorem does_index_sl {t e : TypeId} {x y : Operand} {z : Option Value} {sz bt : Nat} {l : List AV} {kd : IntKind} {n : Int} {k : Nat} {u : AV} (ho : o.op = .indexAddr t x y) (ht : tySlice P t = some e) (he : tyInfo P e = some (z, sz, bt))
    (hx : F.eval x = .sl l) (hy : F.eval y = .s (.int kd n)) (hk : n = (k : Int)) (hu : l[k]? = some u) (hsz : u.cells.length = sz) : Does P o F σ (.ref u.cells) σ :=
  does_val fun G ρ hr hop => by
    have h1 := hop x (by simp [ho, Op.operands])
    have h2 := hop y (by simp [ho, Op.operands])
    rw [hx] at h1
    rw [hy] at h2
    have hyv := rep_s h2
    subst hk
    have hlt := (List.getElem?_eq_some_iff.1 hu).1
    generalize hv : ρ x = v at h1
    cases h1 with
    | slnil => simp at hu
    | sl b i cap sz' _ val hc hmx hone h3 h =>
      obtain ⟨h4, h5⟩ := hone k u hu
      have hsz' : sz' = sz := h4.symm.trans hsz
      subst hsz'
      refine ⟨.pointer (some ⟨b, i + k * sz', none⟩), ?_, .ref b _ _ (val k) h5 (fun j c hj => h3 k u j c hu hj) (fun j c hj => h k u j c hu hj)⟩
      simp only [execOp, ho, hv, hyv, Sem.run_bind, run_indexAt ht he b i l.length cap kd (k : Int) (by omega) (by omega), Result.andThen_ok, Sem.run_pure, Int.toNat_natCast]
theorem does_index_own {t e : TypeId} {x y : Operand} {z : Option Value} {sz bt : Nat} {id m : Nat} {kd : IntKind} {n : Int} {k : Nat} (ho : o.op = .indexAddr t x y) (ht : tySlice P t = some e) (he : tyInfo P e = some (z, sz, bt))
    (hx : F.eval x = .own id sz m) (hy : F.eval y = .s (.int kd n)) (hk : n = (k : Int)) (hu : k < m) : Does P o F σ (.ptr id sz k 0) σ :=
  does_val fun G ρ hr hop => by
    have h1 := hop x (by simp [ho, Op.operands])
    have h2 := hop y (by simp [ho, Op.operands])
    rw [hx] at h1
    rw [hy] at h2
    have hyv := rep_s h2
    subst hk
    generalize hv : ρ x = v at h1
    cases h1 with
    | own0 => omega
    | own _ _ _ b cap hm hn hc hb =>
      refine ⟨.pointer (some ⟨b, k * sz + 0, none⟩), ?_, .ptr id sz k 0 b hm⟩
      simp only [execOp, ho, hv, hyv, Sem.run_bind, run_indexAt ht he b 0 m cap kd (k : Int) (by omega) (by omega), Result.andThen_ok, Sem.run_pure, Int.toNat_natCast, Nat.zero_add, Nat.add_zero]

/-- lengths -/
theorem run_len_slice {t e : TypeId} {x : Operand} (ht : tySlice P t = some e) (ho : o.op = .call { callee := .builtin .len, args := #[x], argTypes := #[t] }) (ρ : Operand → Value) (A : Option Addr) (n c : Nat) (hv : ρ x = .slice A n c) (w : World) :
    (execOp ρ o).run P w = .ok (.value (.int .i64 n)) w := by
  simp [execOp, ho, resolve, invoke, builtin, Builtin.len_, hv, run_underlying (slice_of ht), goInt]
theorem does_len_sl {t e : TypeId} {x : Operand} {l : List AV} (ho : o.op = .call { callee := .builtin .len, args := #[x], argTypes := #[t] }) (ht : tySlice P t = some e) (hx : F.eval x = .sl l) : Does P o F σ (.s (.int .i64 (l.length : Nat))) σ :=
  does_val fun G ρ hr hop => by
    have h1 := hop x (by simp [ho, Op.operands, Call.operands])
    rw [hx] at h1
    generalize hv : ρ x = v at h1
    cases h1 with
    | slnil => exact ⟨_, run_len_slice ht ho ρ _ _ _ hv _, .s _⟩
    | sl b i cap sz' _ val hc hmx hone h3 h => exact ⟨_, run_len_slice ht ho ρ _ _ _ hv _, .s _⟩
theorem does_len_own {t e : TypeId} {x : Operand} {id sz n : Nat} (ho : o.op = .call { callee := .builtin .len, args := #[x], argTypes := #[t] }) (ht : tySlice P t = some e) (hx : F.eval x = .own id sz n) : Does P o F σ (.s (.int .i64 (n : Nat))) σ :=
  does_val fun G ρ hr hop => by
    have h1 := hop x (by simp [ho, Op.operands, Call.operands])
    rw [hx] at h1
    generalize hv : ρ x = v at h1
    cases h1 with
    | own0 => exact ⟨_, run_len_slice ht ho ρ _ _ _ hv _, .s _⟩
    | own _ _ _ b cap hm hn hc hb => exact ⟨_, run_len_slice ht ho ρ _ _ _ hv _, .s _⟩
theorem does_len_s {t e : TypeId} {x : Operand} {A : Option Addr} {n c : Nat} (ho : o.op = .call { callee := .builtin .len, args := #[x], argTypes := #[t] }) (ht : tySlice P t = some e) (hx : F.eval x = .s (.slice A n c)) : Does P o F σ (.s (.int .i64 (n : Nat))) σ :=
  does_val fun G ρ hr hop => by
    have h1 := hop x (by simp [ho, Op.operands, Call.operands])
    rw [hx] at h1
    exact ⟨_, run_len_slice ht ho ρ _ _ _ (rep_s h1) _, .s _⟩
def tyString (P : Program) (t : TypeId) : Bool := match P.underlying t with | some .string => true | _ => false
theorem string_of {t : TypeId} (h : tyString P t = true) : P.underlying t = some .string := by
  unfold tyString at h
  split at h
  · assumption
  · cases h
theorem does_len_str {t : TypeId} {x : Operand} {b : ByteArray} (ho : o.op = .call { callee := .builtin .len, args := #[x], argTypes := #[t] }) (ht : tyString P t = true) (hx : F.eval x = .s (.string b)) : Does P o F σ (.s (.int .i64 (b.size : Nat))) σ :=
  does_val fun G ρ hr hop => by
    have h1 := hop x (by simp [ho, Op.operands, Call.operands])
    rw [hx] at h1
    exact ⟨_, by simp [execOp, ho, resolve, invoke, builtin, Builtin.len_, rep_s h1, run_underlying (string_of ht), goInt], .s _⟩
theorem does_index_str {t : TypeId} {x y : Operand} {b : ByteArray} {kd : IntKind} {n : Int} {k : Nat} {u : UInt8} (ho : o.op = .index t x y) (ht : tyString P t = true) (hx : F.eval x = .s (.string b)) (hy : F.eval y = .s (.int kd n)) (hk : n = (k : Int)) (hu : b[k]? = some u) : Does P o F σ (.s (.int .u8 (u.toNat : Nat))) σ :=
  does_val fun G ρ hr hop => by
    have h1 := hop x (by simp [ho, Op.operands])
    have h2 := hop y (by simp [ho, Op.operands])
    rw [hx] at h1
    rw [hy] at h2
    subst hk
    exact ⟨_, by simp [execOp, ho, Instr.index, rep_s h1, rep_s h2, asIntOf, run_underlying (string_of ht), hu], .s _⟩

/-- loads -/
theorem run_load_one {t : TypeId} (ha : tyAgg P t = some false) {b i : Nat} {v : Value} {w : World} (h : w.cell? ⟨b, i, none⟩ = some v) : (Instr.loadAt t (.pointer (some ⟨b, i, none⟩))).run P w = .ok v w := by
  simp [Instr.loadAt, Instr.sureAddr, loadVar, run_isAgg ha, h]
theorem run_load_agg {t : TypeId} {z : Option Value} {n bt : Nat} (ha : tyAgg P t = some true) (hi : tyInfo P t = some (z, n, bt)) {b i : Nat} {f : Nat → Value} {w : World} (h : ∀ j, j < n → w.cell? ⟨b, i + j, none⟩ = some (f j)) :
    (Instr.loadAt t (.pointer (some ⟨b, i, none⟩))).run P w = .ok (.agg ((List.range n).map f).toArray) w := by
  have h1 := run_loadCells (P := P) w ⟨b, i, none⟩ n f (fun j hj => by rw [Addr.add_lit]; exact h j hj)
  simp [Instr.loadAt, Instr.sureAddr, loadVar, run_isAgg ha, run_sizeOf hi, h1]
theorem does_load_ref {t : TypeId} {x : Operand} {c : AV} {cs : List AV} (ho : o.op = .load t x) (ha : tyAgg P t = some false) (hx : F.eval x = .ref (c :: cs)) : Does P o F σ c σ :=
  does_val fun G ρ hr hop => by
    have h1 := hop x (by simp [ho, Op.operands])
    rw [hx] at h1
    generalize hv : ρ x = v at h1
    cases h1 with
    | ref b i _ val hone h2 h =>
      have h3 : G.w.cell? ⟨b, i, none⟩ = some (val 0) := (h2 0 c rfl).2
      exact ⟨val 0, by simp only [execOp, ho, hv, Sem.run_bind, run_load_one ha h3, Result.andThen_ok, Sem.run_pure], h 0 c rfl⟩
theorem does_load_refs {t : TypeId} {x : Operand} {z : Option Value} {n bt : Nat} {cs : List AV} (ho : o.op = .load t x) (ha : tyAgg P t = some true) (hi : tyInfo P t = some (z, n, bt)) (hx : F.eval x = .ref cs) (hn : n ≤ cs.length) : Does P o F σ (.agg (cs.take n)) σ :=
  does_val fun G ρ hr hop => by
    have h1 := hop x (by simp [ho, Op.operands])
    rw [hx] at h1
    generalize hv : ρ x = v at h1
    cases h1 with
    | ref b i _ val hone h2 h =>
      have h3 := run_load_agg (P := P) ha hi (w := G.w) (b := b) (i := i) (f := val) (fun j hj => (h2 j _ (List.getElem?_eq_getElem (by omega))).2)
      refine ⟨.agg ((List.range n).map val).toArray, by simp only [execOp, ho, hv, Sem.run_bind, h3, Result.andThen_ok, Sem.run_pure], ?_⟩
      refine .agg _ _ (by simp; omega) (fun c hc => hone c (List.mem_of_mem_take hc)) (fun j v c hv hc => ?_)
      rw [List.getElem?_take] at hc
      split at hc
      · rename_i hj
        simp [hj] at hv
        subst hv
        exact h j c hc
      · cases hc
/-- cells of the call's own that can be read -/
def rowOf : Ob → Option (Nat × List AV)
  | .row sz cs => some (sz, cs)
  | .fz sz cs => some (sz, cs)
  | .dead => none
  | .mp _ => none
theorem row_read {G : Cx} {id sz k b : Nat} {ob : Ob} {cs : List AV} {e : AV} (hr : Rel G σ) (hs : σ[id]? = some ob) (ho : rowOf ob = some (sz, cs)) (hm : G.mu id = some (some b)) (he : cs[k]? = some e) :
    ∃ f : Nat → Value, e.cells.length = sz ∧ (∀ c ∈ e.cells, c.one = true) ∧ ∀ (j : Nat) c, e.cells[j]? = some c → G.w.cell? ⟨b, k * sz + j, none⟩ = some (f j) ∧ Rep G (f j) c := by
  have key : ∀ fr, RowAt G b sz cs fr → ∃ f : Nat → Value, e.cells.length = sz ∧ (∀ c ∈ e.cells, c.one = true) ∧ ∀ (j : Nat) c, e.cells[j]? = some c → G.w.cell? ⟨b, k * sz + j, none⟩ = some (f j) ∧ Rep G (f j) c := by
    rintro fr ⟨cur, t, f, h1, _, h2, h3⟩
    obtain ⟨h4, h5, h6⟩ := h3 k e he
    refine ⟨fun j => cur.getD (k * sz + j) undef, h4, h5, fun j c hc => ?_⟩
    obtain ⟨v, h7, h8⟩ := h6 j c hc
    have h9 : cur.getD (k * sz + j) undef = v := by rw [Array.getD_eq_getD_getElem?, h7]; rfl
    refine ⟨?_, by dsimp only; rw [h9]; exact h8⟩
    rw [cell_of_row _ b _ cur t f h1, h7]; dsimp only; rw [h9]
  have h1 := hr.obs id ob hs
  cases ob with
  | dead => cases ho
  | mp X => cases ho
  | row sz' cs' =>
    simp only [rowOf, Option.some.injEq, Prod.mk.injEq] at ho
    obtain ⟨rfl, rfl⟩ := ho
    simp only [ObOk, hm] at h1
    exact key _ h1.1
  | fz sz' cs' =>
    simp only [rowOf, Option.some.injEq, Prod.mk.injEq] at ho
    obtain ⟨rfl, rfl⟩ := ho
    simp only [ObOk, hm] at h1
    exact key _ h1.1
theorem does_load_ptr {t : TypeId} {x : Operand} {id sz k j : Nat} {ob : Ob} {cs : List AV} {e c : AV} (ho : o.op = .load t x) (ha : tyAgg P t = some false) (hx : F.eval x = .ptr id sz k j) (hs : σ[id]? = some ob) (hb : rowOf ob = some (sz, cs)) (he : cs[k]? = some e) (hc : e.cells[j]? = some c) : Does P o F σ c σ :=
  does_val fun G ρ hr hop => by
    have h1 := hop x (by simp [ho, Op.operands])
    rw [hx] at h1
    generalize hv : ρ x = v at h1
    cases h1 with
    | ptr _ _ _ _ b hm =>
      obtain ⟨f, _, _, h2⟩ := row_read hr hs hb hm he
      obtain ⟨h3, h4⟩ := h2 j c hc
      exact ⟨f j, by simp only [execOp, ho, hv, Sem.run_bind, run_load_one ha h3, Result.andThen_ok, Sem.run_pure], h4⟩
theorem does_load_ptrs {t : TypeId} {x : Operand} {z : Option Value} {n bt : Nat} {id sz k j : Nat} {ob : Ob} {cs : List AV} {e : AV} (ho : o.op = .load t x) (ha : tyAgg P t = some true) (hi : tyInfo P t = some (z, n, bt)) (hx : F.eval x = .ptr id sz k j) (hs : σ[id]? = some ob) (hb : rowOf ob = some (sz, cs)) (he : cs[k]? = some e) (hn : j + n ≤ e.cells.length) : Does P o F σ (.agg ((e.cells.drop j).take n)) σ :=
  does_val fun G ρ hr hop => by
    have h1 := hop x (by simp [ho, Op.operands])
    rw [hx] at h1
    generalize hv : ρ x = v at h1
    cases h1 with
    | ptr _ _ _ _ b hm =>
      obtain ⟨f, _, hone, h2⟩ := row_read hr hs hb hm he
      have h3 := run_load_agg (P := P) ha hi (w := G.w) (b := b) (i := k * sz + j) (f := fun i => f (j + i)) (fun i hi => by rw [Nat.add_assoc]; exact (h2 (j + i) _ (List.getElem?_eq_getElem (by omega))).1)
      refine ⟨.agg ((List.range n).map (fun i => f (j + i))).toArray, by simp only [execOp, ho, hv, Sem.run_bind, h3, Result.andThen_ok, Sem.run_pure], ?_⟩
      refine .agg _ _ (by simp; omega) (fun c hc => hone c (List.mem_of_mem_drop (List.mem_of_mem_take hc))) (fun i v c hv hc => ?_)
      rw [List.getElem?_take] at hc
      split at hc
      · rename_i hj
        simp [hj] at hv
        subst hv
        rw [List.getElem?_drop] at hc
        exact (h2 _ c hc).2
      · cases hc
theorem does_load_whole {t : TypeId} {x : Operand} {z : Option Value} {n bt : Nat} {id sz k : Nat} {ob : Ob} {cs : List AV} {e : AV} (ho : o.op = .load t x) (ha : tyAgg P t = some true) (hi : tyInfo P t = some (z, n, bt)) (hx : F.eval x = .ptr id sz k 0) (hs : σ[id]? = some ob) (hb : rowOf ob = some (sz, cs)) (he : cs[k]? = some e) (hn : e.cells.length = n) : Does P o F σ (.agg e.cells) σ := by
  have := does_load_ptrs (P := P) (F := F) (σ := σ) ho ha hi hx hs hb he (by omega)
  rwa [List.drop_zero, ← hn, List.take_length] at this
theorem does_field {t : TypeId} {x : Operand} {f off : Nat} {ft : TypeId} {n : Option Nat} {cs : List AV} {c : AV} (ho : o.op = .field t x f) (hf : tyField P t f = some (off, ft, n)) (ha : tyAgg P ft = some false) (hx : F.eval x = .agg cs) (hc : cs[off]? = some c) : Does P o F σ c σ :=
  does_val fun G ρ hr hop => by
    have h1 := hop x (by simp [ho, Op.operands])
    rw [hx] at h1
    generalize hv : ρ x = v at h1
    obtain ⟨fs, fl, h2, h3, h4, h5, h6⟩ := field_of hf
    cases h1 with
    | agg vs _ hl hone h =>
      have hi : off < vs.size := by rw [hl]; exact (List.getElem?_eq_some_iff.1 hc).1
      refine ⟨vs[off], ?_, h off _ _ (by simp [hi]) hc⟩
      simp [execOp, ho, hv, Instr.field, run_underlying h2, h3, asAgg, part, h5, run_isAgg ha, h4, hi]
theorem does_fields {t : TypeId} {x : Operand} {f off : Nat} {ft : TypeId} {n : Nat} {z : Option Value} {bt : Nat} {cs : List AV} (ho : o.op = .field t x f) (hf : tyField P t f = some (off, ft, some n)) (ha : tyAgg P ft = some true) (hi : tyInfo P ft = some (z, n, bt)) (hx : F.eval x = .agg cs) : Does P o F σ (.agg ((cs.drop off).take n)) σ :=
  does_val fun G ρ hr hop => by
    have h1 := hop x (by simp [ho, Op.operands])
    rw [hx] at h1
    generalize hv : ρ x = v at h1
    obtain ⟨fs, fl, h2, h3, h4, h5, h6⟩ := field_of hf
    cases h1 with
    | agg vs _ hl hone h =>
      refine ⟨.agg (vs.extract off (off + n)), ?_, .agg _ _ (by simp; omega) (fun c hc => hone c (List.mem_of_mem_drop (List.mem_of_mem_take hc))) (fun j v c hv hc => ?_)⟩
      · simp [execOp, ho, hv, Instr.field, run_underlying h2, h3, asAgg, part, h5, run_isAgg ha, h4, run_sizeOf hi]
      · rw [List.getElem?_take] at hc
        split at hc
        · rename_i hj
          rw [List.getElem?_drop] at hc
          rw [Array.getElem?_extract] at hv
          split at hv
          · exact h _ _ _ hv hc
          · cases hv
        · cases hc
end
end Go.Proofs.Ythdpacbjbdkemaa.Aw
end
section
namespace Go.Proofs.Ythdpacbjbdkemaa.Aw
set_option linter.unusedSimpArgs false
set_option linter.unusedVariables false
open Go.RowKit

/-- the cells of a value -/
theorem rep_cells {G : Cx} {v : Value} {x : AV} (h : Rep G v x) (h1 : ∀ c ∈ x.cells, c.one = true) : v.cells.size = x.cells.length ∧ ∀ (j : Nat) u c, v.cells[j]? = some u → x.cells[j]? = some c → Rep G u c ∧ u.oneCell' = true := by
  by_cases hx : ∃ cs, x = .agg cs
  · obtain ⟨cs, rfl⟩ := hx
    cases h with
    | agg vs _ hl hone h =>
      exact ⟨hl, fun j u c hu hc => ⟨h j u c hu hc, (h j u c hu hc).one (hone c (List.mem_of_getElem? hc))⟩⟩
  · have hxc : x.cells = [x] := by cases x <;> first | rfl | (exact absurd ⟨_, rfl⟩ hx)
    have hone : x.one = true := h1 x (by rw [hxc]; simp)
    have hvo := h.one hone
    have hv : v.cells = #[v] := by cases v <;> first | rfl | (simp [Value.oneCell'] at hvo)
    rw [hxc, hv]
    refine ⟨rfl, fun j u c hu hc => ?_⟩
    cases j with
    | zero => simp at hu hc; subst hu hc; exact ⟨h, hvo⟩
    | succ j => simp at hc

theorem below_setRow {B : Nat} {w0 w : World} (h : Below B w0 w) {b : Nat} (hb : B ≤ b) (cs : Array Value) : Below B w0 (w.setRow b cs) :=
  h.trans ⟨rfl, rfl, rfl, by simp [World.setRow], fun k hk => setRow_other w b k cs (by omega)⟩

theorem ObOk.of {G G' : Cx} {id : Nat} {ob : Ob} (h : ObOk G id ob) (hm : G'.mu id = G.mu id) (hb : G'.base = G.base) (hst : G'.St = G.St) (hsz : G.w.heap.size ≤ G'.w.heap.size) (hrow : ∀ b sz cs f, G.mu id = some (some b) → (ob = .row sz cs ∨ ob = .fz sz cs) → RowAt G b sz cs f → RowAt G' b sz cs f)
    (hmap : ∀ b X, G.mu id = some (some b) → X.At G.w b → ob = .mp X → G'.w.heap[b]? = G.w.heap[b]? ∧ ∀ j, G'.mu j = some (some b) → G.mu j = some (some b)) : ObOk G' id ob := by
  cases ob with
  | dead => exact fun b h1 => Nat.lt_of_lt_of_le (h b (by rw [← hm]; exact h1)) hsz
  | mp X =>
    obtain ⟨b, h1, h2, h3, h4, h5⟩ := h
    obtain ⟨g1, g2⟩ := hmap b X h1 h2 rfl
    exact ⟨b, hm.trans h1, h2.keep g1, by rw [hb]; exact h3, by rw [hst]; exact h4, fun j hj => h5 j (g2 j hj)⟩
  | row sz cs =>
    simp only [ObOk] at h ⊢
    rw [hm, hb, hst]
    cases hx : G.mu id with
    | none => rw [hx] at h; exact h
    | some x =>
      rw [hx] at h
      cases x with
      | none => exact h
      | some b => exact ⟨hrow b sz cs _ hx (.inl rfl) h.1, h.2⟩
  | fz sz cs =>
    simp only [ObOk] at h ⊢
    rw [hm, hst]
    cases hx : G.mu id with
    | none => rw [hx] at h; exact h
    | some x =>
      rw [hx] at h
      cases x with
      | none => exact h
      | some b => exact ⟨hrow b sz cs _ hx (.inr rfl) h.1, h.2⟩

section
variable {G : Cx} {σ : List Ob}

/-- a new row -/
def Cx.new (G : Cx) (id : Nat) (w : World) (b : Option Nat) : Cx := { G with w := w, mu := fun i => if i = id then some b else G.mu i }
theorem alloc_ext (hr : Rel G σ) (w : World) (hw : w.heap = G.w.heap) (cells : Array Value) (e : TypeId) : G.Ext (G.new σ.length (w.alloc (.cells cells e)) (some G.w.heap.size)) := by
  have hsz : w.heap.size = G.w.heap.size := by rw [hw]
  have hold : ∀ k, k < G.w.heap.size → (w.alloc (.cells cells e)).heap[k]? = G.w.heap[k]? := fun k hk => by rw [heap_alloc_old (r := k) w _ (by omega), hw]
  refine ⟨rfl, rfl, fun _ _ h => h, fun b o h => World.cell?_of_block (hold b (hr.st b o h)), fun id x h => ?_, by simp [Cx.new, hsz], fun b cur t f h => ⟨cur, ?_, rfl⟩, fun _ _ h => .inl h⟩
  · have : id ≠ σ.length := by
      intro e2
      rw [e2, hr.fresh _ (Nat.le_refl _)] at h
      cases h
    simp [Cx.new, this, h]
  · exact (hold b (Array.getElem?_eq_some_iff.1 h).1).trans h

theorem alloc_rel (hr : Rel G σ) (w : World) (hw : w.heap = G.w.heap) (hbw : Below G.base G.w0 w) (cells : Array Value) (e : TypeId) (sz : Nat) (cs : List AV) (hn : cs.length * sz ≤ cells.size)
    (h : ∀ (k : Nat) x, cs[k]? = some x → x.cells.length = sz ∧ (∀ c ∈ x.cells, c.one = true) ∧ ∀ (j : Nat) c, x.cells[j]? = some c → ∃ v, cells[k * sz + j]? = some v ∧ Rep G v c) :
    Rel (G.new σ.length (w.alloc (.cells cells e)) (some G.w.heap.size)) (σ ++ [.row sz cs]) := by
  have hext := alloc_ext hr w hw cells e
  have hsz : w.heap.size = G.w.heap.size := by rw [hw]
  have hble : G.base ≤ G.w.heap.size := by have h1 := hr.le; have h2 := hr.below.size; omega
  refine ⟨hbw.alloc (by omega) _, hr.le, fun b o hb => ?_, fun id ob hob => ?_, fun i j b hi hj hmi hmj => ?_, fun id hid => ?_⟩
  · have := hr.st b o hb
    simp only [Cx.new, World.size_alloc]; omega
  · by_cases hid : id < σ.length
    · rw [List.getElem?_append_left hid] at hob
      have h1 := hr.obs id ob hob
      have hne : id ≠ σ.length := by omega
      have hm : (G.new σ.length (w.alloc (.cells cells e)) (some G.w.heap.size)).mu id = G.mu id := by simp [Cx.new, hne]
      have key : ∀ b sz cs f, RowAt G b sz cs f → RowAt (G.new σ.length (w.alloc (.cells cells e)) (some G.w.heap.size)) b sz cs f := by
        rintro b sz cs f ⟨cur, t, fr, h2, h3, h4, h5⟩
        refine ⟨cur, t, fr, ?_, h3, h4, fun k x hx => ⟨(h5 k x hx).1, (h5 k x hx).2.1, fun j c hc => ?_⟩⟩
        · exact ((heap_alloc_old (r := b) w _ (by have := (Array.getElem?_eq_some_iff.1 h2).1; omega)).trans (by rw [hw])).trans h2
        · obtain ⟨v, h6, h7⟩ := (h5 k x hx).2.2 j c hc
          exact ⟨v, h6, h7.ext hext⟩
      exact h1.of hm rfl rfl (by simp [Cx.new, hsz]) (fun b sz cs f _ _ hx => key b sz cs f hx) (fun b X hb hX _ => ⟨(heap_alloc_old (r := b) w _ (by have := hX.lt; omega)).trans (by rw [hw]), fun j hj => by
        by_cases e2 : j = σ.length
        · subst e2
          have := hX.lt
          simp [Cx.new] at hj
          omega
        · simpa [Cx.new, e2] using hj⟩)
    · have hid2 : id = σ.length := by
        have := (List.getElem?_eq_some_iff.1 hob).1
        simp at this; omega
      subst hid2
      simp at hob
      subst hob
      simp only [ObOk, Cx.new, if_true]
      refine ⟨⟨cells, e, (0, 0), ?_, rfl, hn, fun k x hx => ⟨(h k x hx).1, (h k x hx).2.1, fun j c hc => ?_⟩⟩, hble, fun o ho => ?_⟩
      · show (w.alloc (.cells cells e)).heap[G.w.heap.size]? = _
        rw [← hsz]; exact heap_alloc_new w _
      · obtain ⟨v, h6, h7⟩ := (h k x hx).2.2 j c hc
        exact ⟨v, h6, h7.ext hext⟩
      · have := hr.st _ _ ho
        omega
  · -- of two rows in one block
    have old : ∀ i b, alive (σ ++ [.row sz cs]) i → (G.new σ.length (w.alloc (.cells cells e)) (some G.w.heap.size)).mu i = some (some b) → (i = σ.length ∧ b = G.w.heap.size) ∨ (i < σ.length ∧ alive σ i ∧ G.mu i = some (some b) ∧ b < G.w.heap.size) := by
      rintro i b ⟨sz1, cs1, hi⟩ hm
      by_cases hlt : i < σ.length
      · right
        rw [List.getElem?_append_left hlt] at hi
        have hm2 : G.mu i = some (some b) := by simpa [Cx.new, Nat.ne_of_lt hlt] using hm
        refine ⟨hlt, ⟨sz1, cs1, hi⟩, hm2, ?_⟩
        have h1 := hr.obs i _ hi
        simp only [ObOk, hm2] at h1
        obtain ⟨⟨cur, t, fr, h2, _⟩, _⟩ := h1
        exact (Array.getElem?_eq_some_iff.1 h2).1
      · left
        have := (List.getElem?_eq_some_iff.1 hi).1
        simp at this
        have he : i = σ.length := by omega
        subst he
        simp [Cx.new] at hm
        exact ⟨rfl, hm.symm⟩
    rcases old i b hi hmi with ⟨rfl, hb1⟩ | ⟨h1, h2, h3, h4⟩ <;> rcases old j b hj hmj with ⟨rfl, hb2⟩ | ⟨g1, g2, g3, g4⟩
    · rfl
    · omega
    · omega
    · exact hr.inj i j b h2 g2 h3 g3
  · simp at hid
    have hne : id ≠ σ.length := by omega
    simp [Cx.new, hne, hr.fresh id (by omega)]

/-- a row of nothing, without a block -/
theorem nil_ext (hr : Rel G σ) : G.Ext (G.new σ.length G.w none) := by
  refine ⟨rfl, rfl, fun _ _ h => h, fun _ _ _ => rfl, fun id x h => ?_, Nat.le_refl _, RowsKept.refl _, fun _ _ h => .inl h⟩
  have : id ≠ σ.length := by
    intro e2
    rw [e2, hr.fresh _ (Nat.le_refl _)] at h
    cases h
  simp [Cx.new, this, h]
theorem RowAt.ext {G' : Cx} (e : G.Ext G') (hw : G'.w = G.w) {b sz : Nat} {cs : List AV} {f : Nat × Nat → Prop} (h : RowAt G b sz cs f) : RowAt G' b sz cs f := by
  obtain ⟨cur, t, fr, h2, h3, h4, h5⟩ := h
  refine ⟨cur, t, fr, by rw [hw]; exact h2, h3, h4, fun k x hx => ⟨(h5 k x hx).1, (h5 k x hx).2.1, fun j c hc => ?_⟩⟩
  obtain ⟨v, h6, h7⟩ := (h5 k x hx).2.2 j c hc
  exact ⟨v, h6, h7.ext e⟩
theorem nil_rel (hr : Rel G σ) (sz : Nat) : Rel (G.new σ.length G.w none) (σ ++ [.row sz []]) := by
  have hext := nil_ext hr
  refine ⟨hr.below, hr.le, hr.st, fun id ob hob => ?_, fun i j b hi hj hmi hmj => ?_, fun id hid => ?_⟩
  · by_cases hid : id < σ.length
    · rw [List.getElem?_append_left hid] at hob
      have h1 := hr.obs id ob hob
      have hm : (G.new σ.length G.w none).mu id = G.mu id := by simp [Cx.new, Nat.ne_of_lt hid]
      exact h1.of hm rfl rfl (Nat.le_refl _) (fun b sz cs f _ _ hx => hx.ext hext rfl) (fun b X hb hX _ => ⟨rfl, fun j hj => by
        by_cases e2 : j = σ.length
        · subst e2; simp [Cx.new] at hj
        · simpa [Cx.new, e2] using hj⟩)
    · have hid2 : id = σ.length := by
        have := (List.getElem?_eq_some_iff.1 hob).1
        simp at this; omega
      subst hid2
      simp at hob
      subst hob
      simp [ObOk, Cx.new]
  · have old : ∀ i b, alive (σ ++ [.row sz []]) i → (G.new σ.length G.w none).mu i = some (some b) → alive σ i ∧ G.mu i = some (some b) := by
      rintro i b ⟨sz1, cs1, hi⟩ hm
      by_cases hlt : i < σ.length
      · rw [List.getElem?_append_left hlt] at hi
        exact ⟨⟨sz1, cs1, hi⟩, by simpa [Cx.new, Nat.ne_of_lt hlt] using hm⟩
      · have := (List.getElem?_eq_some_iff.1 hi).1
        simp at this
        have he : i = σ.length := by omega
        subst he
        simp [Cx.new] at hm
    exact hr.inj i j b (old i b hi hmi).1 (old j b hj hmj).1 (old i b hi hmi).2 (old j b hj hmj).2
  · simp at hid
    have hne : id ≠ σ.length := by omega
    simp [Cx.new, hne, hr.fresh id (by omega)]

/-- a row is written -/
theorem write_ext {id b sz : Nat} {cs : List AV} {cur cur' : Array Value} {e : TypeId} (hr : Rel G σ) (hs : σ[id]? = some (.row sz cs)) (hm : G.mu id = some (some b)) (hcur : G.w.heap[b]? = some (.cells cur e (0, 0))) (hsz : cur'.size = cur.size) :
    G.Ext { G with w := G.w.setRow b cur' } := by
  have h1 := hr.obs id _ hs
  simp only [ObOk, hm] at h1
  refine ⟨rfl, rfl, fun _ _ h => h, fun b' o h => ?_, fun _ _ h => h, by simp [World.setRow], fun b' c t f h => ?_, fun _ _ h => .inl h⟩
  · have hne : b' ≠ b := fun e => h1.2.2 o (e ▸ h)
    exact World.cell?_of_block (setRow_other _ b b' cur' hne)
  · by_cases hb : b' = b
    · subst hb
      rw [hcur] at h
      cases h
      exact ⟨cur', setRow_heap _ _ cur cur' _ _ hcur, hsz⟩
    · exact ⟨c, (setRow_other _ b b' cur' hb).trans h, rfl⟩
theorem write_rel {id b sz : Nat} {cs cs' : List AV} {cur cur' : Array Value} {e : TypeId} (hr : Rel G σ) (hs : σ[id]? = some (.row sz cs)) (hm : G.mu id = some (some b)) (hcur : G.w.heap[b]? = some (.cells cur e (0, 0))) (hsz : cur'.size = cur.size)
    (hn : cs'.length * sz ≤ cur'.size)
    (h : ∀ (k : Nat) x, cs'[k]? = some x → x.cells.length = sz ∧ (∀ c ∈ x.cells, c.one = true) ∧ ∀ (j : Nat) c, x.cells[j]? = some c → ∃ v, cur'[k * sz + j]? = some v ∧ Rep G v c) :
    Rel { G with w := G.w.setRow b cur' } (σ.set id (.row sz cs')) := by
  have hext := write_ext hr hs hm hcur hsz
  have h1 := hr.obs id _ hs
  simp only [ObOk, hm] at h1
  have hid : id < σ.length := (List.getElem?_eq_some_iff.1 hs).1
  refine ⟨below_setRow hr.below h1.2.1 cur', hr.le, fun b' o hb => by simpa [World.setRow] using hr.st b' o hb, fun i ob hob => ?_, fun i j b' hi hj hmi hmj => ?_, fun i hi => hr.fresh i (by simpa using hi)⟩
  · by_cases hi : id = i
    · subst hi
      rw [List.getElem?_set_self hid] at hob
      cases hob
      simp only [ObOk, hm]
      refine ⟨⟨cur', e, (0, 0), setRow_heap _ _ cur cur' _ _ hcur, rfl, hn, fun k x hx => ⟨(h k x hx).1, (h k x hx).2.1, fun j c hc => ?_⟩⟩, h1.2.1, h1.2.2⟩
      obtain ⟨v, h6, h7⟩ := (h k x hx).2.2 j c hc
      exact ⟨v, h6, h7.ext hext⟩
    · rw [List.getElem?_set_ne hi] at hob
      have h2 := hr.obs i ob hob
      have key : ∀ b' sz cs f, b' ≠ b → RowAt G b' sz cs f → RowAt { G with w := G.w.setRow b cur' } b' sz cs f := by
        rintro b' sz cs f hne ⟨cu, t, fr, h2, h3, h4, h5⟩
        refine ⟨cu, t, fr, (setRow_other _ b b' cur' hne).trans h2, h3, h4, fun k x hx => ⟨(h5 k x hx).1, (h5 k x hx).2.1, fun j c hc => ?_⟩⟩
        obtain ⟨v, h6, h7⟩ := (h5 k x hx).2.2 j c hc
        exact ⟨v, h6, h7.ext hext⟩
      refine h2.of rfl rfl rfl (by simp [World.setRow]) (fun b' sz2 cs2 f hb' hob2 hx => by
        by_cases e2 : b' = b
        · subst e2
          rcases hob2 with rfl | rfl
          · exact absurd (hr.inj id i b' ⟨sz, cs, hs⟩ ⟨sz2, cs2, hob⟩ hm hb') hi
          · -- a finished row in this block can have no cells
            simp only [ObOk, hb'] at h2
            obtain ⟨cu, t, fr, h3, h4, h5⟩ := hx
            have h3' := h3
            rw [hcur] at h3'
            cases h3'
            refine ⟨cur', e, (0, 0), setRow_heap _ _ cur cur' _ _ hcur, h4, by rw [hsz]; exact h5.1, fun k x hx => ⟨(h5.2 k x hx).1, (h5.2 k x hx).2.1, fun j c hc => ?_⟩⟩
            exact absurd (h2.2 k x j hx (List.getElem?_eq_some_iff.1 hc).1) (h1.2.2 _)
        · exact key b' _ _ _ e2 hx) (fun b' X hb' hX _ => ⟨setRow_other _ b b' cur' (fun e2 => by
        obtain ⟨es, cl, h3⟩ := hX.map
        rw [e2, hcur] at h3; cases h3), fun j hj => hj⟩)
  · have old : ∀ i, alive (σ.set id (.row sz cs')) i → alive σ i := by
      rintro i ⟨sz1, cs1, hi⟩
      by_cases h2 : id = i
      · subst h2; exact ⟨sz, cs, hs⟩
      · rw [List.getElem?_set_ne h2] at hi; exact ⟨sz1, cs1, hi⟩
    exact hr.inj i j b' (old i hi) (old j hj) hmi hmj
/-- a thing is dead -/
theorem kill_rel (hr : Rel G σ) (id : Nat) : Rel G (σ.set id .dead) := by
  refine ⟨hr.below, hr.le, hr.st, fun i ob hob => ?_, fun i j b hi hj hmi hmj => ?_, fun i hi => hr.fresh i (by simpa using hi)⟩
  · by_cases h : id = i
    · subst h
      have hid : id < σ.length := by simpa using (List.getElem?_eq_some_iff.1 hob).1
      rw [List.getElem?_set_self hid] at hob
      cases hob
      exact fun b hb => (hr.obs id _ (List.getElem?_eq_getElem hid)).lt hb
    · rw [List.getElem?_set_ne h] at hob; exact hr.obs i ob hob
  · have old : ∀ i, alive (σ.set id .dead) i → alive σ i := by
      rintro i ⟨sz1, cs1, hi⟩
      by_cases h2 : id = i
      · subst h2
        have hid : id < σ.length := by simpa using (List.getElem?_eq_some_iff.1 hi).1
        rw [List.getElem?_set_self hid] at hi
        cases hi
      · rw [List.getElem?_set_ne h2] at hi; exact ⟨sz1, cs1, hi⟩
    exact hr.inj i j b (old i hi) (old j hj) hmi hmj
/-- a row goes on under a new name -/
theorem rename_rel {id sz : Nat} {b : Option Nat} {cs : List AV} (hr : Rel G σ) (hs : σ[id]? = some (.row sz cs)) (hm : G.mu id = some b) : Rel (G.new σ.length G.w b) (σ.set id .dead ++ [.row sz cs]) ∧ G.Ext (G.new σ.length G.w b) := by
  have hext : G.Ext (G.new σ.length G.w b) := by
    refine ⟨rfl, rfl, fun _ _ h => h, fun _ _ _ => rfl, fun id x h => ?_, Nat.le_refl _, RowsKept.refl _, fun _ _ h => .inl h⟩
    have : id ≠ σ.length := by
      intro e2
      rw [e2, hr.fresh _ (Nat.le_refl _)] at h
      cases h
    simp [Cx.new, this, h]
  have hr2 := kill_rel hr id
  have hid : id < σ.length := (List.getElem?_eq_some_iff.1 hs).1
  refine ⟨⟨hr.below, hr.le, hr.st, fun i ob hob => ?_, fun i j b' hi hj hmi hmj => ?_, fun i hi => ?_⟩, hext⟩
  · by_cases hi : i < σ.length
    · rw [List.getElem?_append_left (by simpa using hi)] at hob
      have h1 := hr2.obs i ob hob
      have hm2 : (G.new σ.length G.w b).mu i = G.mu i := by simp [Cx.new, Nat.ne_of_lt hi]
      exact h1.of hm2 rfl rfl (Nat.le_refl _) (fun b sz cs f _ _ hx => hx.ext hext rfl) (fun b' X hb' hX _ => ⟨rfl, fun j hj => by
        by_cases e2 : j = σ.length
        · subst e2
          simp [Cx.new] at hj
          subst hj
          have h3 := hr.obs id _ hs
          simp only [ObOk, hm] at h3
          obtain ⟨⟨cu, te, fr, h4, _⟩, _⟩ := h3
          obtain ⟨es, cl, h5⟩ := hX.map
          rw [h4] at h5; cases h5
        · simpa [Cx.new, e2] using hj⟩)
    · have hi2 : i = σ.length := by
        have := (List.getElem?_eq_some_iff.1 hob).1
        simp at this; omega
      subst hi2
      rw [List.getElem?_append_right (by simp)] at hob
      simp at hob
      subst hob
      have h1 := hr.obs id _ hs
      simp only [ObOk, hm] at h1
      have hm3 : (G.new σ.length G.w b).mu σ.length = some b := by simp [Cx.new]
      simp only [ObOk, hm3]
      cases b with
      | none => exact h1
      | some b => exact ⟨h1.1.ext hext rfl, h1.2.1, h1.2.2⟩
  · have old : ∀ i b', alive (σ.set id .dead ++ [.row sz cs]) i → (G.new σ.length G.w b).mu i = some (some b') → (i = σ.length ∧ b = some b') ∨ (i < σ.length ∧ i ≠ id ∧ alive σ i ∧ G.mu i = some (some b')) := by
      rintro i b' ⟨sz1, cs1, hi⟩ hmi
      by_cases hlt : i < σ.length
      · right
        rw [List.getElem?_append_left (by simpa using hlt)] at hi
        by_cases h2 : id = i
        · subst h2; rw [List.getElem?_set_self hid] at hi; cases hi
        · rw [List.getElem?_set_ne h2] at hi
          exact ⟨hlt, Ne.symm h2, ⟨sz1, cs1, hi⟩, by simpa [Cx.new, Nat.ne_of_lt hlt] using hmi⟩
      · left
        have := (List.getElem?_eq_some_iff.1 hi).1
        simp at this
        have he : i = σ.length := by omega
        subst he
        simp [Cx.new] at hmi
        exact ⟨rfl, hmi⟩
    rcases old i b' hi hmi with ⟨rfl, h1⟩ | ⟨h1, h2, h3, h4⟩ <;> rcases old j b' hj hmj with ⟨rfl, g1⟩ | ⟨g1, g2, g3, g4⟩
    · rfl
    · exact absurd (hr.inj j id b' g3 ⟨sz, cs, hs⟩ g4 (by rw [hm, h1])) g2
    · exact absurd (hr.inj i id b' h3 ⟨sz, cs, hs⟩ h4 (by rw [hm, g1])) h2
    · exact hr.inj i j b' h3 g3 h4 g4
  · simp at hi
    have hne : i ≠ σ.length := by omega
    simp [Cx.new, hne, hr.fresh i (by omega)]
/-- a world that differs by draws alone -/
theorem drew_ext (G : Cx) : G.Ext { G with w := G.w.drew } := ⟨rfl, rfl, fun _ _ h => h, fun _ _ _ => rfl, fun _ _ h => h, Nat.le_refl _, RowsKept.refl _, fun _ _ h => .inl h⟩
theorem drew_rel (hr : Rel G σ) : Rel { G with w := G.w.drew } σ := by
  refine ⟨hr.below.drew, hr.le, hr.st, fun id ob h => ?_, hr.inj, hr.fresh⟩
  have h1 := hr.obs id ob h
  exact h1.of rfl rfl rfl (Nat.le_refl _) (fun b sz cs f _ _ hx => by
    obtain ⟨cur, t, fr, h2, h3, h4, h5⟩ := hx
    refine ⟨cur, t, fr, h2, h3, h4, fun k x hx => ⟨(h5 k x hx).1, (h5 k x hx).2.1, fun j c hc => ?_⟩⟩
    obtain ⟨v, h7, h8⟩ := (h5 k x hx).2.2 j c hc
    exact ⟨v, h7, h8.ext (drew_ext G)⟩) (fun b X _ _ _ => ⟨rfl, fun _ h => h⟩)
end
end Go.Proofs.Ythdpacbjbdkemaa.Aw
end
