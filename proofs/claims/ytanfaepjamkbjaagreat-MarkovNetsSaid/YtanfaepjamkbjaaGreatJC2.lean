/-
  Texts joined: Fire, Fire2, Fire3, SpA, Fr, Ref01a, NtA, AwA, Tail, AwB. Conditions: none.
-/
import Derived.Test.YtanfaepjamkbjaaGreatJC1
import Derived.Lib.SliceRun
import Derived.StillTailTactics
import Derived.WalkKit
import Derived.Laws.AppendOwn
import Derived.Orders
import Derived.Maps.Own
import Derived.Maps.Views
import Derived.Deep.LoopGhost
section
namespace Go.Proofs.YtanfaepjamkbjaaGreat
set_option linter.unusedSimpArgs false
set_option linter.unusedVariables false
open Go.RowKit

set_option maxRecDepth 100000 in
set_option maxHeartbeats 1000000 in
theorem clone_any (l : List Int) (v : Value) (lo hi : Nat) (w : World) (hv : RdI w lo hi v l) (hl : l.length ≤ 1000000) :
    Calls Tryz.prog 81 #[v] w fun e w' => ∃ A c, e = .returned (.slice A l.length c) ∧ OwnI w' w.heap.size w'.heap.size (.slice A l.length c) l ∧ Below w.heap.size w w' := by
  have hq : ∀ (w : World) (a : Option Addr) (n c n' c' : Nat), (binOp .eql 25 (.slice a n c) (.slice none n' c')).run Tryz.prog w = .ok (.bool a.isNone) w := fun w a n c n' c' => Lib.run_eql_slice_nil w _ _ a n c n' c' Tryz.underlying25
  obtain ⟨A, c, rfl, hc, hm⟩ := hv.form
  have HV := Lib.hid hv
  have HL := Lib.hid hl
  clear hl
  rcases A with _ | ad
  · have hnil : l = [] := by
      rcases Nat.eq_zero_or_pos l.length with h0 | h0
      · exact List.eq_nil_of_length_eq_zero h0
      · obtain ⟨b, off, h, _⟩ := RdC.cells hv h0
        cases h
    clear hv
    subst hnil
    refine calls_cps fun R hR => ?_
    have HR := Lib.hid hR
    clear hR
    go_enter Tryz.func81, Tryz.ntmps81
    go_wp2_with fail
    exact HR.out _ _ ⟨none, 0, rfl, Own.nil _ _ _, Below.refl _ _⟩
  · clear hv
    refine calls_cps fun R hR => ?_
    have HR := Lib.hid hR
    clear hR
    go_enter Tryz.func81, Tryz.ntmps81
    have M : Hid (Mem [Loc.owI w.heap.size (w.heap.size + 1) (.slice (some ⟨w.heap.size, 0, none⟩) 0 0) [], Loc.bl w.heap.size w] (w.alloc (.cells #[] 3))) := Lib.hid ⟨Own.lit w 3 w.heap.size [] #[] 0 rfl rfl (Nat.le_refl _) (Nat.zero_le _) (fun _ => rfl), ⟨(Below.refl _ _).alloc (Nat.le_refl _) _, by simp⟩, True.intro⟩
    go_wp2_with (at_builtin; refine wpList_app rfl _ _ rfl ti_int (fun _ => rfl) oneI rfl rfl (M.out) (by (repeat' (first | exact True.intro | refine And.intro (fun k hk e => ?_) ?_)) <;> (first | exact e | ((try dsimp only [Loc.c1, Loc.c2, Loc.k1, Loc.k2, Loc.k3, Loc.k4, Loc.k6, Loc.fr, Loc.bl, Loc.own, Loc.sz, Loc.rd, Loc.rdI, Loc.rdS, Loc.rdM, Loc.rdT, Loc.ow, Loc.owI] at hk e) <;> omega))) (HV.out.after ((Below.refl _ _).alloc (Nat.le_refl _) _)) (by have := HL.out; simp; omega) (by have := HL.out; simp; omega) (by simp) ?_; intro A1 c1 w1 hM1 hs1 hch1; replace M := Lib.hid hM1; clear hM1 hch1)
    refine HR.out _ _ ⟨A1, c1, ?_, ?_, M.out.2.1.1⟩
    · simp
    · have := M.out.1
      simp only [List.length_nil, Nat.zero_add, List.nil_append] at this
      exact this

def maxI : Int → List Int → Int
  | x, [] => x
  | x, y :: l => maxI (max x y) l
theorem maxI_gt (b : Int) : ∀ (l : List Int) (x : Int), decide (b < maxI x l) = (x :: l).any fun y => decide (b < y)
  | [], x => by simp [maxI] <;> rfl
  | y :: l, x => by
    rw [maxI, maxI_gt b l]
    simp only [List.any_cons]
    grind
set_option maxHeartbeats 1000000 in
theorem max_any (x : Int) (l : List Int) (v : Value) (lo hi : Nat) (w : World) (hv : RdI w lo hi v (x :: l)) :
    Calls Tryz.prog 82 #[v] w fun e w' => e = .returned (.int .i64 (maxI x l)) ∧ Below w.heap.size w w' := by
  have hx0 := hv
  obtain ⟨A, c, rfl, hc, hm⟩ := hv.form
  obtain ⟨b, off, rfl, _, _, hcell0⟩ := RdI.at1 hv (k := 0) (by simp)
  have HV := Lib.hid hv
  simp only [gti, List.getElem?_cons_zero, Option.getD_some, Nat.add_zero] at hcell0
  simp only [List.length_cons] at hc hm
  clear hv hx0
  refine calls_cps fun R hR => ?_
  have HR := Lib.hid hR
  clear hR
  go_enter Tryz.func82, Tryz.ntmps82
  go_wp2_with fail
  go_loop [3, 4] (fun v3 v4 => ∃ (k : Nat) (y : Int), k ≤ l.length ∧ v3 = .int .i64 y ∧ v4 = .int .i64 (k + 1 : Nat) ∧ Hid (maxI y (l.drop k) = maxI x l)) (fun _ v4 => l.length + 1 - (intOf v4).toNat)
  case atStart => exact ⟨0, x, by omega, rfl, rfl, Lib.hid rfl⟩
  case round =>
    obtain ⟨k, y, hk, rfl, rfl, HI⟩ := hrel
    by_cases hlt : k < l.length
    · obtain ⟨_, _, e, _, _, hcell⟩ := RdI.at1 HV.out (k := k + 1) (by simp; omega)
      injection e with e
      injection e with e1 e2
      subst e1 e2
      have HD := Lib.hid (drop_gti hlt)
      have e3 : gti (x :: l) (k + 1) = gti l k := by simp [gti]
      rw [e3] at hcell
      clear e3
      generalize gti l k = z at *
      go_wp2_with fail
      refine ⟨⟨k + 1, _, by omega, rfl, by go_num, Lib.hid ?_⟩, by simp [intOf]; omega⟩
      have h := HI.out
      rw [HD.out, maxI] at h
      rw [← h]
      congr 1
      omega
    · obtain rfl : k = l.length := by omega
      have HE := HI.out
      simp only [List.drop_length, maxI] at HE
      have HE := Lib.hid HE
      go_wp2_with fail
      exact HR.out _ _ ⟨ret_int (by first | exact HE.out | rfl), Below.refl _ _⟩

def enB (t : Tr) (m : List Int) : Bool := !t.inn.any fun p => decide (gti m p.toNat = 0)
theorem ent_enabled1 : Ent 80 := ent_of Tryz.func80 (by kernel_rfl) rfl
set_option maxHeartbeats 400000 in
theorem enabled1_any (m : List Int) (v : Value) (lo hi g : Nat) (p : Int) (w : World) (hg : C1 w g 0 v) (hv : RdI w lo hi v m) (h0 : 0 ≤ p) (h1 : p < m.length) :
    Calls Tryz.prog 80 #[.int .i64 p, .pointer (some ⟨g, 0, none⟩)] w fun e w' => e = .returned (.bool (decide (gti m p.toNat = 0))) ∧ Below w.heap.size w w' := by
  obtain ⟨k, rfl⟩ : ∃ k : Nat, p = k := ⟨p.toNat, by omega⟩
  have hlt : k < m.length := by omega
  clear h0 h1
  obtain ⟨A, c, rfl, hc, hm⟩ := hv.form
  obtain ⟨b, off, rfl, _, _, hcell⟩ := RdI.at1 hv hlt
  have HV := Lib.hid hv
  clear hv
  simp only [Int.toNat_natCast]
  refine calls_cps fun R hR => ?_
  have HR := Lib.hid hR
  clear hR
  go_enter Tryz.func80, Tryz.ntmps80
  go_wp2_with fail
  all_goals (refine HR.out _ _ ⟨ret_bool ?_, Below.refl _ _⟩ <;> (go_light; grind))

abbrev trV (t : Tr) (vi vo : Value) : Value := .agg #[.string t.label, vi, vo]
set_option maxRecDepth 100000 in
set_option maxHeartbeats 400000 in
theorem enabled_any (t : Tr) (vi vo : Value) (m : List Int) (v : Value) (lo hi lo' hi' : Nat) (w : World) (hi1 : RdI w lo hi vi t.inn) (hv : RdI w lo' hi' v m) (hin : ∀ p ∈ t.inn, 0 ≤ p ∧ p < m.length) :
    Calls Tryz.prog 57 #[trV t vi vo, v] w fun e w' => e = .returned (.bool (enB t m)) ∧ Below w.heap.size w w' := by
  obtain ⟨A, c, rfl, hc, hm⟩ := hv.form
  obtain ⟨A2, c2, rfl, hc2, hm2⟩ := hi1.form
  have HV := Lib.hid hv
  have HI := Lib.hid hi1
  have HN := Lib.hid hin
  clear hv hi1 hin
  have HC : Hid (∀ W, Mem [Loc.c1 (w.heap.size + 1) 0 (.slice A m.length c), Loc.bl w.heap.size w] W → Calls Tryz.prog 19 #[.slice A2 t.inn.length c2, .func (.func 80) #[] #[.pointer (some ⟨w.heap.size + 1, 0, none⟩)]] W fun e w' => e = .returned (.bool (t.inn.any fun p => decide (gti m p.toNat = 0))) ∧ Below W.heap.size W w') :=
    Lib.hid (fun W hM => containsFI_any 80 ent_enabled1 #[.pointer (some ⟨w.heap.size + 1, 0, none⟩)] (fun p => decide (gti m p.toNat = 0)) t.inn lo hi _ W (HI.out.after hM.2.1.1) (fun a ha W' hW' => enabled1_any m _ lo' hi' _ a W' (hM.below hW').1 ((HV.out.after hM.2.1.1).after hW') (HN.out a ha).1 (HN.out a ha).2))
  refine calls_cps fun R hR => ?_
  have HR := Lib.hid hR
  clear hR
  go_enter Tryz.func57, Tryz.ntmps57
  have M : Hid (Mem [Loc.c1 (w.heap.size + 1) 0 (.slice A m.length c), Loc.bl w.heap.size w] ((w.alloc (Obj.cells #[Value.string t.label, Value.slice A2 t.inn.length c2, vo] 29)).alloc (Obj.cells #[Value.slice A m.length c] 25))) := Lib.hid ⟨by simp [C1, go_sem], ⟨((Below.refl _ _).alloc (Nat.le_refl _) _).alloc (by simp) _, by simp; omega⟩, True.intro⟩
  go_wp2_with (go_at_call 19; refine (HC.out _ M.out).mono ?_; rintro e w1 ⟨rfl, hb1⟩; replace M := Lib.hid (M.out.below hb1); clear hb1; skip)
  exact HR.out _ _ ⟨rfl, M.out.2.1.1⟩

/-- a list of places, read: each is one; they ascend; there are not too many -/
theorem placesB_at {n : Int} {l : List Int} (h : placesB n l = true) {k : Nat} (hk : k < l.length) : 0 ≤ gti l k ∧ gti l k < n ∧ (k : Int) ≤ gti l k := by
  have hall : ∀ j, j < l.length → ¬ badP n l j := by
    intro j hj hb
    rw [placesB_false hj hb] at h
    cases h
  have h1 := hall k hk
  unfold badP at h1
  refine ⟨by omega, by omega, ?_⟩
  induction k with
  | zero => omega
  | succ k ih =>
    have h2 := hall k (by omega)
    unfold badP at h2
    have := ih (by omega) h2
    simp only [Nat.add_sub_cancel] at h1
    omega
theorem placesB_len {n : Int} {l : List Int} (h : placesB n l = true) : (l.length : Int) ≤ n ∨ l.length = 0 := by
  rcases Nat.eq_zero_or_pos l.length with h0 | h0
  · exact .inr h0
  · have := placesB_at h (k := l.length - 1) (by omega)
    omega
theorem mem_gti {α : Type} [Inhabited α] {l : List α} {a : α} (h : a ∈ l) : ∃ k, k < l.length ∧ gti l k = a := by
  obtain ⟨k, hk, rfl⟩ := List.mem_iff_getElem.1 h
  exact ⟨k, hk, by unfold gti; rw [List.getElem?_eq_getElem hk]; rfl⟩
theorem placesB_mem {n : Int} {l : List Int} (h : placesB n l = true) {p : Int} (hp : p ∈ l) : 0 ≤ p ∧ p < n := by
  obtain ⟨k, hk, rfl⟩ := mem_gti hp
  have := placesB_at h hk
  exact ⟨this.1, this.2.1⟩
theorem validL_tr {n : Net} : ∀ {l : List Tr}, validL n l = true → ∀ t ∈ l, trB n.places t = true
  | [], _, t, ht => by cases ht
  | x :: l, h, t, ht => by
    simp only [validL] at h
    split at h
    · rcases List.mem_cons.1 ht with rfl | ht
      · assumption
      · exact validL_tr h t ht
    · cases h
theorem validB_tr {n : Net} (h : validB n = true) {t : Tr} (ht : t ∈ n.trans) : (t.label.toList.isEmpty || nameB t.label) = true ∧ placesB n.places t.inn = true ∧ placesB n.places t.out = true := by
  unfold validB at h
  split at h
  · cases h
  · have := validL_tr h t ht
    unfold trB at this
    simp only [Bool.and_eq_true] at this
    exact ⟨this.1.1, this.1.2, this.2⟩
theorem gti_mem {α : Type} [Inhabited α] {l : List α} {k : Nat} (h : k < l.length) : gti l k ∈ l := List.mem_of_getElem? (gti_get h)
theorem mark2B_len {n : Net} {m : List Int} (h : mark2B n m = true) : (m.length : Int) = n.places := by
  unfold mark2B at h
  split at h
  · cases h
  · omega
theorem all01_at : ∀ {m : List Int}, all01 m = true → ∀ k, 0 ≤ gti m k ∧ gti m k ≤ 100
  | [], _, k => by simp [gti]
  | x :: m, h, k => by
    simp only [all01] at h
    split at h
    · cases h
    · cases k with
      | zero => simp [gti]; omega
      | succ k =>
        have := all01_at h k
        simpa [gti] using this
theorem mark2B_at {n : Net} {m : List Int} (h : mark2B n m = true) (k : Nat) : 0 ≤ gti m k ∧ gti m k ≤ 100 := by
  unfold mark2B at h
  split at h
  · cases h
  · exact all01_at h k

def enabledL (m : List Int) : Nat → List Tr → List Int
  | _, [] => []
  | i, t :: ts => if enB t m then (i : Int) :: enabledL m (i + 1) ts else enabledL m (i + 1) ts
def enabledE (n : Net) (m : List Int) : List Int × Int := if markB n m then (enabledL m 0 n.trans, 0) else ([], 1)
theorem marking_is {n : Net} {m : List Int} {b : Bool} (hb : markB n m = b) (vt v : Value) (lo hi lo' hi' : Nat) (w : World) (hv : RdT w lo hi vt n.trans) (hm : RdI w lo' hi' v m) :
    Calls Tryz.prog 56 #[netV n vt, v] w fun e w' => e = .returned (.bool b) ∧ Below w.heap.size w w' := hb ▸ marking_any n m vt v lo hi lo' hi' w hv hm

set_option maxHeartbeats 1000000 in
theorem Enabled_any (n : Net) (m : List Int) (vt v : Value) (lo hi lo' hi' : Nat) (w : World) (hv : RdT w lo hi vt n.trans) (hm : RdI w lo' hi' v m) :
    Calls Tryz.prog 22 #[netV n vt, v] w (RetI w (enabledE n m)) := by
  obtain ⟨A, c, rfl, hc, hmm⟩ := hv.form
  obtain ⟨A2, c2, rfl, hc2, hmm2⟩ := hm.form
  have HV := Lib.hid hv
  have HW := Lib.hid hm
  clear hv hm
  cases hvb : markB n m
  · have HVB := Lib.hid hvb
    clear hvb
    refine calls_cps fun R hR => ?_
    have HR := Lib.hid hR
    clear hR
    go_enter Tryz.func22, Tryz.ntmps22
    have M : Hid (Mem [Loc.k4 w.heap.size (.int .i64 n.places) (.slice A n.trans.length c) (.int .i64 n.source) (.int .i64 n.sink), Loc.bl w.heap.size w] (w.alloc (.cells #[.int .i64 n.places, .slice A n.trans.length c, .int .i64 n.source, .int .i64 n.sink] 24))) := Lib.hid ⟨K4.new w _ _ _ _ _, ⟨(Below.refl _ _).alloc (Nat.le_refl _) _, by simp⟩, True.intro⟩
    have hk4 := M.out.1
    go_wp2_with (go_at_call 56; refine (marking_is HVB.out _ _ lo hi lo' hi' _ (HV.out.after M.out.2.1.1) (HW.out.after M.out.2.1.1)).mono ?_; rintro e w1 ⟨rfl, hb1⟩; replace M := Lib.hid (M.out.below hb1); clear hb1; replace hk4 := M.out.1)
    exact HR.out _ _ (RetI.nil (by rw [enabledE, HVB.out]; rfl) M.out.2.1.1)
  · have HVB := Lib.hid hvb
    have hval : validB n = true := by unfold markB at hvb; simp at hvb; exact hvb.1
    have HMK : Hid (mark2B n m = true) := Lib.hid (by unfold markB at hvb; simp at hvb; exact hvb.2)
    have HVAL := Lib.hid hval
    have hpl := (validB_places hval).2.2
    clear hvb hval
    refine calls_cps fun R hR => ?_
    have HR := Lib.hid hR
    clear hR
    go_enter Tryz.func22, Tryz.ntmps22
    have M : Hid (Mem [Loc.k4 w.heap.size (.int .i64 n.places) (.slice A n.trans.length c) (.int .i64 n.source) (.int .i64 n.sink), Loc.bl w.heap.size w] (w.alloc (.cells #[.int .i64 n.places, .slice A n.trans.length c, .int .i64 n.source, .int .i64 n.sink] 24))) := Lib.hid ⟨K4.new w _ _ _ _ _, ⟨(Below.refl _ _).alloc (Nat.le_refl _) _, by simp⟩, True.intro⟩
    have hk4 := M.out.1
    go_wp2_with (go_at_call 56; refine (marking_is HVB.out _ _ lo hi lo' hi' _ (HV.out.after M.out.2.1.1) (HW.out.after M.out.2.1.1)).mono ?_; rintro e w1 ⟨rfl, hb1⟩; replace M := Lib.hid (M.out.below hb1); clear hb1; replace hk4 := M.out.1)
    go_loopw [16, 6, 7, 8] (fun v16 v6 _ _ wr => ∃ (k : Nat) (out : List Int) (B : Option Addr) (d hh : Nat), k ≤ n.trans.length ∧ v16 = .int .i64 k ∧ v6 = .slice B out.length d ∧ out.length ≤ k ∧ Hid (out ++ enabledL m k (n.trans.drop k) = enabledL m 0 n.trans) ∧ hh ≤ wr.heap.size ∧ Hid (Mem [Loc.owI w1.heap.size hh (.slice B out.length d) out, Loc.k4 w.heap.size (.int .i64 n.places) (.slice A n.trans.length c) (.int .i64 n.source) (.int .i64 n.sink), Loc.bl w.heap.size w, Loc.sz w1.heap.size] wr)) (fun v16 _ _ _ _ => n.trans.length - (intOf v16).toNat)
    case atStart => exact ⟨0, [], none, 0, 0, by omega, rfl, rfl, by simp, Lib.hid (by simp), by omega, Lib.hid ⟨Own.nil _ _ _, M.out.1, M.out.2.1, Nat.le_refl _, True.intro⟩⟩
    case round =>
      have hws := M.out.2.1.2
      have hwk := M.out.1.2.2.2.2
      clear M hk4
      obtain ⟨k, out, B, d, hh, hk, rfl, rfl, hol, HI, hhs, HM⟩ := hrel
      have hk4 := HM.out.2.1
      by_cases hlt : k < n.trans.length
      · obtain ⟨b, off, vi, vo, rfl, _, _, hcell, hri, hro⟩ := RdT.at3 (HV.out.after HM.out.2.2.1.1) hlt
        have HD := Lib.hid (drop_gti hlt)
        have HTR := Lib.hid (validB_tr HVAL.out (gti_mem hlt))
        obtain ⟨Ai, ci, rfl, hci, hmi⟩ := hri.form
        obtain ⟨Ao, co, rfl, hco, hmo⟩ := hro.form
        generalize gti n.trans k = t at *
        have M : Hid (Mem [Loc.owI w1.heap.size hh (.slice B out.length d) out, Loc.k4 w.heap.size (.int .i64 n.places) (.slice (some ⟨b, off, none⟩) n.trans.length c) (.int .i64 n.source) (.int .i64 n.sink), Loc.bl w.heap.size w, Loc.sz w1.heap.size, Loc.k3 wr.heap.size (.string t.label) (.slice Ai t.inn.length ci) (.slice Ao t.out.length co)] (wr.alloc (.cells #[.string t.label, .slice Ai t.inn.length ci, .slice Ao t.out.length co] 29))) :=
          Lib.hid ⟨(HM.out.alloc _).1, (HM.out.alloc _).2.1, (HM.out.alloc _).2.2.1, (HM.out.alloc _).2.2.2.1, K3.new wr _ _ _ _, True.intro⟩
        have HRI := Lib.hid (hri.after ((Below.refl _ _).alloc (Nat.le_refl _) (.cells #[.string t.label, .slice Ai t.inn.length ci, .slice Ao t.out.length co] 29)))
        clear HM hri hro
        replace hk4 := M.out.2.1
        have hk3 := M.out.2.2.2.2.1
        have hwz := M.out.2.2.2.1
        go_wp2_with (first
          | (go_at_call 57; refine (enabled_any t _ _ m _ lo hi lo' hi' _ HRI.out (HW.out.after M.out.2.2.1.1) (fun p hp => by have := placesB_mem HTR.out.2.1 hp; have := mark2B_len HMK.out; omega)).mono ?_; rintro e w1 ⟨rfl, hb1⟩; replace M := Lib.hid (M.out.below hb1); clear hb1; replace hk4 := M.out.2.1; replace hk3 := M.out.2.2.2.2.1)
          | (at_builtin; refine wpList_app rfl _ _ rfl ti_int (fun _ => rfl) oneI rfl rfl (M.out.alloc _) (by (repeat' (first | exact True.intro | refine And.intro (fun k hk e => ?_) ?_)) <;> (first | exact e | ((try dsimp only [Loc.c1, Loc.c2, Loc.k1, Loc.k2, Loc.k3, Loc.k4, Loc.k6, Loc.fr, Loc.bl, Loc.own, Loc.sz, Loc.rd, Loc.rdI, Loc.rdS, Loc.rdM, Loc.rdT, Loc.ow, Loc.owI] at hk e) <;> omega))) (RdI.lit1 _ _ _) (by simp; omega) (by simp; omega) ((M.out.alloc _).2.2.2.1) ?_; intro A1 c1 w1 hM1 hs1 hch1; replace M := Lib.hid hM1; clear hM1 hch1; (try simp only [World.size_alloc] at hs1); skip))
        all_goals have h := HI.out
        all_goals rw [HD.out, enabledL] at h
        · refine ⟨⟨k + 1, out ++ [(k : Int)], A1, c1, _, by omega, by go_num, by simp, by simp; omega, Lib.hid (by go_light; grind), Nat.le_refl _, Lib.hid ⟨by simpa using M.out.1, M.out.2.1, M.out.2.2.1, M.out.2.2.2.1, True.intro⟩⟩, by simp [intOf]; omega⟩
        · have hsz := (M.out.2.2.2.2.1).2.2.2
          exact ⟨⟨k + 1, out, B, d, hh, by omega, by go_num, by simp, by omega, Lib.hid (by go_light; grind), by omega, Lib.hid ⟨M.out.1, M.out.2.1, M.out.2.2.1, M.out.2.2.2.1, True.intro⟩⟩, by simp [intOf]; omega⟩
      · obtain rfl : k = n.trans.length := by omega
        have HE : Hid (out = enabledL m 0 n.trans) := Lib.hid (by have h := HI.out; simpa [enabledL] using h)
        go_wp2_with fail
        exact HR.out _ _ (RetI.mk (l := out) (by rw [enabledE, HVB.out, if_pos rfl, HE.out]) rfl HM.out.1.rd hws hhs HM.out.2.2.1.1)

def decL : List Int → List Int → List Int
  | [], m => m
  | p :: ps, m => decL ps (m.set p.toNat (gti m p.toNat - 1))
def incL : List Int → List Int → List Int
  | [], m => m
  | p :: ps, m => incL ps (m.set p.toNat (gti m p.toNat + 1))
theorem decL_len : ∀ ps m, (decL ps m).length = m.length
  | [], m => rfl
  | p :: ps, m => by rw [decL, decL_len ps, List.length_set]
theorem incL_len : ∀ ps m, (incL ps m).length = m.length
  | [], m => rfl
  | p :: ps, m => by rw [incL, incL_len ps, List.length_set]
def fireE (n : Net) (m : List Int) (t : Int) : List Int × Int :=
  if t < 0 ∨ n.trans.length ≤ t then ([], 2) else
  if enB (gti n.trans t.toNat) m then
    if (incL (gti n.trans t.toNat).out (decL (gti n.trans t.toNat).inn m)).any (fun y => decide (100 < y)) then ([], 5)
    else (incL (gti n.trans t.toNat).out (decL (gti n.trans t.toNat).inn m), 0)
  else ([], 12)
/-- all numbers of a list lie between -B and B -/
def Bnd (B : Int) (l : List Int) : Prop := ∀ i, -B ≤ gti l i ∧ gti l i ≤ B
theorem gti_set (l : List Int) (i j : Nat) (x : Int) : gti (l.set i x) j = if i = j ∧ j < l.length then x else gti l j := by
  unfold gti
  rw [List.getElem?_set]
  by_cases h : i = j
  · subst h
    by_cases h2 : i < l.length
    · simp [h2]
    · simp [h2]
  · simp [h]
theorem Bnd.dec {B : Int} {l : List Int} (h : Bnd B l) (i : Nat) : Bnd (B + 1) (l.set i (gti l i - 1)) := fun j => by
  rw [gti_set]
  have := h i
  have := h j
  split <;> omega
theorem Bnd.inc {B : Int} {l : List Int} (h : Bnd B l) (i : Nat) : Bnd (B + 1) (l.set i (gti l i + 1)) := fun j => by
  rw [gti_set]
  have := h i
  have := h j
  split <;> omega

theorem C3.aft {w W : World} {b o : Nat} {x y z : Value} (hb : Below w.heap.size w W) (h : C3 w b o x y z) : C3 W b o x y z := by
  have hbs := World.block_lt_of_cell? _ _ h.1
  exact ⟨(hb.cell (p := ⟨b, o, none⟩) hbs).trans h.1, (hb.cell (p := ⟨b, o + 1, none⟩) hbs).trans h.2.1, (hb.cell (p := ⟨b, o + 2, none⟩) hbs).trans h.2.2⟩
def maxL (l : List Int) : Int := maxI (gti l 0) l.tail
theorem maxL_gt (b : Int) {l : List Int} (h : 0 < l.length) : decide (b < maxL l) = l.any fun y => decide (b < y) := by
  cases l with
  | nil => simp at h
  | cons x l => exact maxI_gt b l x
theorem maxL_any (l : List Int) (v : Value) (lo hi : Nat) (w : World) (hv : RdI w lo hi v l) (hl : 0 < l.length) :
    Calls Tryz.prog 82 #[v] w fun e w' => e = .returned (.int .i64 (maxL l)) ∧ Below w.heap.size w w' := by
  cases l with
  | nil => simp at hl
  | cons x l => exact max_any x l v lo hi w hv

set_option maxRecDepth 100000 in
set_option maxHeartbeats 2000000 in
theorem fire_any (n : Net) (m : List Int) (t : Int) (vt v : Value) (lo hi lo' hi' : Nat) (w : World) (hv : RdT w lo hi vt n.trans) (hm : RdI w lo' hi' v m) (hmk : markB n m = true) :
    Calls Tryz.prog 58 #[netV n vt, v, .int .i64 t] w (RetI w (fireE n m t)) := by
  obtain ⟨A, c, rfl, hc, hmm⟩ := hv.form
  obtain ⟨A2, c2, rfl, hc2, hmm2⟩ := hm.form
  have HV := Lib.hid hv
  have HW := Lib.hid hm
  have hval : validB n = true := by unfold markB at hmk; simp at hmk; exact hmk.1
  have hmk2 : mark2B n m = true := by unfold markB at hmk; simp at hmk; exact hmk.2
  have HVAL := Lib.hid hval
  have HMK := Lib.hid hmk2
  have hpl := validB_places hval
  have hlen := mark2B_len hmk2
  obtain ⟨np, hnp⟩ : ∃ k : Nat, n.places = k := ⟨n.places.toNat, by omega⟩
  have hml : m.length = np := by omega
  have hnp1 : 1 ≤ np := by omega
  have hnp40 : np ≤ 40 := by omega
  have HNP := Lib.hid hnp
  have HML := Lib.hid hml
  clear hv hm hmk hval hmk2 hpl hlen hnp hml
  by_cases ht : t < 0 ∨ n.trans.length ≤ t
  · have HT := Lib.hid ht
    refine calls_cps fun R hR => ?_
    have HR := Lib.hid hR
    clear hR
    go_enter Tryz.func58, Tryz.ntmps58
    have M : Hid (Mem [Loc.k4 w.heap.size (.int .i64 n.places) (.slice A n.trans.length c) (.int .i64 n.source) (.int .i64 n.sink), Loc.bl w.heap.size w] (w.alloc (.cells #[.int .i64 n.places, .slice A n.trans.length c, .int .i64 n.source, .int .i64 n.sink] 24))) := Lib.hid ⟨K4.new w _ _ _ _ _, ⟨(Below.refl _ _).alloc (Nat.le_refl _) _, by simp⟩, True.intro⟩
    have hk4 := M.out.1
    go_wp2_with fail
    all_goals first
      | exact HR.out _ _ (RetI.nil (by rw [fireE, if_pos HT.out]) M.out.2.1.1)
      | (exfalso; go_light; omega)
  · have HT := Lib.hid ht
    obtain ⟨kt, rfl⟩ : ∃ k : Nat, t = k := ⟨t.toNat, by omega⟩
    have hlt : kt < n.trans.length := by omega
    clear ht
    obtain ⟨b, off, vi, vo, rfl, hbl, hbh, hcell, hri, hro⟩ := RdT.at3 HV.out hlt
    have HTR := Lib.hid (validB_tr HVAL.out (gti_mem hlt))
    obtain ⟨Ai, ci, rfl, hci, hmi⟩ := hri.form
    obtain ⟨Ao, co, rfl, hco, hmo⟩ := hro.form
    have HFE : Hid (fireE n m kt = if enB (gti n.trans kt) m then
        if (incL (gti n.trans kt).out (decL (gti n.trans kt).inn m)).any (fun y => decide (100 < y)) then ([], 5)
        else (incL (gti n.trans kt).out (decL (gti n.trans kt).inn m), 0)
      else ([], 12)) := Lib.hid (by rw [fireE, if_neg HT.out, Int.toNat_natCast])
    generalize gti n.trans kt = x at *
    have HRI := Lib.hid hri
    have HRO := Lib.hid hro
    have hil : x.inn.length ≤ 40 := by have := placesB_len HTR.out.2.1; have := HNP.out; omega
    have hol : x.out.length ≤ 40 := by have := placesB_len HTR.out.2.2; have := HNP.out; omega
    have hx1 : ((kt : Int) < 0) = False := by simp
    have hx2 : ((n.trans.length : Int) ≤ (kt : Int)) = False := by simp; omega
    clear hri hro HT
    refine calls_cps fun R hR => ?_
    have HR := Lib.hid hR
    clear hR
    go_enter Tryz.func58, Tryz.ntmps58
    have hcell' : C3 (w.alloc (.cells #[.int .i64 n.places, .slice (some ⟨b, off, none⟩) n.trans.length c, .int .i64 n.source, .int .i64 n.sink] 24)) b (off + kt * 3) (.string x.label) (.slice Ai x.inn.length ci) (.slice Ao x.out.length co) := C3.aft ((Below.refl w.heap.size w).alloc (Nat.le_refl _) _) hcell
    have M : Hid (Mem [Loc.k4 w.heap.size (.int .i64 n.places) (.slice (some ⟨b, off, none⟩) n.trans.length c) (.int .i64 n.source) (.int .i64 n.sink), Loc.bl w.heap.size w, Loc.k3 (w.heap.size + 1) (.string x.label) (.slice Ai x.inn.length ci) (.slice Ao x.out.length co)] ((w.alloc (.cells #[.int .i64 n.places, .slice (some ⟨b, off, none⟩) n.trans.length c, .int .i64 n.source, .int .i64 n.sink] 24)).alloc (.cells #[.string x.label, .slice Ai x.inn.length ci, .slice Ao x.out.length co] 29))) :=
      Lib.hid ⟨K4.aft ((Below.refl _ _).alloc (Nat.le_refl _) _) (K4.new w _ _ _ _ _), ⟨((Below.refl _ _).alloc (Nat.le_refl _) _).alloc (by simp) _, by simp; omega⟩, by have := K3.new (w.alloc (.cells #[.int .i64 n.places, .slice (some ⟨b, off, none⟩) n.trans.length c, .int .i64 n.source, .int .i64 n.sink] 24)) (.string x.label) (.slice Ai x.inn.length ci) (.slice Ao x.out.length co) 29; rw [World.size_alloc] at this; exact this, True.intro⟩
    have hk4 := K4.new w (.int .i64 n.places) (.slice (some ⟨b, off, none⟩) n.trans.length c) (.int .i64 n.source) (.int .i64 n.sink) 24
    have hk3 := M.out.2.2.1
    clear hcell
    go_wp2_with (first
      | (go_at_call 57; refine (enabled_any x _ _ m _ lo hi lo' hi' _ (HRI.out.after M.out.2.1.1) (HW.out.after M.out.2.1.1) (fun p hp => by have := placesB_mem HTR.out.2.1 hp; have := HNP.out; have := HML.out; omega)).mono ?_; rintro e w1 ⟨rfl, hb1⟩; replace M := Lib.hid (M.out.below hb1); clear hb1; replace hk4 := M.out.1; replace hk3 := M.out.2.2.1)
      | (go_at_call 81; refine (clone_any m _ lo' hi' _ (HW.out.after M.out.2.1.1) (by have := HML.out; omega)).mono ?_; rintro e w2 ⟨A1, c1, rfl, ho1, hb1⟩; have HO := Lib.hid ho1; have hsz2 := hb1.size; have hsz1 := M.out.2.2.1.2.2.2; replace M := Lib.hid (M.out.below hb1); clear hb1 ho1; replace hk4 := M.out.1; replace hk3 := M.out.2.2.1))
    · exact HR.out _ _ (RetI.nil (by have hfe := HFE.out; clear HFE; go_light; grind) M.out.2.1.1)
    · obtain ⟨g, cap, hA1, hgl, hgh, hgs⟩ := HO.out.blk (by have := HML.out; omega)
      injection hA1 with e1 _ e3
      subst e1 e3
      go_loopw [37, 11] (fun v37 _ wr => ∃ (k : Nat) (cur : List Int), k ≤ x.inn.length ∧ v37 = .int .i64 k ∧ Hid (decL (x.inn.drop k) cur = decL x.inn m) ∧ Hid (Bnd (100 + k) cur) ∧ Hid (cur.length = m.length) ∧ Hid (Mem [Loc.owI w1.heap.size w2.heap.size (.slice (some ⟨g, 0, none⟩) m.length c1) cur, Loc.k4 w.heap.size (.int .i64 n.places) (.slice (some ⟨b, off, none⟩) n.trans.length c) (.int .i64 n.source) (.int .i64 n.sink), Loc.bl w.heap.size w, Loc.k3 (w.heap.size + 1) (.string x.label) (.slice Ai x.inn.length ci) (.slice Ao x.out.length co), Loc.sz w2.heap.size] wr)) (fun v37 _ _ => x.inn.length - (intOf v37).toNat)
      case atStart => exact ⟨0, m, by omega, rfl, Lib.hid rfl, Lib.hid (fun i => by have := mark2B_at HMK.out i; omega), Lib.hid rfl, Lib.hid ⟨HO.out, M.out.1, M.out.2.1, M.out.2.2.1, Nat.le_refl _, True.intro⟩⟩
      case round =>
        obtain ⟨k, cur, hk, rfl, HI, HBD, HCL, HM⟩ := hrel
        by_cases hltk : k < x.inn.length
        · obtain ⟨bb, oo, rfl, _, _, hce⟩ := RdI.at1 (HRI.out.after HM.out.2.2.1.1) hltk
          have HD := Lib.hid (drop_gti hltk)
          have hpr := placesB_at HTR.out.2.1 hltk
          generalize gti x.inn k = p at *
          obtain ⟨kp, rfl⟩ : ∃ j : Nat, p = j := ⟨p.toNat, by omega⟩
          have hkp : kp < m.length := by have := HNP.out; have := HML.out; omega
          have hkc : kp < cur.length := by rw [HCL.out]; exact hkp
          have hat := OwnI.at1 HM.out.1 hkc
          have hbd := HBD.out kp
          have HO2 := Lib.hid (OwnI.set HM.out.1 kp (gti cur kp - 1))
          clear hpr hkc
          go_wp2_with fail
          refine ⟨⟨k + 1, cur.set kp (gti cur kp - 1), by omega, by go_num, Lib.hid ?_, Lib.hid ?_, Lib.hid (by rw [List.length_set]; exact HCL.out), Lib.hid ⟨HO2.out, HM.out.2.set (by (repeat' (first | exact True.intro | refine And.intro (fun k hk e => ?_) ?_)) <;> (first | exact e | ((try dsimp only [Loc.c1, Loc.c2, Loc.k1, Loc.k2, Loc.k3, Loc.k4, Loc.k6, Loc.fr, Loc.bl, Loc.own, Loc.sz, Loc.rd, Loc.rdI, Loc.rdS, Loc.rdM, Loc.rdT, Loc.ow, Loc.owI] at hk e) <;> omega)))⟩⟩, by simp [intOf]; omega⟩
          · have h := HI.out
            rw [HD.out, decL, Int.toNat_natCast] at h
            exact h
          · have := HBD.out.dec kp
            rw [show (100 + ((k + 1 : Nat) : Int)) = 100 + (k : Int) + 1 by omega]
            exact this
        · obtain rfl : k = x.inn.length := by omega
          have HE : Hid (cur = decL x.inn m) := Lib.hid (by have h := HI.out; simpa [decL] using h)
          have HE0 := HE
          have hk3' := HM.out.2.2.2.1
          clear HI hk3 hk4
          go_wp2_with fail
          clear HE
          go_loopw [51, 13] (fun v51 _ wr => ∃ (k : Nat) (cur : List Int), k ≤ x.out.length ∧ v51 = .int .i64 k ∧ Hid (incL (x.out.drop k) cur = incL x.out (decL x.inn m)) ∧ Hid (Bnd ((100 + x.inn.length) + k) cur) ∧ Hid (cur.length = m.length) ∧ Hid (Mem [Loc.owI w1.heap.size w2.heap.size (.slice (some ⟨g, 0, none⟩) m.length c1) cur, Loc.k4 w.heap.size (.int .i64 n.places) (.slice (some ⟨b, off, none⟩) n.trans.length c) (.int .i64 n.source) (.int .i64 n.sink), Loc.bl w.heap.size w, Loc.k3 (w.heap.size + 1) (.string x.label) (.slice Ai x.inn.length ci) (.slice Ao x.out.length co), Loc.sz w2.heap.size] wr)) (fun v51 _ _ => x.out.length - (intOf v51).toNat)
          case atStart => exact ⟨0, cur, by omega, rfl, Lib.hid (by rw [HE0.out]; rfl), Lib.hid (by simpa using HBD.out), HCL, HM⟩
          case round =>
            clear HE0 HBD HCL HM
            obtain ⟨k, cur, hk, rfl, HI, HBD, HCL, HM⟩ := hrel
            by_cases hltk : k < x.out.length
            · obtain ⟨bb, oo, rfl, _, _, hce⟩ := RdI.at1 (HRO.out.after HM.out.2.2.1.1) hltk
              have HD := Lib.hid (drop_gti hltk)
              have hpr := placesB_at HTR.out.2.2 hltk
              generalize gti x.out k = p at *
              obtain ⟨kp, rfl⟩ : ∃ j : Nat, p = j := ⟨p.toNat, by omega⟩
              have hkp : kp < m.length := by have := HNP.out; have := HML.out; omega
              have hkc : kp < cur.length := by rw [HCL.out]; exact hkp
              have hat := OwnI.at1 HM.out.1 hkc
              have hbd := HBD.out kp
              have HO2 := Lib.hid (OwnI.set HM.out.1 kp (gti cur kp + 1))
              clear hpr hkc
              go_wp2_with fail
              refine ⟨⟨k + 1, cur.set kp (gti cur kp + 1), by omega, by go_num, Lib.hid ?_, Lib.hid ?_, Lib.hid (by rw [List.length_set]; exact HCL.out), Lib.hid ⟨HO2.out, HM.out.2.set (by (repeat' (first | exact True.intro | refine And.intro (fun k hk e => ?_) ?_)) <;> (first | exact e | ((try dsimp only [Loc.c1, Loc.c2, Loc.k1, Loc.k2, Loc.k3, Loc.k4, Loc.k6, Loc.fr, Loc.bl, Loc.own, Loc.sz, Loc.rd, Loc.rdI, Loc.rdS, Loc.rdM, Loc.rdT, Loc.ow, Loc.owI] at hk e) <;> omega)))⟩⟩, by simp [intOf]; omega⟩
              · have h := HI.out
                rw [HD.out, incL, Int.toNat_natCast] at h
                exact h
              · have := HBD.out.inc kp
                rw [show ((100 + x.inn.length) + ((k + 1 : Nat) : Int)) = (100 + x.inn.length) + (k : Int) + 1 by omega]
                exact this
            · obtain rfl : k = x.out.length := by omega
              have HE : Hid (cur = incL x.out (decL x.inn m)) := Lib.hid (by have h := HI.out; simpa [incL] using h)
              clear HI
              have hcp : 0 < cur.length := by rw [HCL.out, HML.out]; omega
              have HMG := Lib.hid (maxL_gt 100 hcp)
              have M := HM
              clear HM
              go_wp2_with (go_at_call 82; refine (maxL_any cur _ w1.heap.size w2.heap.size _ M.out.1.rd hcp).mono ?_; rintro e w1 ⟨rfl, hb1⟩; replace M := Lib.hid (M.out.below hb1); clear hb1; skip)
              all_goals (have hfe := HFE.out; have he := HE.out; have hmg := HMG.out; rw [← he, ← hmg] at hfe)
              · exact HR.out _ _ (RetI.nil (by clear HFE HE HMG he hmg; go_light; grind) M.out.2.2.1.1)
              · exact HR.out _ _ (RetI.mk (l := cur) (by clear HFE HE HMG he hmg; go_light; grind) HCL.out.symm M.out.1.rd (by omega) M.out.2.2.2.2.1 M.out.2.2.1.1)

end Go.Proofs.YtanfaepjamkbjaaGreat
end
section
namespace Go.Proofs.YtanfaepjamkbjaaGreat
set_option linter.unusedSimpArgs false
set_option linter.unusedVariables false
open Go.RowKit

theorem placesB_lt {n : Int} {l : List Int} (h : placesB n l = true) : ∀ (j i : Nat), i < j → j < l.length → gti l i < gti l j
  | 0, i, hij, _ => by omega
  | j + 1, i, hij, hj => by
    have hb : ¬ badP n l (j + 1) := fun hb => by rw [placesB_false hj hb] at h; cases h
    unfold badP at hb
    simp only [Nat.add_sub_cancel] at hb
    by_cases hji : i = j
    · subst hji; omega
    · have := placesB_lt h j i (by omega) (by omega)
      omega
theorem placesB_tail {n : Int} {p : Int} {ps : List Int} (h : placesB n (p :: ps) = true) : placesB n ps = true := by
  apply placesB_true
  intro k hk
  have hb : ¬ badP n (p :: ps) (k + 1) := fun hb => by rw [placesB_false (by simp; omega) hb] at h; cases h
  unfold badP at hb ⊢
  have e1 : gti (p :: ps) (k + 1) = gti ps k := by simp [gti]
  rw [e1] at hb
  rcases Nat.eq_zero_or_pos k with rfl | hk0
  · omega
  · obtain ⟨j, rfl⟩ : ∃ j, k = j + 1 := ⟨k - 1, by omega⟩
    have e2 : gti (p :: ps) (j + 1) = gti ps j := by simp [gti]
    simp only [Nat.add_sub_cancel] at hb ⊢
    rw [e2] at hb
    omega
theorem placesB_head {n : Int} {p : Int} {ps : List Int} (h : placesB n (p :: ps) = true) : 0 ≤ p ∧ p < n ∧ ∀ q ∈ ps, q.toNat ≠ p.toNat := by
  have h0 := placesB_at h (k := 0) (by simp)
  have e : gti (p :: ps) 0 = p := by simp [gti]
  rw [e] at h0
  refine ⟨h0.1, h0.2.1, fun q hq => ?_⟩
  obtain ⟨k, hk, rfl⟩ := mem_gti hq
  have := placesB_lt h (k + 1) 0 (by omega) (by simp; omega)
  have e1 : gti (p :: ps) (k + 1) = gti ps k := by simp [gti]
  rw [e, e1] at this
  omega
theorem decL_nonneg {n : Int} : ∀ {ps m : List Int}, placesB n ps = true → (∀ i, 0 ≤ gti m i) → (∀ p ∈ ps, 1 ≤ gti m p.toNat) → ∀ i, 0 ≤ gti (decL ps m) i
  | [], m, _, h, _, i => h i
  | p :: ps, m, hp, h, h1, i => by
    obtain ⟨hp0, hp1, hpn⟩ := placesB_head hp
    refine decL_nonneg (placesB_tail hp) (fun j => ?_) (fun q hq => ?_) i
    · rw [gti_set]
      have := h j
      have := h1 p (List.mem_cons_self ..)
      split <;> omega
    · rw [gti_set, if_neg (fun e => hpn q hq e.1.symm)]
      exact h1 q (List.mem_cons_of_mem _ hq)
theorem incL_nonneg : ∀ {ps m : List Int}, (∀ i, 0 ≤ gti m i) → ∀ i, 0 ≤ gti (incL ps m) i
  | [], m, h, i => h i
  | p :: ps, m, h, i => by
    rw [incL]
    refine incL_nonneg (fun j => ?_) i
    rw [gti_set]
    have := h j
    have := h p.toNat
    split <;> omega
theorem enB_at {t : Tr} {m : List Int} (h : enB t m = true) {p : Int} (hp : p ∈ t.inn) : gti m p.toNat ≠ 0 := by
  unfold enB at h
  simp only [Bool.not_eq_true', List.any_eq_false, decide_eq_true_eq] at h
  exact h p hp
theorem all01_iff : ∀ {m : List Int}, (∀ i, 0 ≤ gti m i) → all01 m = !m.any fun y => decide (100 < y)
  | [], _ => rfl
  | x :: m, h => by
    have h0 : 0 ≤ x := by have := h 0; simpa [gti] using this
    have := all01_iff (m := m) (fun i => by have := h (i + 1); simpa [gti] using this)
    simp only [all01, List.any_cons]
    rw [this]
    grind
/-- the marking after a transition that is enabled: too many tokens, or a marking -/
theorem fire_mark {n : Net} {m : List Int} {t : Tr} (hm : mark2B n m = true) (ht : placesB n.places t.inn = true) (he : enB t m = true) :
    mark2B n (incL t.out (decL t.inn m)) = !(incL t.out (decL t.inn m)).any fun y => decide (100 < y) := by
  have hnn : ∀ i, 0 ≤ gti (incL t.out (decL t.inn m)) i := incL_nonneg (decL_nonneg ht (fun i => (mark2B_at hm i).1) (fun p hp => by
    have := enB_at he hp
    have := (mark2B_at hm p.toNat).1
    omega))
  unfold mark2B
  rw [if_neg (by rw [incL_len, decL_len]; have := mark2B_len hm; omega), all01_iff hnn]
theorem fireE_mark {n : Net} {m : List Int} {t : Int} (hm : markB n m = true) (h : (fireE n m t).2 = 0) : markB n (fireE n m t).1 = true := by
  unfold markB at hm ⊢
  simp only [Bool.and_eq_true] at hm ⊢
  refine ⟨hm.1, ?_⟩
  unfold fireE at h ⊢
  split
  · rename_i h1; rw [if_pos h1] at h; simp at h
  · rename_i h1
    rw [if_neg h1] at h
    split
    · rename_i h2
      rw [if_pos h2] at h
      split
      · rename_i h3; rw [if_pos h3] at h; simp at h
      · rename_i h3
        have htr := validB_tr hm.1 (gti_mem (l := n.trans) (k := t.toNat) (by omega))
        rw [fire_mark hm.2 htr.2.1 h2]
        simpa using h3
    · rename_i h2; rw [if_neg h2] at h; simp at h

def FireE (n : Net) (m : List Int) (t : Int) : List Int × Int := if markB n m then fireE n m t else ([], 1)
set_option maxHeartbeats 1000000 in
theorem Fire_any (n : Net) (m : List Int) (t : Int) (vt v : Value) (lo hi lo' hi' : Nat) (w : World) (hv : RdT w lo hi vt n.trans) (hm : RdI w lo' hi' v m) :
    Calls Tryz.prog 23 #[netV n vt, v, .int .i64 t] w (RetI w (FireE n m t)) := by
  obtain ⟨A, c, rfl, hc, hmm⟩ := hv.form
  obtain ⟨A2, c2, rfl, hc2, hmm2⟩ := hm.form
  have HV := Lib.hid hv
  have HW := Lib.hid hm
  clear hv hm
  cases hvb : markB n m <;> have HVB := Lib.hid hvb <;> clear hvb
  all_goals
    refine calls_cps fun R hR => ?_
    have HR := Lib.hid hR
    clear hR
    go_enter Tryz.func23, Tryz.ntmps23
    have M : Hid (Mem [Loc.k4 w.heap.size (.int .i64 n.places) (.slice A n.trans.length c) (.int .i64 n.source) (.int .i64 n.sink), Loc.bl w.heap.size w] (w.alloc (.cells #[.int .i64 n.places, .slice A n.trans.length c, .int .i64 n.source, .int .i64 n.sink] 24))) := Lib.hid ⟨K4.new w _ _ _ _ _, ⟨(Below.refl _ _).alloc (Nat.le_refl _) _, by simp⟩, True.intro⟩
    have hk4 := M.out.1
    go_wp2_with (first
      | (go_at_call 56; refine (marking_is HVB.out _ _ lo hi lo' hi' _ (HV.out.after M.out.2.1.1) (HW.out.after M.out.2.1.1)).mono ?_; rintro e w1 ⟨rfl, hb1⟩; replace M := Lib.hid (M.out.below hb1); clear hb1; replace hk4 := M.out.1)
      | (go_at_call 58; refine (fire_any n m t _ _ lo hi lo' hi' _ (HV.out.after M.out.2.1.1) (HW.out.after M.out.2.1.1) HVB.out).mono ?_; rintro e w2 ⟨A1, c1, rfl, hr1, hb1⟩; have HR1 := Lib.hid hr1; have hws := M.out.2.1.2; replace M := Lib.hid (M.out.below hb1); clear hb1 hr1))
  · exact HR.out _ _ (RetI.nil (by rw [FireE, HVB.out]; rfl) M.out.2.1.1)
  · exact HR.out _ _ (RetI.mk (by rw [FireE, HVB.out]; rfl) rfl HR1.out hws (Nat.le_refl _) M.out.2.1.1)

def canL (m : List Int) : List Int → Bool
  | [] => true
  | p :: ps => if gti m p.toNat < 1 then false else canL m ps
theorem canL_en {m : List Int} (hm : ∀ i, 0 ≤ gti m i) : ∀ ps : List Int, canL m ps = !ps.any fun p => decide (gti m p.toNat = 0)
  | [] => rfl
  | p :: ps => by
    have := hm p.toNat
    rw [canL, canL_en hm ps, List.any_cons]
    grind
set_option maxHeartbeats 1000000 in
theorem can_any (n : Net) (m : List Int) (t : Nat) (vt v : Value) (lo hi lo' hi' : Nat) (w : World) (hv : RdT w lo hi vt n.trans) (hm : RdI w lo' hi' v m) (ht : t < n.trans.length) (hin : ∀ k, k < (gti n.trans t).inn.length → 0 ≤ gti (gti n.trans t).inn k ∧ gti (gti n.trans t).inn k < m.length) :
    Calls Tryz.prog 29 #[netV n vt, v, .int .i64 t] w fun e w' => e = .returned (.bool (canL m (gti n.trans t).inn)) ∧ Below w.heap.size w w' := by
  obtain ⟨A, c, rfl, hc, hmm⟩ := hv.form
  obtain ⟨A2, c2, rfl, hc2, hmm2⟩ := hm.form
  obtain ⟨b, off, vi, vo, rfl, hbl, hbh, hcell, hri, hro⟩ := RdT.at3 hv ht
  obtain ⟨Ai, ci, rfl, hci, hmi⟩ := hri.form
  have HV := Lib.hid hv
  have HW := Lib.hid hm
  have HRI := Lib.hid hri
  have HN := Lib.hid hin
  clear hv hm hri hro hin
  generalize gti n.trans t = x at *
  refine calls_cps fun R hR => ?_
  have HR := Lib.hid hR
  clear hR
  go_enter Tryz.func29, Tryz.ntmps29
  have M : Hid (Mem [Loc.k4 w.heap.size (.int .i64 n.places) (.slice (some ⟨b, off, none⟩) n.trans.length c) (.int .i64 n.source) (.int .i64 n.sink), Loc.bl w.heap.size w] (w.alloc (.cells #[.int .i64 n.places, .slice (some ⟨b, off, none⟩) n.trans.length c, .int .i64 n.source, .int .i64 n.sink] 24))) := Lib.hid ⟨K4.new w _ _ _ _ _, ⟨(Below.refl _ _).alloc (Nat.le_refl _) _, by simp⟩, True.intro⟩
  have hk4 := M.out.1
  replace hcell := C3.aft ((Below.refl w.heap.size w).alloc (Nat.le_refl _) (.cells #[.int .i64 n.places, .slice (some ⟨b, off, none⟩) n.trans.length c, .int .i64 n.source, .int .i64 n.sink] 24)) hcell
  go_wp2_with fail
  generalize w.alloc (.cells #[.int .i64 n.places, .slice (some ⟨b, off, none⟩) n.trans.length c, .int .i64 n.source, .int .i64 n.sink] 24) = W at *
  go_loop [7] (fun v7 => ∃ k : Nat, k ≤ x.inn.length ∧ v7 = .int .i64 k ∧ Hid (canL m (x.inn.drop k) = canL m x.inn)) (fun v7 => x.inn.length - (intOf v7).toNat)
  case atStart => exact ⟨0, by omega, rfl, Lib.hid rfl⟩
  case round =>
    obtain ⟨k, hk, rfl, HI⟩ := hrel
    by_cases hlt : k < x.inn.length
    · have hpr := HN.out k hlt
      obtain ⟨bb, oo, rfl, _, _, hce⟩ := RdI.at1 (HRI.out.after M.out.2.1.1) hlt
      have HD := Lib.hid (drop_gti hlt)
      generalize gti x.inn k = p at *
      obtain ⟨kp, rfl⟩ : ∃ j : Nat, p = j := ⟨p.toNat, by omega⟩
      have hkp : kp < m.length := by omega
      clear hpr
      obtain ⟨b2, o2, rfl, _, _, hce2⟩ := RdI.at1 (HW.out.after M.out.2.1.1) hkp
      have HJ : Hid (canL m x.inn = if gti m kp < 1 then false else canL m (x.inn.drop (k + 1))) := Lib.hid (by rw [← HI.out, HD.out, canL, Int.toNat_natCast])
      generalize gti m kp = y at *
      go_wp2_with fail
      all_goals have hj := HJ.out
      all_goals first
        | ((with_reducible refine HR.out _ _ ⟨?_, ?_⟩) <;> first | exact ret_bool (by clear HJ; go_light; grind) | exact M.out.2.1.1)
        | (refine ⟨⟨k + 1, by omega, by go_num, Lib.hid (by clear HJ; go_light; grind)⟩, by simp [intOf]; omega⟩)
    · obtain rfl : k = x.inn.length := by omega
      have HE : Hid (canL m x.inn = true) := Lib.hid (by rw [← HI.out]; simp [canL])
      clear HI
      go_wp2_with fail
      all_goals ((with_reducible refine HR.out _ _ ⟨?_, ?_⟩) <;> first | exact ret_bool (by rw [HE.out]) | exact M.out.2.1.1)
end Go.Proofs.YtanfaepjamkbjaaGreat
end
section
namespace Go.Proofs.YtanfaepjamkbjaaGreat
set_option linter.unusedSimpArgs false
set_option linter.unusedVariables false
open Go.RowKit

theorem rmarking_is {n : Net} {m : List Int} {b : Bool} (hb : mark2B n m = b) (vt v : Value) (lo hi : Nat) (w : World) (hv : RdI w lo hi v m) :
    Calls Tryz.prog 61 #[netV n vt, v] w fun e w' => e = .returned (.bool b) ∧ Below w.heap.size w w' := hb ▸ rmarking_any n vt m v lo hi w hv
theorem Mem.lit0 {L : List Loc} {w : World} (hM : Mem L w) : Mem (Loc.owI w.heap.size (w.heap.size + 1) (.slice (some ⟨w.heap.size, 0, none⟩) 0 0) [] :: L) (w.alloc (.cells #[] 3)) :=
  ⟨Own.lit w 3 w.heap.size [] #[] 0 rfl rfl (Nat.le_refl _) (Nat.zero_le _) (fun _ => rfl), hM.alloc _⟩
theorem Mem.lit1 {L : List Loc} {w : World} (hM : Mem L w) (x : Int) : Mem (Loc.owI w.heap.size (w.heap.size + 1) (.slice (some ⟨w.heap.size, 0, none⟩) 1 1) [x] :: L) (w.alloc (.cells #[.int .i64 x] 3)) :=
  ⟨Own.lit w 3 w.heap.size [x] #[.int .i64 x] 1 rfl rfl (Nat.le_refl _) (by decide) (fun _ => rfl), hM.alloc _⟩
theorem Mem.app0 {w : World} {L : List Loc} {lo hi : Nat} {A : Option Addr} {c : Nat} {m : List Int} (h : Mem (Loc.owI lo hi (.slice A (([] : List Int).length + m.length) c) ([] ++ m) :: L) w) : Mem (Loc.owI lo hi (.slice A m.length c) m :: L) w := by
  simpa only [List.length_nil, Nat.zero_add, List.nil_append] using h

set_option maxRecDepth 100000 in
set_option maxHeartbeats 4000000 in
theorem rFire_any (n : Net) (m : List Int) (t : Int) (vt v : Value) (lo hi lo' hi' : Nat) (w : World) (hv : RdT w lo hi vt n.trans) (hm : RdI w lo' hi' v m) :
    Calls Tryz.prog 30 #[netV n vt, v, .int .i64 t] w (RetI w (FireE n m t)) := by
  obtain ⟨A, c, rfl, hc, hmm⟩ := hv.form
  obtain ⟨A2, c2, rfl, hc2, hmm2⟩ := hm.form
  have HV := Lib.hid hv
  have HW := Lib.hid hm
  clear hv hm
  cases hvb : validB n with
  | false =>
    have HVB := Lib.hid hvb
    clear hvb
    refine calls_cps fun R hR => ?_
    have HR := Lib.hid hR
    clear hR
    go_enter Tryz.func30, Tryz.ntmps30
    have M : Hid (Mem [Loc.k4 w.heap.size (.int .i64 n.places) (.slice A n.trans.length c) (.int .i64 n.source) (.int .i64 n.sink), Loc.bl w.heap.size w] (w.alloc (.cells #[.int .i64 n.places, .slice A n.trans.length c, .int .i64 n.source, .int .i64 n.sink] 24))) := Lib.hid ⟨K4.new w _ _ _ _ _, ⟨(Below.refl _ _).alloc (Nat.le_refl _) _, by simp⟩, True.intro⟩
    have hk4 := M.out.1
    go_wp2_with (go_at_call 11; refine (rvalid_is HVB.out _ lo hi _ (HV.out.after M.out.2.1.1)).mono ?_; rintro e w1 ⟨rfl, hb1⟩; replace M := Lib.hid (M.out.below hb1); clear hb1; replace hk4 := M.out.1)
    exact HR.out _ _ (RetI.nil (by rw [FireE, markB, HVB.out]; rfl) M.out.2.1.1)
  | true =>
  cases hmb : mark2B n m with
  | false =>
    have HVB := Lib.hid hvb
    have HMB := Lib.hid hmb
    clear hvb hmb
    refine calls_cps fun R hR => ?_
    have HR := Lib.hid hR
    clear hR
    go_enter Tryz.func30, Tryz.ntmps30
    have M : Hid (Mem [Loc.k4 w.heap.size (.int .i64 n.places) (.slice A n.trans.length c) (.int .i64 n.source) (.int .i64 n.sink), Loc.bl w.heap.size w] (w.alloc (.cells #[.int .i64 n.places, .slice A n.trans.length c, .int .i64 n.source, .int .i64 n.sink] 24))) := Lib.hid ⟨K4.new w _ _ _ _ _, ⟨(Below.refl _ _).alloc (Nat.le_refl _) _, by simp⟩, True.intro⟩
    have hk4 := M.out.1
    go_wp2_with (first
      | (go_at_call 11; refine (rvalid_is HVB.out _ lo hi _ (HV.out.after M.out.2.1.1)).mono ?_; rintro e w1 ⟨rfl, hb1⟩; replace M := Lib.hid (M.out.below hb1); clear hb1; replace hk4 := M.out.1)
      | (go_at_call 61; refine (rmarking_is HMB.out _ _ lo' hi' _ (HW.out.after M.out.2.1.1)).mono ?_; rintro e w1 ⟨rfl, hb1⟩; replace M := Lib.hid (M.out.below hb1); clear hb1; replace hk4 := M.out.1))
    exact HR.out _ _ (RetI.nil (by rw [FireE, markB, HVB.out, HMB.out]; rfl) M.out.2.1.1)
  | true =>
  have HVB := Lib.hid hvb
  have HMB := Lib.hid hmb
  have hpl := validB_places hvb
  have hlen := mark2B_len hmb
  have HFF : Hid (FireE n m t = fireE n m t) := Lib.hid (by rw [FireE, markB, hvb, hmb]; rfl)
  obtain ⟨np, hnp⟩ : ∃ k : Nat, n.places = k := ⟨n.places.toNat, by omega⟩
  have hml : m.length = np := by omega
  have hnp1 : 1 ≤ np := by omega
  have hnp40 : np ≤ 40 := by omega
  have HNP := Lib.hid hnp
  have HML := Lib.hid hml
  clear hpl hlen hnp hml hvb hmb
  by_cases ht : t < 0 ∨ n.trans.length ≤ t
  · have HT := Lib.hid ht
    refine calls_cps fun R hR => ?_
    have HR := Lib.hid hR
    clear hR
    go_enter Tryz.func30, Tryz.ntmps30
    have M : Hid (Mem [Loc.k4 w.heap.size (.int .i64 n.places) (.slice A n.trans.length c) (.int .i64 n.source) (.int .i64 n.sink), Loc.bl w.heap.size w] (w.alloc (.cells #[.int .i64 n.places, .slice A n.trans.length c, .int .i64 n.source, .int .i64 n.sink] 24))) := Lib.hid ⟨K4.new w _ _ _ _ _, ⟨(Below.refl _ _).alloc (Nat.le_refl _) _, by simp⟩, True.intro⟩
    have hk4 := M.out.1
    go_wp2_with (first
      | (go_at_call 11; refine (rvalid_is HVB.out _ lo hi _ (HV.out.after M.out.2.1.1)).mono ?_; rintro e w1 ⟨rfl, hb1⟩; replace M := Lib.hid (M.out.below hb1); clear hb1; replace hk4 := M.out.1)
      | (go_at_call 61; refine (rmarking_is HMB.out _ _ lo' hi' _ (HW.out.after M.out.2.1.1)).mono ?_; rintro e w1 ⟨rfl, hb1⟩; replace M := Lib.hid (M.out.below hb1); clear hb1; replace hk4 := M.out.1))
    all_goals first
      | exact HR.out _ _ (RetI.nil (by rw [HFF.out, fireE, if_pos HT.out]) M.out.2.1.1)
      | (exfalso; go_light; omega)
  · have HT := Lib.hid ht
    obtain ⟨kt, rfl⟩ : ∃ k : Nat, t = k := ⟨t.toNat, by omega⟩
    have hlt : kt < n.trans.length := by omega
    clear ht
    obtain ⟨b, off, vi, vo, rfl, hbl, hbh, hcell, hri, hro⟩ := RdT.at3 HV.out hlt
    have HTR := Lib.hid (validB_tr HVB.out (gti_mem hlt))
    obtain ⟨Ai, ci, rfl, hci, hmi⟩ := hri.form
    obtain ⟨Ao, co, rfl, hco, hmo⟩ := hro.form
    have HFE : Hid (FireE n m kt = if enB (gti n.trans kt) m then
        if (incL (gti n.trans kt).out (decL (gti n.trans kt).inn m)).any (fun y => decide (100 < y)) then ([], 5)
        else (incL (gti n.trans kt).out (decL (gti n.trans kt).inn m), 0)
      else ([], 12)) := Lib.hid (by rw [HFF.out, fireE, if_neg HT.out, Int.toNat_natCast])
    have HCAN : Hid (∀ W, Below w.heap.size w W → Calls Tryz.prog 29 #[netV n (.slice (some ⟨b, off, none⟩) n.trans.length c), .slice A2 m.length c2, .int .i64 kt] W fun e w' => e = .returned (.bool (enB (gti n.trans kt) m)) ∧ Below W.heap.size W w') :=
      Lib.hid (fun W hW => by
        have h := can_any n m kt _ _ lo hi lo' hi' W (HV.out.after hW) (HW.out.after hW) hlt (fun k hk => by
          have := placesB_at HTR.out.2.1 hk
          have := HNP.out
          have := HML.out
          omega)
        rw [canL_en (fun i => (mark2B_at HMB.out i).1)] at h
        exact h)
    have HFM : Hid (enB (gti n.trans kt) m = true → mark2B n (incL (gti n.trans kt).out (decL (gti n.trans kt).inn m)) = !(incL (gti n.trans kt).out (decL (gti n.trans kt).inn m)).any fun y => decide (100 < y)) := Lib.hid (fun h => fire_mark HMB.out HTR.out.2.1 h)
    generalize gti n.trans kt = x at *
    have HRI := Lib.hid hri
    have HRO := Lib.hid hro
    have hil : x.inn.length ≤ 40 := by have := placesB_len HTR.out.2.1; have := HNP.out; omega
    have hol : x.out.length ≤ 40 := by have := placesB_len HTR.out.2.2; have := HNP.out; omega
    have hx1 : ((kt : Int) < 0) = False := by simp
    have hx2 : ((n.trans.length : Int) ≤ (kt : Int)) = False := by simp; omega
    have HC := Lib.hid hcell
    clear hri hro HT HFF hcell
    refine calls_cps fun R hR => ?_
    have HR := Lib.hid hR
    clear hR
    go_enter Tryz.func30, Tryz.ntmps30
    have M : Hid (Mem [Loc.k4 w.heap.size (.int .i64 n.places) (.slice (some ⟨b, off, none⟩) n.trans.length c) (.int .i64 n.source) (.int .i64 n.sink), Loc.bl w.heap.size w] (w.alloc (.cells #[.int .i64 n.places, .slice (some ⟨b, off, none⟩) n.trans.length c, .int .i64 n.source, .int .i64 n.sink] 24))) := Lib.hid ⟨K4.new w _ _ _ _ _, ⟨(Below.refl _ _).alloc (Nat.le_refl _) _, by simp⟩, True.intro⟩
    have hk4 := M.out.1
    go_wp2_with (first
      | (go_at_call 11; refine (rvalid_is HVB.out _ lo hi _ (HV.out.after M.out.2.1.1)).mono ?_; rintro e w1 ⟨rfl, hb1⟩; replace M := Lib.hid (M.out.below hb1); clear hb1; replace hk4 := M.out.1)
      | (go_at_call 61; refine (rmarking_is HMB.out _ _ lo' hi' _ (HW.out.after M.out.2.1.1)).mono ?_; rintro e w1 ⟨rfl, hb1⟩; replace M := Lib.hid (M.out.below hb1); clear hb1; replace hk4 := M.out.1)
      | (go_at_call 29; refine (HCAN.out _ M.out.2.1.1).mono ?_; rintro e w3 ⟨rfl, hb1⟩; replace M := Lib.hid (M.out.below hb1); clear hb1; replace hk4 := M.out.1; have hz3 := M.out.1.2.2.2.2)
      | (at_builtin; refine wpList_app rfl _ _ rfl ti_int (fun _ => rfl) oneI rfl rfl (Mem.lit0 M.out) (by (repeat' (first | exact True.intro | refine And.intro (fun k hk e => ?_) ?_)) <;> (first | exact e | ((try dsimp only [Loc.c1, Loc.c2, Loc.k1, Loc.k2, Loc.k3, Loc.k4, Loc.k6, Loc.fr, Loc.bl, Loc.own, Loc.sz, Loc.rd, Loc.rdI, Loc.rdS, Loc.rdM, Loc.rdT, Loc.ow, Loc.owI] at hk e) <;> omega))) (HW.out.after (M.out.2.1.1.alloc M.out.2.1.2 _)) (by have := HML.out; simp; omega) (by have := HML.out; simp; omega) (by simp) ?_; intro A1 c1 w4 hM1 hs1 hch1; replace M := Lib.hid (Mem.app0 hM1); clear hM1 hch1; (try simp only [World.size_alloc] at hs1)))
    · exact HR.out _ _ (RetI.nil (by have hfe := HFE.out; clear HFE; go_light; grind) M.out.2.1.1)
    · have hEN : enB x m = true := by go_light; grind
      have HEN := Lib.hid hEN
      clear hEN
      obtain ⟨g, cap, hA1, hgl, hgh, hgs⟩ := M.out.1.blk (by have := HML.out; omega)
      injection hA1 with e1 _ e3
      subst e1 e3
      go_loopw [9] (fun v9 wr => ∃ (k : Nat) (cur : List Int), k ≤ x.inn.length ∧ v9 = .int .i64 k ∧ Hid (decL (x.inn.drop k) cur = decL x.inn m) ∧ Hid (Bnd (100 + k) cur) ∧ Hid (cur.length = m.length) ∧ Hid (Mem [Loc.owI w3.heap.size w4.heap.size (.slice (some ⟨g, 0, none⟩) m.length c1) cur, Loc.k4 w.heap.size (.int .i64 n.places) (.slice (some ⟨b, off, none⟩) n.trans.length c) (.int .i64 n.source) (.int .i64 n.sink), Loc.bl w.heap.size w, Loc.sz w4.heap.size] wr)) (fun v9 _ => x.inn.length - (intOf v9).toNat)
      case atStart => exact ⟨0, m, by omega, rfl, Lib.hid rfl, Lib.hid (fun i => by have := mark2B_at HMB.out i; omega), Lib.hid rfl, Lib.hid ⟨M.out.1, M.out.2.1, M.out.2.2.1, Nat.le_refl _, True.intro⟩⟩
      case round =>
        obtain ⟨k, cur, hk, rfl, HI, HBD, HCL, HM⟩ := hrel
        replace hk4 := HM.out.2.1
        have hcr := C3.aft HM.out.2.2.1.1 HC.out
        by_cases hltk : k < x.inn.length
        · obtain ⟨bb, oo, rfl, _, _, hce⟩ := RdI.at1 (HRI.out.after HM.out.2.2.1.1) hltk
          have HD := Lib.hid (drop_gti hltk)
          have hpr := placesB_at HTR.out.2.1 hltk
          generalize gti x.inn k = p at *
          obtain ⟨kp, rfl⟩ : ∃ j : Nat, p = j := ⟨p.toNat, by omega⟩
          have hkp : kp < m.length := by have := HNP.out; have := HML.out; omega
          have hkc : kp < cur.length := by rw [HCL.out]; exact hkp
          have hat := OwnI.at1 HM.out.1 hkc
          have hbd := HBD.out kp
          have HO2 := Lib.hid (OwnI.set (HM.out.drew).1 kp (gti cur kp - 1))
          clear hpr hkc
          go_wp2_with fail
          go_still_tail 24, (by kernel_rfl)
          change wpList _ _ _ _ _ wr.drew
          go_wp2_with fail
          have hA : Hid (decL (x.inn.drop (k + 1)) (cur.set kp (gti cur kp - 1)) = decL x.inn m) := Lib.hid (by
            have h := HI.out
            rw [HD.out, decL, Int.toNat_natCast] at h
            exact h)
          have hB : Hid (Bnd (100 + ((k + 1 : Nat) : Int)) (cur.set kp (gti cur kp - 1))) := Lib.hid (by
            have := HBD.out.dec kp
            rw [show (100 + ((k + 1 : Nat) : Int)) = 100 + (k : Int) + 1 by omega]
            exact this)
          have hC : Hid ((cur.set kp (gti cur kp - 1)).length = m.length) := Lib.hid (by rw [List.length_set]; exact HCL.out)
          have hk1 : k + 1 ≤ x.inn.length := by omega
          have hMr := HM.out.drew.2.set (g := g) (i := kp) (u := .int .i64 (gti cur kp - 1)) (by (repeat' (first | exact True.intro | refine And.intro (fun k hk e => ?_) ?_)) <;> (first | exact e | ((try dsimp only [Loc.c1, Loc.c2, Loc.k1, Loc.k2, Loc.k3, Loc.k4, Loc.k6, Loc.fr, Loc.bl, Loc.own, Loc.sz, Loc.rd, Loc.rdI, Loc.rdS, Loc.rdM, Loc.rdT, Loc.ow, Loc.owI] at hk e) <;> omega)))
          go_roundw
          case rel => (first | exact ⟨k + 1, cur.set kp (gti cur kp - 1), hk1, rfl, hA, hB, hC, Lib.hid ⟨HO2.out, hMr⟩⟩ | ((repeat apply Exists.intro); exact ⟨⟨k + 1, cur.set kp (gti cur kp - 1), hk1, rfl, hA, hB, hC, Lib.hid ⟨HO2.out, hMr⟩⟩, rfl⟩))
          case measure => simp [intOf]; omega
        · obtain rfl : k = x.inn.length := by omega
          have HE : Hid (cur = decL x.inn m) := Lib.hid (by have h := HI.out; simpa [decL] using h)
          clear HI
          go_wp2_with fail
          go_loopw [10] (fun v10 wr => ∃ (k : Nat) (cur : List Int), k ≤ x.out.length ∧ v10 = .int .i64 k ∧ Hid (incL (x.out.drop k) cur = incL x.out (decL x.inn m)) ∧ Hid (Bnd ((100 + x.inn.length) + k) cur) ∧ Hid (cur.length = m.length) ∧ Hid (Mem [Loc.owI w3.heap.size w4.heap.size (.slice (some ⟨g, 0, none⟩) m.length c1) cur, Loc.k4 w.heap.size (.int .i64 n.places) (.slice (some ⟨b, off, none⟩) n.trans.length c) (.int .i64 n.source) (.int .i64 n.sink), Loc.bl w.heap.size w, Loc.sz w4.heap.size] wr)) (fun v10 _ => x.out.length - (intOf v10).toNat)
          case atStart => exact ⟨0, cur, by omega, rfl, Lib.hid (by rw [HE.out]; rfl), Lib.hid (by simpa using HBD.out), HCL, HM⟩
          case round =>
            clear HE HBD HCL HM hk4 hcr
            obtain ⟨k, cur, hk, rfl, HI, HBD, HCL, HM⟩ := hrel
            have hk4 := HM.out.2.1
            have hcr := C3.aft HM.out.2.2.1.1 HC.out
            by_cases hltk : k < x.out.length
            · obtain ⟨bb, oo, rfl, _, _, hce⟩ := RdI.at1 (HRO.out.after HM.out.2.2.1.1) hltk
              have HD := Lib.hid (drop_gti hltk)
              have hpr := placesB_at HTR.out.2.2 hltk
              generalize gti x.out k = p at *
              obtain ⟨kp, rfl⟩ : ∃ j : Nat, p = j := ⟨p.toNat, by omega⟩
              have hkp : kp < m.length := by have := HNP.out; have := HML.out; omega
              have hkc : kp < cur.length := by rw [HCL.out]; exact hkp
              have hat := OwnI.at1 HM.out.1 hkc
              have hbd := HBD.out kp
              have HO2 := Lib.hid (OwnI.set (HM.out.drew).1 kp (gti cur kp + 1))
              clear hpr hkc
              go_wp2_with fail
              go_still_tail 24, (by kernel_rfl)
              change wpList _ _ _ _ _ wr.drew
              go_wp2_with fail
              have hA : Hid (incL (x.out.drop (k + 1)) (cur.set kp (gti cur kp + 1)) = incL x.out (decL x.inn m)) := Lib.hid (by
                have h := HI.out
                rw [HD.out, incL, Int.toNat_natCast] at h
                exact h)
              have hB : Hid (Bnd ((100 + x.inn.length) + ((k + 1 : Nat) : Int)) (cur.set kp (gti cur kp + 1))) := Lib.hid (by
                have := HBD.out.inc kp
                rw [show ((100 + x.inn.length) + ((k + 1 : Nat) : Int)) = (100 + x.inn.length) + (k : Int) + 1 by omega]
                exact this)
              have hC : Hid ((cur.set kp (gti cur kp + 1)).length = m.length) := Lib.hid (by rw [List.length_set]; exact HCL.out)
              have hk1 : k + 1 ≤ x.out.length := by omega
              have hMr := HM.out.drew.2.set (g := g) (i := kp) (u := .int .i64 (gti cur kp + 1)) (by (repeat' (first | exact True.intro | refine And.intro (fun k hk e => ?_) ?_)) <;> (first | exact e | ((try dsimp only [Loc.c1, Loc.c2, Loc.k1, Loc.k2, Loc.k3, Loc.k4, Loc.k6, Loc.fr, Loc.bl, Loc.own, Loc.sz, Loc.rd, Loc.rdI, Loc.rdS, Loc.rdM, Loc.rdT, Loc.ow, Loc.owI] at hk e) <;> omega)))
              go_roundw
              case rel => (first | exact ⟨k + 1, cur.set kp (gti cur kp + 1), hk1, rfl, hA, hB, hC, Lib.hid ⟨HO2.out, hMr⟩⟩ | ((repeat apply Exists.intro); exact ⟨⟨k + 1, cur.set kp (gti cur kp + 1), hk1, rfl, hA, hB, hC, Lib.hid ⟨HO2.out, hMr⟩⟩, rfl⟩))
              case measure => simp [intOf]; omega
            · obtain rfl : k = x.out.length := by omega
              have HE : Hid (cur = incL x.out (decL x.inn m)) := Lib.hid (by have h := HI.out; simpa [incL] using h)
              clear HI
              have M := HM
              clear HM
              go_wp2_with (go_at_call 61; refine (rmarking_any n _ cur _ w3.heap.size w4.heap.size _ M.out.1.rd).mono ?_; rintro e w1 ⟨rfl, hb1⟩; replace M := Lib.hid (M.out.below hb1); clear hb1; skip)
              all_goals (have hfe := HFE.out; have he := HE.out; have hmg := HFM.out HEN.out; rw [← he] at hfe hmg; rw [if_pos HEN.out] at hfe)
              all_goals first
                | exact HR.out _ _ (RetI.nil (by clear HFE HE HFM he; go_light; grind) M.out.2.2.1.1)
                | exact HR.out _ _ (RetI.mk (l := cur) (by clear HFE HE HFM he; go_light; grind) HCL.out.symm M.out.1.rd (by omega) M.out.2.2.2.1 M.out.2.2.1.1)
end Go.Proofs.YtanfaepjamkbjaaGreat
end
section
namespace Go.Proofs.YtanfaepjamkbjaaGreat
set_option linter.unusedSimpArgs false
set_option linter.unusedVariables false
open Go.RowKit

structure Mvx where
  fr : Int
  tt : Int
  sym : Int
instance : Inhabited Mvx := ⟨⟨0, 0, 0⟩⟩
structure Spc where
  st : List (List Int)
  mv : List Mvx
  full : Bool
def findI (S : List (List Int)) (m : List Int) : Int := firstAt (fun x => decide (x = m)) S
def xstS (most : Int) (i : Nat) (s : Spc) (r : List Int × Int) (t : Int) : Option Spc :=
  if r.2 ≠ 0 ∨ (findI s.st r.1 < 0 ∧ most ≤ s.st.length) then some ⟨s.st, s.mv, false⟩
  else if 20000 ≤ s.mv.length then none
  else some ⟨if findI s.st r.1 < 0 then s.st ++ [r.1] else s.st, s.mv ++ [⟨i, if findI s.st r.1 < 0 then s.st.length else findI s.st r.1, t⟩], s.full⟩
/-! ## where a marking is -/
theorem mem_gti' {α : Type} [Inhabited α] {l : List α} {x : α} (h : x ∈ l) : ∃ k, k < l.length ∧ gti l k = x := by
  obtain ⟨k, hk, rfl⟩ := List.getElem_of_mem h
  exact ⟨k, hk, by unfold gti; rw [List.getElem?_eq_getElem hk]; rfl⟩
theorem findI_neg {S : List (List Int)} {m : List Int} : findI S m < 0 ↔ m ∉ S := by
  have h := firstAt_any (fun x => decide (x = m)) S
  unfold findI
  rw [Bool.eq_iff_iff, List.any_eq_true] at h
  simp only [decide_eq_true_eq] at h
  constructor
  · intro hn hm
    have := h.2 ⟨m, hm, rfl⟩
    omega
  · intro hm
    by_cases h0 : 0 ≤ firstAt (fun x => decide (x = m)) S
    · obtain ⟨x, hx, rfl⟩ := h.1 h0
      exact absurd hx hm
    · omega
theorem findI_pos {S : List (List Int)} {m : List Int} (h : 0 ≤ findI S m) : ∃ k : Nat, findI S m = k ∧ S[k]? = some m ∧ k < S.length := by
  unfold findI firstAt at h ⊢
  cases e : S.findIdx? (fun x => decide (x = m)) with
  | none => rw [e] at h; simp at h
  | some k =>
    refine ⟨k, rfl, ?_, ?_⟩
    · have := List.findIdx?_eq_some_iff_getElem.1 e
      obtain ⟨h1, h2, _⟩ := this
      rw [List.getElem?_eq_getElem h1]
      exact congrArg some (of_decide_eq_true h2)
    · exact (List.findIdx?_eq_some_iff_getElem.1 e).1
theorem findI_at {S : List (List Int)} {m : List Int} {k : Nat} (hk : S[k]? = some m) (hn : ∀ j, j < k → S[j]? ≠ some m) : findI S m = k :=
  firstAt_some hk (decide_eq_true rfl) (fun j a hj ha => decide_eq_false (fun e => hn j hj (by rw [ha, e])))
/-! ## what holds of a space while it is made -/
theorem FireE_mark {n : Net} {m : List Int} {t : Int} (hm : markB n m = true) (h : (FireE n m t).2 = 0) : markB n (FireE n m t).1 = true := by
  unfold FireE at h ⊢
  rw [if_pos hm] at h ⊢
  exact fireE_mark hm h
theorem markB_len {n : Net} {m : List Int} (h : markB n m = true) : 1 ≤ m.length ∧ m.length ≤ 40 ∧ (m.length : Int) = n.places := by
  unfold markB at h
  simp only [Bool.and_eq_true] at h
  have := mark2B_len h.2
  have := validB_places h.1
  omega
structure SI (n : Net) (most : Int) (s : Spc) : Prop where
  marks : ∀ x ∈ s.st, markB n x = true
  nd : s.st.Nodup
  ne : 1 ≤ s.st.length
  le : (s.st.length : Int) ≤ most
  mvs : s.mv.length ≤ 20000
theorem SI.step {n : Net} {most : Int} {s s' : Spc} {i : Nat} {x : List Int} {t : Int} (h : SI n most s) (hx : markB n x = true) (he : xstS most i s (FireE n x t) t = some s') : SI n most s' := by
  unfold xstS at he
  split at he
  · cases he; exact ⟨h.marks, h.nd, h.ne, h.le, h.mvs⟩
  · rename_i h1
    split at he
    · cases he
    · rename_i h2
      cases he
      have h0 : (FireE n x t).2 = 0 := Classical.byContradiction fun hc => h1 (.inl hc)
      by_cases hf : findI s.st (FireE n x t).1 < 0
      · simp only [if_pos hf]
        have hlt : ¬ most ≤ s.st.length := fun hc => h1 (.inr ⟨hf, hc⟩)
        refine ⟨fun y hy => ?_, ?_, by simp, by simp; omega, by simp; omega⟩
        · rcases List.mem_append.1 hy with hy | hy
          · exact h.marks y hy
          · simp at hy; subst hy; exact FireE_mark hx h0
        · refine List.nodup_append.2 ⟨h.nd, by simp, fun a ha b hb e => ?_⟩
          simp at hb
          subst hb e
          exact findI_neg.1 hf ha
      · simp only [if_neg hf]
        exact ⟨h.marks, h.nd, h.ne, h.le, by simp; omega⟩
theorem SI.gti {n : Net} {most : Int} {s : Spc} (h : SI n most s) {i : Nat} (hi : i < s.st.length) : markB n (gti s.st i) = true := h.marks _ (gti_mem hi)
end Go.Proofs.YtanfaepjamkbjaaGreat
end
section
namespace Go.Proofs.YtanfaepjamkbjaaGreat
set_option linter.unusedSimpArgs false
set_option linter.unusedVariables false

structure Fr where
  n : Int
  d : Int
deriving DecidableEq

/-- the fraction of an integer -/
def Fr.of (k : Int) : Fr := ⟨k, 1⟩

def Fr.ok (a : Fr) : Prop := -1073741824 ≤ a.n ∧ a.n ≤ 1073741824 ∧ 1 ≤ a.d ∧ a.d ≤ 1073741824 ∧ Int.gcd a.n a.d = 1
instance (a : Fr) : Decidable a.ok := by unfold Fr.ok; infer_instance
def Fr.okB (a : Fr) : Bool := decide a.ok
theorem Fr.okB_iff (a : Fr) : a.okB = true ↔ a.ok := by simp [Fr.okB]
theorem Fr.okB_of {a : Fr} (h : a.ok) : a.okB = true := (Fr.okB_iff a).2 h
theorem Fr.okB_not {a : Fr} (h : ¬ a.ok) : a.okB = false := by simp [Fr.okB, h]

/-- the normal form of n / d, d not 0 -/
def nf (n d : Int) : Fr := ⟨Int.sign d * (n / (Int.gcd n d : Int)), (d.natAbs : Int) / (Int.gcd n d : Int)⟩
def Fr.fits (a : Fr) : Bool := decide (-1073741824 ≤ a.n ∧ a.n ≤ 1073741824 ∧ a.d ≤ 1073741824)
def mkF (n d : Int) : Option Fr := if (nf n d).fits then some (nf n d) else none

theorem gcd_step (p q : Int) : Int.gcd q (p % q) = Int.gcd p q := by
  rw [Int.gcd_comm p q]
  have h := Int.gcd_add_mul_right_right q (p % q) (p / q)
  rw [← h]
  have e : p % q + p / q * q = p := by have := Int.emod_add_mul_ediv p q; rw [Int.mul_comm]; exact this
  rw [e]

theorem nf_scale (k n d : Int) (hk : 0 < k) : nf (k * n) (k * d) = nf n d := by
  have hg : (Int.gcd (k * n) (k * d) : Int) = k * (Int.gcd n d : Int) := by
    rw [Int.gcd_mul_left]; rw [Int.natCast_mul]; rw [Int.natAbs_of_nonneg (by omega)]
  have hs : Int.sign (k * d) = Int.sign d := by rw [Int.sign_mul, Int.sign_eq_one_of_pos hk, Int.one_mul]
  have ha : ((k * d).natAbs : Int) = k * (d.natAbs : Int) := by rw [Int.natAbs_mul, Int.natCast_mul, Int.natAbs_of_nonneg (by omega)]
  unfold nf
  rw [hg, hs, ha, Int.mul_ediv_mul_of_pos _ _ hk, Int.mul_ediv_mul_of_pos _ _ hk]
theorem mkF_scale (k n d : Int) (hk : 0 < k) : mkF (k * n) (k * d) = mkF n d := by unfold mkF; rw [nf_scale k n d hk]

theorem nf_ok (n d : Int) (hd : d ≠ 0) : 1 ≤ (nf n d).d ∧ Int.gcd (nf n d).n (nf n d).d = 1 := by
  have hg : 0 < Int.gcd n d := Int.gcd_pos_iff.2 (Or.inr hd)
  have hdv : (Int.gcd n d : Int) ∣ (d.natAbs : Int) := by
    rw [Int.dvd_natAbs]; exact Int.gcd_dvd_right ..
  constructor
  · unfold nf
    simp only
    obtain ⟨c, hc⟩ := hdv
    rw [hc, Int.mul_ediv_cancel_left _ (by omega)]
    have : 0 < (d.natAbs : Int) := by omega
    rw [hc] at this
    have := Int.pos_of_mul_pos_right this (by omega)
    omega
  · unfold nf
    simp only
    have h1 : Int.gcd (n / (Int.gcd n d : Int)) (d / (Int.gcd n d : Int)) = 1 := Int.gcd_ediv_gcd_ediv_gcd (by omega)
    have e : ((d.natAbs : Int) / (Int.gcd n d : Int)) = Int.sign d * (d / (Int.gcd n d : Int)) := by
      have e1 : (d.natAbs : Int) = d * Int.sign d := (Int.mul_sign_self d).symm
      rw [e1, Int.mul_comm d, Int.mul_ediv_assoc _ (Int.gcd_dvd_right ..)]
    rw [e, Int.gcd_mul_left, h1]
    rcases Int.lt_trichotomy d 0 with h | h | h
    · rw [Int.sign_eq_neg_one_of_neg h]; rfl
    · exact absurd h hd
    · rw [Int.sign_eq_one_of_pos h]; rfl

theorem mkF_ok {n d : Int} (hd : d ≠ 0) {a : Fr} (h : mkF n d = some a) : a.ok := by
  unfold mkF at h
  split at h
  · rename_i hf
    injection h with h
    subst h
    have := nf_ok n d hd
    simp only [Fr.fits, decide_eq_true_eq] at hf
    exact ⟨hf.1, hf.2.1, this.1, hf.2.2, this.2⟩
  · cases h

/-- a fraction and an error number -/
structure FE where
  n : Int
  d : Int
  e : Int
def FE.of : Option Fr → FE
  | some a => ⟨a.n, a.d, 0⟩
  | none => ⟨0, 0, 6⟩
def FE.err (e : Int) : FE := ⟨0, 0, e⟩

def fadd (a b : Fr) : Option Fr := mkF (a.n * b.d + b.n * a.d) (a.d * b.d)
def fneg (a : Fr) : Fr := ⟨-a.n, a.d⟩
def fsub (a b : Fr) : Option Fr := fadd a (fneg b)
def fmul (a b : Fr) : Option Fr := mkF (a.n * b.n) (a.d * b.d)
def fdiv (a b : Fr) : Option Fr := mkF (a.n * b.d) (a.d * b.n)
theorem fneg_ok {a : Fr} (h : a.ok) : (fneg a).ok := by
  obtain ⟨h1, h2, h3, h4, h5⟩ := h
  exact ⟨by simp only [fneg]; omega, by simp only [fneg]; omega, h3, h4, by simpa [fneg] using h5⟩

/-- what the code computes for a sum, over the least common denominator -/
theorem fadd_lcm (a b : Fr) (ha : a.ok) :
    mkF (a.n * (b.d / (Int.gcd a.d b.d : Int)) + b.n * (a.d / (Int.gcd a.d b.d : Int))) (a.d * (b.d / (Int.gcd a.d b.d : Int))) = fadd a b := by
  have h3 := ha.2.2.1
  have hg : 0 < (Int.gcd a.d b.d : Int) := by have := Int.gcd_pos_iff.2 (Or.inl (show a.d ≠ 0 by omega) : a.d ≠ 0 ∨ b.d ≠ 0); omega
  unfold fadd
  rw [← mkF_scale (Int.gcd a.d b.d : Int) (a.n * (b.d / (Int.gcd a.d b.d : Int)) + b.n * (a.d / (Int.gcd a.d b.d : Int))) _ (by omega)]
  obtain ⟨x, hx⟩ : (Int.gcd a.d b.d : Int) ∣ a.d := Int.gcd_dvd_left ..
  obtain ⟨y, hy⟩ : (Int.gcd a.d b.d : Int) ∣ b.d := Int.gcd_dvd_right ..
  generalize (Int.gcd a.d b.d : Int) = g at *
  have ex : a.d / g = x := by rw [hx, Int.mul_ediv_cancel_left _ (by omega)]
  have ey : b.d / g = y := by rw [hy, Int.mul_ediv_cancel_left _ (by omega)]
  rw [ex, ey, hx, hy]
  congr 1 <;> grind

theorem nf_neg (n d : Int) : nf (-n) (-d) = nf n d := by
  unfold nf
  simp only [Int.gcd_neg, Int.neg_gcd, Int.sign_neg, Int.natAbs_neg]
  congr 1
  rw [Int.neg_ediv_of_dvd (Int.gcd_dvd_left ..), Int.neg_mul_neg]
theorem mkF_neg (n d : Int) : mkF (-n) (-d) = mkF n d := by unfold mkF; rw [nf_neg]
theorem mkF_pos (n d p x y : Int) (hp : 0 < p) (hg : (Int.gcd n d : Int) = p) (hn : n = p * x) (hd : d = p * y) (hy : 0 < y) :
    mkF n d = if -1073741824 ≤ x ∧ x ≤ 1073741824 ∧ y ≤ 1073741824 then some ⟨x, y⟩ else none := by
  have hd0 : 0 < d := by rw [hd]; exact Int.mul_pos hp hy
  have e : nf n d = ⟨x, y⟩ := by
    unfold nf
    rw [hg, Int.sign_eq_one_of_pos hd0, Int.natAbs_of_nonneg (by omega), Int.one_mul]
    congr 1
    · rw [hn, Int.mul_ediv_cancel_left _ (by omega)]
    · rw [hd, Int.mul_ediv_cancel_left _ (by omega)]
  unfold mkF Fr.fits
  rw [e]
  simp only [decide_eq_true_eq]
theorem mkF_negd (n d p x y : Int) (hp : 0 < p) (hg : (Int.gcd n d : Int) = p) (hn : n = p * x) (hd : d = p * y) (hy : y < 0) :
    mkF n d = if -1073741824 ≤ -x ∧ -x ≤ 1073741824 ∧ -y ≤ 1073741824 then some ⟨-x, -y⟩ else none := by
  rw [← mkF_neg]
  exact mkF_pos (-n) (-d) p (-x) (-y) hp (by rw [Int.gcd_neg, Int.neg_gcd]; exact hg) (by rw [hn, Int.mul_neg]) (by rw [hd, Int.mul_neg]) (by omega)
theorem tdiv_exact (n p : Int) (hp : 0 < p) (h : p ∣ n) : ∃ x, n.tdiv p = x ∧ n = p * x ∧ (n.natAbs : Int) = p * (x.natAbs : Int) := by
  obtain ⟨x, rfl⟩ := h
  refine ⟨x, Int.mul_tdiv_cancel_left _ (by omega), rfl, ?_⟩
  rw [Int.natAbs_mul, Int.natCast_mul, Int.natAbs_of_nonneg (a := p) (by omega)]
theorem natAbs_le_of_mul (n p x : Int) (hp : 0 < p) (h : (n.natAbs : Int) = p * (x.natAbs : Int)) : x.natAbs ≤ n.natAbs := by
  have : 1 * (x.natAbs : Int) ≤ p * (x.natAbs : Int) := Int.mul_le_mul_of_nonneg_right (by omega) (by omega)
  omega
theorem tmod_neg_neg (p q : Nat) : (-(p : Int)).tmod (-(q : Int)) = -((p % q : Nat) : Int) := by
  rw [Int.tmod_neg, Int.neg_tmod, ← Int.ofNat_tmod]

/-- the product of two signs, as the code computes it -/
theorem sign_mul (x y : Int) : (if (decide (x < 0) != decide (y < 0)) then -((x.natAbs : Int) * (y.natAbs : Int)) else (x.natAbs : Int) * (y.natAbs : Int)) = x * y := by
  rcases Int.lt_or_le x 0 with hx | hx <;> rcases Int.lt_or_le y 0 with hy | hy
  · rw [show (x.natAbs : Int) = -x by omega, show (y.natAbs : Int) = -y by omega]; simp [hx, hy, Int.neg_mul, Int.mul_neg]
  · rw [show (x.natAbs : Int) = -x by omega, show (y.natAbs : Int) = y by omega]; simp [hx, Int.not_lt.2 hy, Int.neg_mul]
  · rw [show (x.natAbs : Int) = x by omega, show (y.natAbs : Int) = -y by omega]; simp [hy, Int.not_lt.2 hx, Int.mul_neg]
  · rw [show (x.natAbs : Int) = x by omega, show (y.natAbs : Int) = y by omega]; simp [Int.not_lt.2 hy, Int.not_lt.2 hx]
theorem fdiv_sign (a b : Fr) (n : Int) (hn : (if (decide (a.n < 0) != decide (b.n < 0)) then -((a.n.natAbs : Int) * b.d) else (a.n.natAbs : Int) * b.d) = n) : mkF n (a.d * (b.n.natAbs : Int)) = fdiv a b := by
  subst hn
  unfold fdiv
  rcases Int.lt_or_le b.n 0 with hy | hy
  · rw [← mkF_neg (a.n * b.d)]
    rcases Int.lt_or_le a.n 0 with hx | hx
    · rw [show (a.n.natAbs : Int) = -a.n by omega, show (b.n.natAbs : Int) = -b.n by omega]; simp [hx, hy, Int.neg_mul, Int.mul_neg]
    · rw [show (a.n.natAbs : Int) = a.n by omega, show (b.n.natAbs : Int) = -b.n by omega]; simp [hy, Int.not_lt.2 hx, Int.mul_neg]
  · rcases Int.lt_or_le a.n 0 with hx | hx
    · rw [show (a.n.natAbs : Int) = -a.n by omega, show (b.n.natAbs : Int) = b.n by omega]; simp [hx, Int.not_lt.2 hy, Int.neg_mul]
    · rw [show (a.n.natAbs : Int) = a.n by omega, show (b.n.natAbs : Int) = b.n by omega]; simp [Int.not_lt.2 hx, Int.not_lt.2 hy]
theorem mul_bd (a b : Int) (h1 : -1073741824 ≤ a) (h2 : a ≤ 1073741824) (h3 : 0 ≤ b) (h4 : b ≤ 1073741824) : -1152921504606846976 ≤ a * b ∧ a * b ≤ 1152921504606846976 := by
  have e1 : a * b ≤ 1073741824 * b := Int.mul_le_mul_of_nonneg_right h2 h3
  have e2 : -1073741824 * b ≤ a * b := Int.mul_le_mul_of_nonneg_right h1 h3
  omega
theorem div_bd (b g : Int) (h1 : 1 ≤ b) (hg : 0 < g) (hd : g ∣ b) : 1 ≤ b / g ∧ b / g ≤ b := by
  obtain ⟨c, rfl⟩ := hd
  rw [Int.mul_ediv_cancel_left _ (by omega)]
  have hc : 0 < c := Int.pos_of_mul_pos_right (by omega) hg
  refine ⟨by omega, ?_⟩
  have : 1 * c ≤ g * c := Int.mul_le_mul_of_nonneg_right (by omega) (by omega)
  omega

def addE (a b : Fr) : FE := if a.okB && b.okB then FE.of (fadd a b) else FE.err 1
def subE (a b : Fr) : FE := if a.okB && b.okB then FE.of (fsub a b) else FE.err 1
def mulE (a b : Fr) : FE := if a.okB && b.okB then FE.of (fmul a b) else FE.err 1
def divE (a b : Fr) : FE := if a.okB && b.okB then (if b.n = 0 then FE.err 7 else FE.of (fdiv a b)) else FE.err 1

end Go.Proofs.YtanfaepjamkbjaaGreat
end
section
namespace Go.Proofs.YtanfaepjamkbjaaGreat
set_option linter.unusedSimpArgs false
set_option linter.unusedVariables false
open Go.RowKit

def makeE (n d : Int) : FE := if d = 0 then FE.err 7 else FE.of (mkF n d)

set_option maxHeartbeats 2000000 in
theorem make_any (n d : Int) (w : World) (hn : -4611686018427387904 ≤ n ∧ n ≤ 4611686018427387904) (hd : -4611686018427387904 ≤ d ∧ d ≤ 4611686018427387904) :
    Calls Tryz.prog 33 #[.int .i64 n, .int .i64 d] w fun e w' => e = .returned (.tuple #[.agg #[.int .i64 (makeE n d).n, .int .i64 (makeE n d).d], .int .i64 (makeE n d).e]) ∧ Below w.heap.size w w' := by
  refine calls_cps fun R hR => ?_
  have HR := Lib.hid hR
  clear hR
  by_cases h0 : d = 0
  · subst h0
    go_enter Tryz.func33, Tryz.ntmps33
    go_wp2
    refine bodyPost_ret (v := .tuple #[.agg #[.int .i64 0, .int .i64 0], .int .i64 7]) (by simp [results, Tryz.results33, go_sem]) rfl (HR.out _ _ ⟨?_, ?_⟩)
    · simp [makeE, FE.err]
    · (repeat (first | exact Below.refl _ _ | assumption | refine Below.setCell ?_ (by first | omega | (simp; done) | (simp; omega)) _ | refine Below.alloc ?_ (by first | omega | (simp; done) | (simp; omega)) _ | refine Below.drew ?_ | refine below_drewN ?_ _))
  · have hd0 : (d == 0) = false := by simpa using h0
    by_cases sn : 0 < n <;> by_cases sd : 0 < d
    all_goals
      go_enter Tryz.func33, Tryz.ntmps33
      go_wp2
      go_loopw [6, 7] (fun x y wr => ∃ p q : Nat, p ≤ 4611686018427387904 ∧ q ≤ 4611686018427387904 ∧ x = .int .i64 (-p) ∧ y = .int .i64 (-q) ∧ Nat.gcd p q = Int.gcd n d ∧ ∃ k, wr = (w.alloc (.cells #[.int .i64 0, .int .i64 0] 44)).drewN k) (fun _ y _ => (intOf y).natAbs)
      case atStart => exact ⟨n.natAbs, d.natAbs, by omega, by omega, congrArg _ (by omega), congrArg _ (by omega), rfl, 0, rfl⟩
      case round =>
        obtain ⟨p, q, hp, hq, rfl, rfl, hg, k, rfl⟩ := hrel
        by_cases hq0 : q = 0
        · subst hq0
          simp only [Nat.gcd_zero_right] at hg
          have hgp : 0 < Int.gcd n d := Int.gcd_pos_iff.2 (Or.inr h0)
          have hp0 : 0 < (p : Int) := by omega
          obtain ⟨x, hx, hnx, hxa⟩ := tdiv_exact n p hp0 (by rw [hg]; exact Int.gcd_dvd_left ..)
          obtain ⟨y, hy, hdy, hya⟩ := tdiv_exact d p hp0 (by rw [hg]; exact Int.gcd_dvd_right ..)
          have hx1 := natAbs_le_of_mul n p x hp0 hxa
          have hy1 := natAbs_le_of_mul d p y hp0 hya
          have hy0 : y ≠ 0 := by intro e; rw [e] at hdy; simp at hdy; exact h0 hdy
          have bx : -4611686018427387904 ≤ x ∧ x ≤ 4611686018427387904 := by omega
          have bY : -4611686018427387904 ≤ y ∧ y ≤ 4611686018427387904 := by omega
          have hpe : ((p : Int) == 0) = false := by simp; omega
          have hpe2 : (-(p : Int) == 0) = false := by simp; omega
          have hpe3 : ¬ p = 0 := by omega
          rcases Int.lt_or_lt_of_ne hy0 with hyn | hyp
          · have HM := Lib.hid (mkF_negd n d p x y hp0 (by omega) hnx hdy hyn)
            have HG := Lib.hid hg
            clear hg hnx hdy hxa hya hx1 hy1 hgp hy0
            by_cases hf : -1073741824 ≤ -x ∧ -x ≤ 1073741824 ∧ -y ≤ 1073741824
            · obtain ⟨f1, f2, f3⟩ := hf
              have HM2 : Hid (mkF n d = some ⟨-x, -y⟩) := Lib.hid (by rw [HM.out, if_pos ⟨f1, f2, f3⟩])
              go_wp2
              refine bodyPost_ret (v := .tuple #[.agg #[.int .i64 (-x), .int .i64 (-y)], .int .i64 0]) (by simp [results, Tryz.results33, go_sem]) rfl (HR.out _ _ ⟨?_, ?_⟩)
              · unfold makeE; rw [if_neg h0, HM2.out]; rfl
              · (repeat (first | exact Below.refl _ _ | assumption | refine Below.setCell ?_ (by first | omega | (simp; done) | (simp; omega)) _ | refine Below.alloc ?_ (by first | omega | (simp; done) | (simp; omega)) _ | refine Below.drew ?_ | refine below_drewN ?_ _))
            · have HM2 : Hid (mkF n d = none) := Lib.hid (by rw [HM.out, if_neg hf])
              go_wp2
              all_goals
                refine bodyPost_ret (v := .tuple #[.agg #[.int .i64 0, .int .i64 0], .int .i64 6]) (by simp [results, Tryz.results33, go_sem]) rfl (HR.out _ _ ⟨?_, ?_⟩)
                · unfold makeE; rw [if_neg h0, HM2.out]; rfl
                · (repeat (first | exact Below.refl _ _ | assumption | refine Below.setCell ?_ (by first | omega | (simp; done) | (simp; omega)) _ | refine Below.alloc ?_ (by first | omega | (simp; done) | (simp; omega)) _ | refine Below.drew ?_ | refine below_drewN ?_ _))
          · have HM := Lib.hid (mkF_pos n d p x y hp0 (by omega) hnx hdy hyp)
            have HG := Lib.hid hg
            clear hg hnx hdy hxa hya hx1 hy1 hgp hy0
            by_cases hf : -1073741824 ≤ x ∧ x ≤ 1073741824 ∧ y ≤ 1073741824
            · obtain ⟨f1, f2, f3⟩ := hf
              have HM2 : Hid (mkF n d = some ⟨x, y⟩) := Lib.hid (by rw [HM.out, if_pos ⟨f1, f2, f3⟩])
              go_wp2
              refine bodyPost_ret (v := .tuple #[.agg #[.int .i64 (x), .int .i64 (y)], .int .i64 0]) (by simp [results, Tryz.results33, go_sem]) rfl (HR.out _ _ ⟨?_, ?_⟩)
              · unfold makeE; rw [if_neg h0, HM2.out]; rfl
              · (repeat (first | exact Below.refl _ _ | assumption | refine Below.setCell ?_ (by first | omega | (simp; done) | (simp; omega)) _ | refine Below.alloc ?_ (by first | omega | (simp; done) | (simp; omega)) _ | refine Below.drew ?_ | refine below_drewN ?_ _))
            · have HM2 : Hid (mkF n d = none) := Lib.hid (by rw [HM.out, if_neg hf])
              go_wp2
              all_goals
                refine bodyPost_ret (v := .tuple #[.agg #[.int .i64 0, .int .i64 0], .int .i64 6]) (by simp [results, Tryz.results33, go_sem]) rfl (HR.out _ _ ⟨?_, ?_⟩)
                · unfold makeE; rw [if_neg h0, HM2.out]; rfl
                · (repeat (first | exact Below.refl _ _ | assumption | refine Below.setCell ?_ (by first | omega | (simp; done) | (simp; omega)) _ | refine Below.alloc ?_ (by first | omega | (simp; done) | (simp; omega)) _ | refine Below.drew ?_ | refine below_drewN ?_ _))
        · have HG := Lib.hid hg
          clear hg
          have b1 : (-(q : Int) != 0) = true := by simp; omega
          have b2 : (-(q : Int) == 0) = false := by simp; omega
          have ht := tmod_neg_neg p q
          go_wp2
          go_quiet (fail)
          go_wp2
          have hlt : p % q < q := Nat.mod_lt _ (by omega)
          go_roundw
          case rel => exact ⟨q, p % q, hq, by omega, rfl, by first | rfl | (congr 1; omega), by rw [← HG.out, Nat.gcd_comm q, ← Nat.gcd_rec, Nat.gcd_comm], k + nq, by rw [World.drewN_drewN]⟩
          case measure => simp only [intOf]; omega

end Go.Proofs.YtanfaepjamkbjaaGreat
end
section
namespace Go.Proofs.YtanfaepjamkbjaaGreat
set_option linter.unusedSimpArgs false
set_option linter.unusedVariables false
set_option linter.unusedSectionVars false
open Go.RowKit

def addR (r : List Int) (k : Nat) (w : Int) : List Int := r.set k (gti r k + w)
def lsum : List Int → Int
  | [] => 0
  | x :: l => x + lsum l
theorem lsum_app : ∀ a b : List Int, lsum (a ++ b) = lsum a + lsum b
  | [], b => by simp [lsum]
  | x :: a, b => by simp only [List.cons_append, lsum, lsum_app a b]; omega
theorem addR_len (r : List Int) (k : Nat) (w : Int) : (addR r k w).length = r.length := by unfold addR; simp
theorem lsum_set : ∀ (r : List Int) (k : Nat) (x : Int), k < r.length → lsum (r.set k x) = lsum r + (x - gti r k)
  | [], k, x, h => by simp at h
  | a :: r, 0, x, h => by simp only [List.set_cons_zero, lsum]; show x + lsum r = a + lsum r + (x - a); omega
  | a :: r, k + 1, x, h => by
    simp only [List.set_cons_succ, lsum]
    have := lsum_set r k x (by simpa using h)
    have e : gti (a :: r) (k + 1) = gti r k := by simp [gti]
    rw [e]; omega
theorem lsum_addR {r : List Int} {k : Nat} {w : Int} (h : k < r.length) : lsum (addR r k w) = lsum r + w := by
  unfold addR
  rw [lsum_set r k _ h]; omega
theorem lsum_nn : ∀ r : List Int, (∀ j, 0 ≤ gti r j) → 0 ≤ lsum r ∧ ∀ j, gti r j ≤ lsum r
  | [], h => ⟨Int.le_refl 0, fun j => by simp [gti, lsum]⟩
  | a :: r, h => by
    have h0 : 0 ≤ a := h 0
    obtain ⟨i1, i2⟩ := lsum_nn r (fun j => by have := h (j + 1); simpa [gti] using this)
    refine ⟨by simp only [lsum]; omega, fun j => ?_⟩
    cases j with
    | zero => show a ≤ a + lsum r; omega
    | succ j => have e : gti (a :: r) (j + 1) = gti r j := by simp [gti]
                rw [e]; simp only [lsum]; have := i2 j; omega
theorem lsum_take : ∀ (r : List Int) (m : Nat), (∀ j, m ≤ j → gti r j = 0) → lsum (r.take m) = lsum r
  | [], m, h => by simp [lsum]
  | a :: r, 0, h => by
    have h0 : a = 0 := h 0 (Nat.le_refl 0)
    have := lsum_take r 0 (fun j _ => by have := h (j + 1) (by omega); simpa [gti] using this)
    simp only [List.take_zero, lsum] at this ⊢
    omega
  | a :: r, m + 1, h => by
    have := lsum_take r m (fun j hj => by have := h (j + 1) (by omega); simpa [gti] using this)
    simp only [List.take_succ_cons, lsum, this]
def z20 : List Int := List.replicate 20 0
abbrev WS := List (List Int) × List Int
def wStep (n : Net) (wts : List Int) (most : Int) (x : List Int) (t : Int) (s : WS) : Int ⊕ WS :=
  if (FireE n x t).2 ≠ 0 then .inl (FireE n x t).2
  else if findI s.1 (FireE n x t).1 < 0 then
    if most ≤ s.1.length then .inl 13 else .inr (s.1 ++ [(FireE n x t).1], addR s.2 s.1.length (gti wts t.toNat))
  else .inr (s.1, addR s.2 (findI s.1 (FireE n x t).1).toNat (gti wts t.toNat))
def wRow (n : Net) (wts : List Int) (most : Int) (x : List Int) : List Int → WS → Int ⊕ WS
  | [], s => .inr s
  | t :: ts, s => match wStep n wts most x t s with
    | .inl e => .inl e
    | .inr s' => wRow n wts most x ts s'
abbrev WX := List (List Int) × List (List Int)
def wExp (n : Net) (wts : List Int) (most : Int) : Nat → Nat → WX → Int ⊕ WX
  | 0, _, s => .inr s
  | f + 1, i, s => if i < s.1.length then
      match wRow n wts most (gti s.1 i) (enabledL (gti s.1 i) 0 n.trans) (s.1, z20) with
      | .inl e => .inl e
      | .inr r => wExp n wts most f (i + 1) (r.1, s.2 ++ [r.2])
    else .inr s
/-- a cell of a row -/
def cellF (i j : Nat) (r : List Int) : Fr := if 0 < lsum r then (mkF (gti r j) (lsum r)).getD ⟨0, 1⟩ else if i = j then ⟨1, 1⟩ else ⟨0, 1⟩
def rowF (m i : Nat) (r : List Int) : List Fr := (List.range m).map fun j => cellF i j r
def chF (s : WX) : List (List Fr) := (List.range s.1.length).map fun i => rowF s.1.length i (gti s.2 i)
def wtsB (wts : List Int) : Bool := wts.all fun w => decide (1 ≤ w ∧ w ≤ 1000)
def netE (n : Net) (wts : List Int) (most : Int) : List (List Fr) × Int :=
  if validB n = false then ([], 1)
  else if wts.length ≠ n.trans.length then ([], 29)
  else if wtsB wts = false ∨ most < 1 ∨ 20 < most then ([], 2)
  else match wExp n wts most (most.toNat + 1) 0 ([(oneE n n.source).1], []) with
    | .inl e => ([], e)
    | .inr s => (chF s, 0)

/-- what holds while a row is made -/
structure WI (n : Net) (most : Int) (s : WS) : Prop where
  mks : ∀ m ∈ s.1, markB n m = true
  len : (s.1.length : Int) ≤ most
  r20 : s.2.length = 20
  nn : ∀ j, 0 ≤ gti s.2 j
  hi : ∀ j, s.1.length ≤ j → gti s.2 j = 0
theorem gti_addR {r : List Int} {k j : Nat} {w : Int} (h : k < r.length) : gti (addR r k w) j = if k = j then gti r j + w else gti r j := by
  unfold addR
  rw [gti_set]
  by_cases e : k = j
  · subst e; rw [if_pos ⟨rfl, h⟩, if_pos rfl]
  · rw [if_neg (by simp [e]), if_neg e]
theorem WI.step {n : Net} {wts : List Int} {most : Int} {x : List Int} {t : Int} {s s' : WS} (h : WI n most s) (hm20 : most ≤ 20) (hx : markB n x = true) (hw : 0 ≤ gti wts t.toNat) (he : wStep n wts most x t s = .inr s') :
    WI n most s' ∧ lsum s'.2 = lsum s.2 + gti wts t.toNat ∧ s.1 <+: s'.1 := by
  unfold wStep at he
  have hlen := h.len
  have hr := h.r20
  by_cases h1 : (FireE n x t).2 ≠ 0
  · rw [if_pos h1] at he; cases he
  rw [if_neg h1] at he
  have h0 : (FireE n x t).2 = 0 := Decidable.not_not.1 h1
  by_cases h2 : findI s.1 (FireE n x t).1 < 0
  · rw [if_pos h2] at he
    by_cases h3 : most ≤ (s.1.length : Int)
    · rw [if_pos h3] at he; cases he
    rw [if_neg h3] at he
    cases he
    have hk : s.1.length < s.2.length := by omega
    refine ⟨⟨fun m hm => ?_, by simp; omega, by rw [addR_len]; exact hr, fun j => ?_, fun j hj => ?_⟩, lsum_addR hk, List.prefix_append _ _⟩
    · rcases List.mem_append.1 hm with hm | hm
      · exact h.mks m hm
      · rw [List.mem_singleton.1 hm]; exact FireE_mark hx h0
    · rw [gti_addR hk]
      have := h.nn j
      split <;> omega
    · have hj2 : s.1.length + 1 ≤ j := by simpa using hj
      rw [gti_addR hk, if_neg (by omega)]
      exact h.hi j (by omega)
  · rw [if_neg h2] at he
    cases he
    obtain ⟨kf, hkf, hkl, _⟩ := findI_pos (S := s.1) (m := (FireE n x t).1) (by omega)
    have hk : (findI s.1 (FireE n x t).1).toNat < s.2.length := by omega
    refine ⟨⟨h.mks, h.len, by rw [addR_len]; exact hr, fun j => ?_, fun j hj => ?_⟩, lsum_addR hk, List.prefix_refl _⟩
    · rw [gti_addR hk]
      have := h.nn j
      split <;> omega
    · have hj2 : s.1.length ≤ j := hj
      rw [gti_addR hk, if_neg (by omega)]
      exact h.hi j hj2
theorem WI.row {n : Net} {wts : List Int} {most : Int} {x : List Int} (hm20 : most ≤ 20) (hx : markB n x = true) (hw : ∀ k, 0 ≤ gti wts k ∧ gti wts k ≤ 1000) : ∀ (ts : List Int) (s s' : WS), WI n most s → wRow n wts most x ts s = .inr s' →
    WI n most s' ∧ lsum s.2 ≤ lsum s'.2 ∧ lsum s'.2 ≤ lsum s.2 + 1000 * ts.length ∧ s.1 <+: s'.1
  | [], s, s', h, he => by cases he; exact ⟨h, Int.le_refl _, by simp, List.prefix_refl _⟩
  | t :: ts, s, s', h, he => by
    unfold wRow at he
    split at he
    · cases he
    · rename_i s1 h1
      obtain ⟨a1, a2, a3⟩ := h.step hm20 hx (hw _).1 h1
      obtain ⟨b1, b2, b3, b4⟩ := WI.row hm20 hx hw ts s1 s' a1 he
      have := hw t.toNat
      exact ⟨b1, by omega, by simp only [List.length_cons]; push_cast; omega, a3.trans b4⟩
end Go.Proofs.YtanfaepjamkbjaaGreat
end
section
namespace Go.Proofs.YtanfaepjamkbjaaGreat.Aw
set_option linter.unusedSimpArgs false
set_option linter.unusedVariables false
open Go.RowKit

/-- what is known of a value -/
inductive AV where
  | any
  | s (v : Value)
  | agg (cs : List AV)
  | sl (l : List AV)
  | emp
  | ref (cs : List AV)
  | own (id sz n : Nat)
  | ptr (id sz k j : Nat)
  | fn (f : FuncId) (cs : List AV)
  | tup (l : List AV)
  | mp (id : Nat)
  | sub (id sz o n : Nat)

def AV.cells : AV → List AV
  | .agg cs => cs
  | x => [x]
def AV.one : AV → Bool
  | .s v => v.oneCell'
  | .any | .agg _ | .tup _ => false
  | _ => true

/-- a map of the call's own: its types, how many entries at most, what it reads as -/
structure MapX where
  P : Program
  kt : TypeId
  el : TypeId
  n : Nat
  D : DataW Unit
def MapX.At (X : MapX) (w : World) (b : Nat) : Prop := w.ownsMap X.P X.kt (plainElem X.P X.el) b X.n X.D
theorem MapX.At.keep {X : MapX} {w w' : World} {b : Nat} (h : X.At w b) (hb : w'.heap[b]? = w.heap[b]?) : X.At w' b := by
  obtain ⟨es, clock, h1, F, hs, hD⟩ := h
  exact ⟨es, clock, hb.trans h1, F, hs, hD⟩
theorem MapX.At.map {X : MapX} {w : World} {b : Nat} (h : X.At w b) : ∃ es clock, w.heap[b]? = some (.map es clock) := by
  obtain ⟨es, clock, h1, _⟩ := h
  exact ⟨es, clock, h1⟩
theorem MapX.At.lt {X : MapX} {w : World} {b : Nat} (h : X.At w b) : b < w.heap.size := by
  obtain ⟨es, clock, h1⟩ := h.map
  exact (Array.getElem?_eq_some_iff.1 h1).1
/-- a thing of the call's own -/
inductive Ob where
  | dead
  | row (sz : Nat) (cs : List AV)
  | fz (sz : Nat) (cs : List AV)
  | mp (X : MapX)

/-- where things are -/
structure Cx where
  base : Nat
  w0 : World
  w : World
  mu : Nat → Option (Option Nat)
  St : Nat → Nat → Prop

inductive Rep (G : Cx) : Value → AV → Prop
  | any (v : Value) : Rep G v .any
  | s (v : Value) : Rep G v (.s v)
  | agg (vs : Array Value) (cs : List AV) (hl : vs.size = cs.length) (h1 : ∀ c ∈ cs, c.one = true)
      (h : ∀ (j : Nat) v c, vs[j]? = some v → cs[j]? = some c → Rep G v c) : Rep G (.agg vs) (.agg cs)
  | emp (A : Option Addr) (hA : ∀ a, A = some a → a.spot = none) : Rep G (.slice A 0 0) .emp
  | slnil (A : Option Addr) (cap : Nat) : Rep G (.slice A 0 cap) (.sl [])
  | sl (b o cap sz : Nat) (l : List AV) (val : Nat → Nat → Value) (hc : l.length ≤ cap) (hm : l.length ≤ maxLen)
      (h1 : ∀ (k : Nat) e, l[k]? = some e → e.cells.length = sz ∧ ∀ c ∈ e.cells, c.one = true)
      (h2 : ∀ (k : Nat) e (j : Nat) c, l[k]? = some e → e.cells[j]? = some c → G.St b (o + k * sz + j) ∧ G.w.cell? ⟨b, o + k * sz + j, none⟩ = some (val k j))
      (h : ∀ (k : Nat) e (j : Nat) c, l[k]? = some e → e.cells[j]? = some c → Rep G (val k j) c) : Rep G (.slice (some ⟨b, o, none⟩) l.length cap) (.sl l)
  | ref (b o : Nat) (cs : List AV) (val : Nat → Value) (h1 : ∀ c ∈ cs, c.one = true)
      (h2 : ∀ (j : Nat) c, cs[j]? = some c → G.St b (o + j) ∧ G.w.cell? ⟨b, o + j, none⟩ = some (val j))
      (h : ∀ (j : Nat) c, cs[j]? = some c → Rep G (val j) c) : Rep G (.pointer (some ⟨b, o, none⟩)) (.ref cs)
  | own0 (id sz : Nat) (A : Option Addr) (hA : ∀ a, A = some a → a.spot = none) (hm : G.mu id = some none) : Rep G (.slice A 0 0) (.own id sz 0)
  | own (id sz n b cap : Nat) (hm : G.mu id = some (some b)) (hn : n ≤ cap) (hc : cap ≤ maxLen)
      (hb : ∃ (cur : Array Value) (e : TypeId) (f : Nat × Nat), G.w.heap[b]? = some (Obj.cells cur e f) ∧ cur.size = cap * sz) : Rep G (.slice (some ⟨b, 0, none⟩) n cap) (.own id sz n)
  | ptr (id sz k j b : Nat) (hm : G.mu id = some (some b)) : Rep G (.pointer (some ⟨b, k * sz + j, none⟩)) (.ptr id sz k j)
  | fn (f : FuncId) (vs : Array Value) (cs : List AV) (hl : vs.size = cs.length) (h : ∀ (j : Nat) v c, vs[j]? = some v → cs[j]? = some c → Rep G v c) : Rep G (.func (.func f) #[] vs) (.fn f cs)
  | tup (vs : Array Value) (l : List AV) (hl : vs.size = l.length) (h : ∀ (j : Nat) v c, vs[j]? = some v → l[j]? = some c → Rep G v c) : Rep G (.tuple vs) (.tup l)
  | mp (id b : Nat) (hm : G.mu id = some (some b)) : Rep G (.map (some b)) (.mp id)
  | sub (id sz o n b cap : Nat) (A : Option Addr) (hm : G.mu id = some (some b)) (hA : 0 < n → A = some ⟨b, o * sz, none⟩)
      (hc : n ≤ cap ∧ cap ≤ maxLen ∧ ∃ (cur : Array Value) (e : TypeId) (f : Nat × Nat), G.w.heap[b]? = some (Obj.cells cur e f) ∧ (o + cap) * sz ≤ cur.size) : Rep G (.slice A n cap) (.sub id sz o n)

theorem Rep.one {G : Cx} {v : Value} {x : AV} (h : Rep G v x) (hx : x.one = true) : v.oneCell' = true := by
  cases h with
  | s => exact hx
  | any => simp [AV.one] at hx
  | agg => simp [AV.one] at hx
  | tup => simp [AV.one] at hx
  | _ => rfl

/-- rows of cells stay as long as they are -/
def RowsKept (w w' : World) : Prop := ∀ (b : Nat) (cur : Array Value) (e : TypeId) (f : Nat × Nat), w.heap[b]? = some (Obj.cells cur e f) → ∃ cur' : Array Value, w'.heap[b]? = some (Obj.cells cur' e f) ∧ cur'.size = cur.size
theorem RowsKept.refl (w : World) : RowsKept w w := fun _ cur _ _ h => ⟨cur, h, rfl⟩
theorem RowsKept.trans {a b c : World} (h : RowsKept a b) (k : RowsKept b c) : RowsKept a c := fun i cur e f x => by
  obtain ⟨c1, h1, s1⟩ := h i cur e f x
  obtain ⟨c2, h2, s2⟩ := k i c1 e f h1
  exact ⟨c2, h2, s2.trans s1⟩

/-- the world goes on: what is finished stays, what is named stays -/
structure Cx.Ext (G G' : Cx) : Prop where
  base : G'.base = G.base
  w0 : G'.w0 = G.w0
  st : ∀ b o, G.St b o → G'.St b o
  cell : ∀ b o, G.St b o → G'.w.cell? ⟨b, o, none⟩ = G.w.cell? ⟨b, o, none⟩
  mu : ∀ id x, G.mu id = some x → G'.mu id = some x
  size : G.w.heap.size ≤ G'.w.heap.size
  rows : RowsKept G.w G'.w
  stN : ∀ b o, G'.St b o → G.St b o ∨ G.base ≤ b

theorem Cx.Ext.refl (G : Cx) : G.Ext G := ⟨rfl, rfl, fun _ _ h => h, fun _ _ _ => rfl, fun _ _ h => h, Nat.le_refl _, RowsKept.refl _, fun _ _ h => .inl h⟩
theorem Cx.Ext.trans {G H K : Cx} (h : G.Ext H) (k : H.Ext K) : G.Ext K :=
  ⟨k.base.trans h.base, k.w0.trans h.w0, fun b o x => k.st b o (h.st b o x), fun b o x => (k.cell b o (h.st b o x)).trans (h.cell b o x), fun id x e => k.mu id x (h.mu id x e), Nat.le_trans h.size k.size,
    h.rows.trans k.rows, fun b o x => by
    rcases k.stN b o x with h1 | h1
    · exact h.stN b o h1
    · right; rw [← h.base]; exact h1⟩

theorem Rep.ext {G G' : Cx} {v : Value} {x : AV} (h : Rep G v x) (e : G.Ext G') : Rep G' v x := by
  induction h with
  | any v => exact .any v
  | s v => exact .s v
  | agg vs cs hl h1 _ ih => exact .agg vs cs hl h1 ih
  | emp A hA => exact .emp A hA
  | slnil A cap => exact .slnil A cap
  | sl b o cap sz l val hc hm h1 h2 _ ih => exact .sl b o cap sz l val hc hm h1 (fun k x j c hk hj => ⟨e.st _ _ (h2 k x j c hk hj).1, (e.cell _ _ (h2 k x j c hk hj).1).trans (h2 k x j c hk hj).2⟩) ih
  | ref b o cs val h1 h2 _ ih => exact .ref b o cs val h1 (fun j c hj => ⟨e.st _ _ (h2 j c hj).1, (e.cell _ _ (h2 j c hj).1).trans (h2 j c hj).2⟩) ih
  | own0 id sz A hA hm => exact .own0 id sz A hA (e.mu _ _ hm)
  | own id sz n b cap hm hn hc hb =>
    obtain ⟨cur, t, f, h1, h2⟩ := hb
    obtain ⟨cur', h3, h4⟩ := e.rows _ _ _ _ h1
    exact .own id sz n b cap (e.mu _ _ hm) hn hc ⟨cur', t, f, h3, h4.trans h2⟩
  | ptr id sz k j b hm => exact .ptr id sz k j b (e.mu _ _ hm)
  | fn f vs cs hl _ ih => exact .fn f vs cs hl ih
  | tup vs l hl _ ih => exact .tup vs l hl ih
  | mp id b hm => exact .mp id b (e.mu _ _ hm)
  | sub id sz o n b cap A hm hA hc =>
    obtain ⟨g1, g2, cur, t, f, h1, h2⟩ := hc
    obtain ⟨cur', h3, h4⟩ := e.rows _ _ _ _ h1
    exact .sub id sz o n b cap A (e.mu _ _ hm) hA ⟨g1, g2, cur', t, f, h3, by rw [h4]; exact h2⟩

/-- nothing of the call's own from id k on is named -/
inductive Lo (k : Nat) : AV → Prop
  | any : Lo k .any
  | s (v : Value) : Lo k (.s v)
  | agg (cs : List AV) (h : ∀ c ∈ cs, Lo k c) : Lo k (.agg cs)
  | emp : Lo k .emp
  | sl (l : List AV) (h : ∀ c ∈ l, Lo k c) : Lo k (.sl l)
  | ref (cs : List AV) (h : ∀ c ∈ cs, Lo k c) : Lo k (.ref cs)
  | own (id sz n : Nat) (h : id < k) : Lo k (.own id sz n)
  | ptr (id sz i j : Nat) (h : id < k) : Lo k (.ptr id sz i j)
  | fn (f : FuncId) (cs : List AV) (h : ∀ c ∈ cs, Lo k c) : Lo k (.fn f cs)
  | tup (l : List AV) (h : ∀ c ∈ l, Lo k c) : Lo k (.tup l)
  | mp (id : Nat) (h : id < k) : Lo k (.mp id)
  | sub (id sz o n : Nat) (h : id < k) : Lo k (.sub id sz o n)

theorem Lo.cells {k : Nat} {x : AV} (h : Lo k x) : ∀ c ∈ x.cells, Lo k c := by
  cases h with
  | agg cs h => exact h
  | any => intro c hc; simp [AV.cells] at hc; subst hc; exact .any
  | s v => intro c hc; simp [AV.cells] at hc; subst hc; exact .s v
  | emp => intro c hc; simp [AV.cells] at hc; subst hc; exact .emp
  | sl l h => intro c hc; simp [AV.cells] at hc; subst hc; exact .sl l h
  | ref l h => intro c hc; simp [AV.cells] at hc; subst hc; exact .ref l h
  | own id sz n h => intro c hc; simp [AV.cells] at hc; subst hc; exact .own id sz n h
  | ptr id sz i j h => intro c hc; simp [AV.cells] at hc; subst hc; exact .ptr id sz i j h
  | fn f l h => intro c hc; simp [AV.cells] at hc; subst hc; exact .fn f l h
  | tup l h => intro c hc; simp [AV.cells] at hc; subst hc; exact .tup l h
  | mp id h => intro c hc; simp [AV.cells] at hc; subst hc; exact .mp id h
  | sub id sz o n h => intro c hc; simp [AV.cells] at hc; subst hc; exact .sub id sz o n h

/-- the same without the names from k on -/
theorem Rep.low {G G' : Cx} {k : Nat} {v : Value} {x : AV} (h : Rep G v x) (hx : Lo k x) (hst : ∀ b o, G.St b o → G'.St b o) (hc : ∀ b o, G.St b o → G'.w.cell? ⟨b, o, none⟩ = G.w.cell? ⟨b, o, none⟩)
    (hmu : ∀ id y, id < k → G.mu id = some y → G'.mu id = some y) (hr : 0 < k → RowsKept G.w G'.w) : Rep G' v x := by
  induction h with
  | any v => exact .any v
  | s v => exact .s v
  | agg vs cs hl h1 _ ih => cases hx with | agg _ hx => exact .agg vs cs hl h1 (fun j v c a b => ih j v c a b (hx c (List.mem_of_getElem? b)))
  | emp A hA => exact .emp A hA
  | slnil A cap => exact .slnil A cap
  | sl b o cap sz l val hcp hm h1 h2 _ ih => cases hx with | sl _ hx => exact .sl b o cap sz l val hcp hm h1 (fun k x j c hk hj => ⟨hst _ _ (h2 k x j c hk hj).1, (hc _ _ (h2 k x j c hk hj).1).trans (h2 k x j c hk hj).2⟩) (fun k x j c hk hj => ih k x j c hk hj ((hx x (List.mem_of_getElem? hk)).cells c (List.mem_of_getElem? hj)))
  | ref b o cs val h1 h2 _ ih => cases hx with | ref _ hx => exact .ref b o cs val h1 (fun j c hj => ⟨hst _ _ (h2 j c hj).1, (hc _ _ (h2 j c hj).1).trans (h2 j c hj).2⟩) (fun j c hj => ih j c hj (hx c (List.mem_of_getElem? hj)))
  | own0 id sz A hA hm => cases hx with | own _ _ _ hx => exact .own0 id sz A hA (hmu _ _ hx hm)
  | own id sz n b cap hm hn hcp hb =>
    cases hx with
    | own _ _ _ hx =>
      obtain ⟨cur, t, f, h1, h2⟩ := hb
      obtain ⟨cur', h3, h4⟩ := hr (by omega) _ _ _ _ h1
      exact .own id sz n b cap (hmu _ _ hx hm) hn hcp ⟨cur', t, f, h3, h4.trans h2⟩
  | ptr id sz i j b hm => cases hx with | ptr _ _ _ _ hx => exact .ptr id sz i j b (hmu _ _ hx hm)
  | fn f vs cs hl _ ih => cases hx with | fn _ _ hx => exact .fn f vs cs hl (fun j v c a b => ih j v c a b (hx c (List.mem_of_getElem? b)))
  | tup vs l hl _ ih => cases hx with | tup _ hx => exact .tup vs l hl (fun j v c a b => ih j v c a b (hx c (List.mem_of_getElem? b)))
  | mp id b hm => cases hx with | mp _ hx => exact .mp id b (hmu _ _ hx hm)
  | sub id sz o n b cap A hm hA hc =>
    cases hx with
    | sub _ _ _ _ hx =>
      obtain ⟨g1, g2, cur, t, f, h1, h2⟩ := hc
      obtain ⟨cur', h3, h4⟩ := hr (by omega) _ _ _ _ h1
      exact .sub id sz o n b cap A (hmu _ _ hx hm) hA ⟨g1, g2, cur', t, f, h3, by rw [h4]; exact h2⟩

/-- block b holds these elements, in cells that may be written -/
def RowAt (G : Cx) (b sz : Nat) (cs : List AV) (f : Nat × Nat → Prop) : Prop :=
  ∃ (cur : Array Value) (e : TypeId) (fr : Nat × Nat), G.w.heap[b]? = some (Obj.cells cur e fr) ∧ f fr ∧ cs.length * sz ≤ cur.size ∧
    ∀ (k : Nat) e, cs[k]? = some e → e.cells.length = sz ∧ (∀ c ∈ e.cells, c.one = true) ∧ ∀ (j : Nat) c, e.cells[j]? = some c → ∃ v, cur[k * sz + j]? = some v ∧ Rep G v c

def ObOk (G : Cx) (id : Nat) : Ob → Prop
  | .dead => ∀ b, G.mu id = some (some b) → b < G.w.heap.size
  | .row sz cs => match G.mu id with
    | none => False
    | some none => cs = []
    | some (some b) => RowAt G b sz cs (· = (0, 0)) ∧ G.base ≤ b ∧ ∀ o, ¬ G.St b o
  | .fz sz cs => match G.mu id with
    | none => False
    | some none => cs = []
    | some (some b) => RowAt G b sz cs (fun _ => True) ∧ ∀ (k : Nat) e (j : Nat), cs[k]? = some e → j < e.cells.length → G.St b (k * sz + j)
  | .mp X => ∃ b, G.mu id = some (some b) ∧ X.At G.w b ∧ G.base ≤ b ∧ (∀ o, ¬ G.St b o) ∧ ∀ j, G.mu j = some (some b) → j = id

theorem ObOk.lt {G : Cx} {id b : Nat} {ob : Ob} (h : ObOk G id ob) (hm : G.mu id = some (some b)) : b < G.w.heap.size := by
  cases ob with
  | dead => exact h b hm
  | row sz cs =>
    simp only [ObOk, hm] at h
    obtain ⟨⟨cur, e, fr, h1, _⟩, _⟩ := h
    exact (Array.getElem?_eq_some_iff.1 h1).1
  | fz sz cs =>
    simp only [ObOk, hm] at h
    obtain ⟨⟨cur, e, fr, h1, _⟩, _⟩ := h
    exact (Array.getElem?_eq_some_iff.1 h1).1
  | mp X =>
    obtain ⟨b', h1, h2, _⟩ := h
    rw [hm] at h1
    cases h1
    exact h2.lt

def alive (σ : List Ob) (i : Nat) : Prop := ∃ sz cs, σ[i]? = some (.row sz cs)

structure Rel (G : Cx) (σ : List Ob) : Prop where
  below : Below G.base G.w0 G.w
  le : G.base ≤ G.w0.heap.size
  st : ∀ b o, G.St b o → b < G.w.heap.size
  obs : ∀ id ob, σ[id]? = some ob → ObOk G id ob
  inj : ∀ i j b, alive σ i → alive σ j → G.mu i = some (some b) → G.mu j = some (some b) → i = j
  fresh : ∀ id, σ.length ≤ id → G.mu id = none

abbrev Frm := List (Nat × AV)
def Frm.get : Frm → Nat → AV
  | [], _ => .any
  | (d, x) :: F, t => bif Nat.beq d t then x else Frm.get F t
def ofValue : Value → AV
  | .agg cs => bif cs.toList.all (·.oneCell') then .agg (cs.toList.map .s) else .any
  | v => .s v
def Frm.eval (F : Frm) : Operand → AV
  | .tmp t => F.get t
  | .const v => ofValue v
  | .global _ => .any
  | .func f => .fn f []

def FOk (G : Cx) (a : Act) (F : Frm) : Prop := ∀ d, Rep G (a.tmps.getD d undef) (F.get d)

structure S8 (N : Nat) (G : Cx) (a : Act) (F : Frm) (σ : List Ob) : Prop where
  rel : Rel G σ
  fr : FOk G a F
  df : a.defers = []
  nt : a.tmps.size = N

/-- from the call's beginning on -/
structure Cx.Step (G G' : Cx) : Prop where
  base : G'.base = G.base
  w0 : G'.w0 = G.w0
  st : ∀ b o, G.St b o → G'.St b o
  cell : ∀ b o, G.St b o → G'.w.cell? ⟨b, o, none⟩ = G.w.cell? ⟨b, o, none⟩
  stN : ∀ b o, G'.St b o → G.St b o ∨ G.base ≤ b
theorem Cx.Step.refl (G : Cx) : G.Step G := ⟨rfl, rfl, fun _ _ h => h, fun _ _ _ => rfl, fun _ _ h => .inl h⟩
theorem Cx.Step.trans {G H K : Cx} (h : G.Step H) (k : H.Step K) : G.Step K :=
  ⟨k.base.trans h.base, k.w0.trans h.w0, fun b o x => k.st b o (h.st b o x), fun b o x => (k.cell b o (h.st b o x)).trans (h.cell b o x), fun b o x => by
    rcases k.stN b o x with h1 | h1
    · exact h.stN b o h1
    · right; rw [← h.base]; exact h1⟩

theorem Cx.Ext.step {G G' : Cx} (e : G.Ext G') : G.Step G' := ⟨e.base, e.w0, e.st, e.cell, e.stN⟩

theorem rep_const (G : Cx) (v : Value) : Rep G v (ofValue v) := by
  cases v with
  | agg cs =>
    simp only [ofValue]
    cases h1 : cs.toList.all (·.oneCell') with
    | false => exact .any _
    | true =>
      refine .agg _ _ (by simp) (fun c hc => ?_) (fun j v c hv hc => ?_)
      · obtain ⟨u, hu, rfl⟩ := List.mem_map.1 hc
        exact List.all_eq_true.1 h1 u hu
      · simp only [List.getElem?_map, Array.getElem?_toList, hv, Option.map_some, Option.some.injEq] at hc
        subst hc; exact .s _
  | _ => exact .s _

theorem rep_eval {G : Cx} {a : Act} {F : Frm} (h : FOk G a F) (y : Operand) : Rep G (a.eval y) (F.eval y) := by
  cases y with
  | tmp t => exact h t
  | const v => exact rep_const G v
  | global g => exact .any _
  | func f => exact .fn f #[] [] rfl (fun j v c hv hc => by simp at hc)

theorem FOk.ext {G G' : Cx} {a : Act} {F : Frm} (h : FOk G a F) (e : G.Ext G') : FOk G' a F := fun d => (h d).ext e
theorem FOk.put {G : Cx} {a : Act} {F : Frm} {d : Nat} {v : Value} {x : AV} (h : FOk G a F) (hd : d < a.tmps.size) (hv : Rep G v x) : FOk G (a.put (some d) v) ((d, x) :: F) := by
  intro t
  by_cases e : d = t
  · subst e
    simpa [Act.put, Frm.get, Array.getD_eq_getD_getElem?, hd] using hv
  · have hb : Nat.beq d t = false := by
      cases hh : Nat.beq d t with
      | false => rfl
      | true => exact absurd (Nat.eq_of_beq_eq_true hh) e
    simpa [Act.put, Frm.get, Array.getD_eq_getD_getElem?, hb, Array.getElem?_setIfInBounds, e] using h t
end Go.Proofs.YtanfaepjamkbjaaGreat.Aw
end
section
namespace Go.Proofs.YtanfaepjamkbjaaGreat
set_option linter.unusedSimpArgs false
set_option linter.unusedVariables false
open Go.RowKit

section
variable {P : Program} {pre : List Oper} {last : Oper} {Q : Exit → Act → World → Prop} {S : World → Prop}

theorem get_pre {i : Nat} (hi : i < pre.length) : (pre ++ [last]).toArray[i]? = pre.toArray[i]? := by simp [List.getElem?_append_left hi]
theorem get_last : (pre ++ [last]).toArray[pre.length]? = some last := by simp

theorem yielded_pre {tmps : Array Value} {j : Nat} (hj : j < pre.length) : yielded (pre ++ [last]).toArray tmps j = yielded pre.toArray tmps j := by
  unfold yielded
  rw [get_pre hj]
/-- the state of affairs once the others are through -/
def thenLast (P : Program) (pre : List Oper) (last : Oper) (Q : Exit → Act → World → Prop) : Exit → Act → World → Prop :=
  Exit.then (fun a w => wpList P (pre ++ [last]).toArray Q [last] a w) Q

theorem upon_then {o : Oper} {a : Act} {K : Act → World → Prop} {r : Result Next} {N : Act → World → Prop} (h : o.upon P a K (Exit.then N Q) r) : o.upon P a K Q r := by
  cases r with
  | ok n w =>
    cases n <;> simp only [Oper.upon] at h ⊢ <;>
      first
        | exact h
        | exact Calls.mono h (fun e w'' he => by cases e <;> exact he)
  | halt x w => cases x <;> simp only [Oper.upon] at h ⊢ <;> exact h

end
end Go.Proofs.YtanfaepjamkbjaaGreat
end
section
namespace Go.Proofs.YtanfaepjamkbjaaGreat.Aw
set_option linter.unusedSimpArgs false
set_option linter.unusedVariables false
open Go.RowKit

def lift (N : Nat) (G : Cx) (Q : Exit → Frm → List Ob → Prop) : Exit → Act → World → Prop :=
  fun e a' w' => ∃ G' F' σ', G'.w = w' ∧ G.Step G' ∧ S8 N G' a' F' σ' ∧ Q e F' σ'
theorem lift_mono {N : Nat} {G G1 : Cx} (h : G.Step G1) {Q Q' : Exit → Frm → List Ob → Prop} (hq : ∀ e F σ, Q e F σ → Q' e F σ) {e : Exit} {a : Act} {w : World} (x : lift N G1 Q e a w) : lift N G Q' e a w := by
  obtain ⟨G', F', σ', h1, h2, h3, h4⟩ := x
  exact ⟨G', F', σ', h1, h.trans h2, h3, hq _ _ _ h4⟩

def AWp (P : Program) (N : Nat) (c : Code) (F : Frm) (σ : List Ob) (Q : Exit → Frm → List Ob → Prop) : Prop :=
  ∀ G a, S8 N G a F σ → c.wp P (lift N G Q) a G.w
def AOps (P : Program) (N : Nat) (ops : Array Oper) (l : List Oper) (F : Frm) (σ : List Ob) (Q : Exit → Frm → List Ob → Prop) : Prop :=
  ∀ G a, S8 N G a F σ → wpList P ops (lift N G Q) l a G.w
def AThen (next : Frm → List Ob → Prop) (Q : Exit → Frm → List Ob → Prop) : Exit → Frm → List Ob → Prop
  | .normal, F, σ => next F σ
  | e, F, σ => Q e F σ
def ABlk (id : Nat) (Q : Exit → Frm → List Ob → Prop) : Exit → Frm → List Ob → Prop
  | .exit id', F, σ => if id' = id then Q .normal F σ else Q (.exit id') F σ
  | e, F, σ => Q e F σ

theorem upon_mono {P : Program} {o : Oper} {a : Act} {K K' : Act → World → Prop} {Q Q' : Exit → Act → World → Prop} (hK : ∀ a w, K a w → K' a w) (hQ : ∀ e a w, Q e a w → Q' e a w) {r : Result Next} (h : o.upon P a K Q r) : o.upon P a K' Q' r := by
  have hout : LetsOut Q → LetsOut Q' := fun ⟨a, w, q⟩ => ⟨a, w, hQ _ _ _ q⟩
  cases r with
  | ok n w =>
    cases n <;> simp only [Oper.upon] at h ⊢ <;>
      first
        | exact hK _ _ h
        | exact h.elim
        | exact Calls.mono h (fun e w'' he => by cases e <;> first | exact hK _ _ he | exact hQ _ _ _ he | exact hout he)
        | exact Rows.mono h (fun v w he => hK _ _ he)
  | halt x w => cases x <;> simp only [Oper.upon] at h ⊢ <;> first | exact hQ _ _ _ h | exact h.elim
theorem wpList_mono {P : Program} {ops : Array Oper} {Q Q' : Exit → Act → World → Prop} (hQ : ∀ e a w, Q e a w → Q' e a w) : ∀ (l : List Oper) (a : Act) (w : World), wpList P ops Q l a w → wpList P ops Q' l a w
  | [], a, w, h => hQ _ _ _ h
  | o :: l, a, w, h => by
    unfold wpList at h ⊢
    split
    · rename_i hw
      rw [if_pos hw] at h
      rcases h with h | ⟨h1, a0, w0, h2⟩
      · exact .inl (upon_mono (fun a w x => wpList_mono hQ l a w x) hQ h)
      · exact .inr ⟨h1, a0, w0, hQ _ _ _ h2⟩
    · rename_i hw
      rw [if_neg hw] at h
      exact wpList_mono hQ l _ w h

section
variable {P : Program} {N : Nat} {F : Frm} {σ : List Ob} {Q : Exit → Frm → List Ob → Prop}

theorem aw_seq {x y : Code} (h : AWp P N x F σ (AThen (fun F σ => AWp P N y F σ Q) Q)) : AWp P N (.seq x y) F σ Q := fun G a hs => by
  refine wp_seq (Code.wp_mono (fun e a1 w1 q => ?_) (h G a hs))
  obtain ⟨G', F', σ', rfl, h2, h3, h4⟩ := q
  cases e with
  | normal => exact Code.wp_mono (fun e a w q => lift_mono h2 (fun _ _ _ x => x) q) (h4 G' a1 h3)
  | _ => exact ⟨G', F', σ', rfl, h2, h3, h4⟩
theorem aw_skip (h : Q .normal F σ) : AWp P N .skip F σ Q := fun G a hs => wp_skip ⟨G, F, σ, rfl, .refl G, hs, h⟩
theorem aw_exit {id : Nat} (h : Q (.exit id) F σ) : AWp P N (.exit id) F σ Q := fun G a hs => wp_exit ⟨G, F, σ, rfl, .refl G, hs, h⟩
theorem aw_ret (h : Q .ret F σ) : AWp P N .ret F σ Q := fun G a hs => wp_ret ⟨G, F, σ, rfl, .refl G, hs, h⟩
theorem aw_block {id : Nat} {c : Code} (h : AWp P N c F σ (ABlk id Q)) : AWp P N (.block id c) F σ Q := fun G a hs => by
  refine wp_block (Code.wp_mono (fun e a1 w1 q => ?_) (h G a hs))
  obtain ⟨G', F', σ', rfl, h2, h3, h4⟩ := q
  cases e with
  | exit id' =>
    simp only [ABlk] at h4
    simp only [Exit.inBlock]
    split
    · rename_i e; rw [if_pos e] at h4; exact ⟨G', F', σ', rfl, h2, h3, h4⟩
    · rename_i e; rw [if_neg e] at h4; exact ⟨G', F', σ', rfl, h2, h3, h4⟩
  | _ => exact ⟨G', F', σ', rfl, h2, h3, h4⟩
theorem rep_bool {G : Cx} {a : Act} {y : Operand} {b : Bool} (hf : FOk G a F) (h : F.eval y = .s (.bool b)) : a.eval y = .bool b := by
  have := rep_eval hf y
  rw [h] at this
  generalize a.eval y = v at *
  cases this; rfl
theorem aw_cond {c : Operand} {x y : Code} {b : Bool} (hc : F.eval c = .s (.bool b)) (ht : b = true → AWp P N x F σ Q) (hf : b = false → AWp P N y F σ Q) : AWp P N (.cond c x y) F σ Q := fun G a hs =>
  wp_cond_split (rep_bool hs.fr hc) (fun e => ht e G a hs) (fun e => hf e G a hs)
theorem aw_if {c : Operand} {x y : Code} {p : Prop} [Decidable p] (hc : F.eval c = .s (.bool (decide p))) (ht : p → AWp P N x F σ Q) (hf : ¬ p → AWp P N y F σ Q) : AWp P N (.cond c x y) F σ Q :=
  aw_cond hc (fun e => ht (of_decide_eq_true e)) (fun e => hf (of_decide_eq_false e))
theorem aw_true {c : Operand} {x y : Code} (hc : F.eval c = .s (.bool true)) (ht : AWp P N x F σ Q) : AWp P N (.cond c x y) F σ Q := aw_cond hc (fun _ => ht) (fun e => by cases e)
theorem aw_false {c : Operand} {x y : Code} (hc : F.eval c = .s (.bool false)) (ht : AWp P N y F σ Q) : AWp P N (.cond c x y) F σ Q := aw_cond hc (fun e => by cases e) (fun _ => ht)
theorem aw_loop {c : Code} (I : Nat → Frm → List Ob → Prop) (m : Nat) (h0 : I m F σ)
    (round : ∀ m F σ, I m F σ → AWp P N c F σ (AThen (fun F' σ' => ∃ m', m' < m ∧ I m' F' σ') Q)) : AWp P N (.loop c) F σ Q := fun G a hs => by
  refine wp_loop_ghost (fun n a w => ∃ G' F' σ', G'.w = w ∧ G.Step G' ∧ S8 N G' a F' σ' ∧ I n F' σ') m ⟨G, F, σ, rfl, .refl G, hs, h0⟩ ?_
  rintro n a w ⟨G', F', σ', rfl, h2, h3, h4⟩
  refine Code.wp_mono (fun e a1 w1 q => ?_) (round n F' σ' h4 G' a h3)
  obtain ⟨G2, F2, σ2, rfl, h5, h6, h7⟩ := q
  cases e with
  | normal => obtain ⟨m', hm, hi⟩ := h7; exact ⟨m', hm, ⟨G2, F2, σ2, rfl, h2.trans h5, h6, hi⟩⟩
  | _ => exact ⟨G2, F2, σ2, rfl, h2.trans h5, h6, h7⟩

theorem aw_region {id : Nat} {l : List Oper} (h : AOps P N l.toArray l F σ Q) : AWp P N (.region id l.toArray false) F σ Q := fun G a hs => wp_region_lit (h G a hs)
theorem aw_mono {c : Code} {Q' : Exit → Frm → List Ob → Prop} (h : AWp P N c F σ Q) (hq : ∀ e F σ, Q e F σ → Q' e F σ) : AWp P N c F σ Q' := fun G a hs =>
  Code.wp_mono (fun e a w q => lift_mono (.refl G) hq q) (h G a hs)

/-- the same state, known less -/
def Weak (N : Nat) (F : Frm) (σ : List Ob) (F' : Frm) (σ' : List Ob) : Prop := ∀ G a, S8 N G a F σ → ∃ G', G'.w = G.w ∧ G.Step G' ∧ S8 N G' a F' σ'
theorem Weak.refl : Weak N F σ F σ := fun G a h => ⟨G, rfl, .refl G, h⟩
theorem Weak.trans {F1 F2 : Frm} {σ1 σ2 : List Ob} (h : Weak N F σ F1 σ1) (k : Weak N F1 σ1 F2 σ2) : Weak N F σ F2 σ2 := fun G a hs => by
  obtain ⟨G1, e1, s1, h1⟩ := h G a hs
  obtain ⟨G2, e2, s2, h2⟩ := k G1 a h1
  exact ⟨G2, e2.trans e1, s1.trans s2, h2⟩
theorem aw_weak {c : Code} {F' : Frm} {σ' : List Ob} (w : Weak N F σ F' σ') (h : AWp P N c F' σ' Q) : AWp P N c F σ Q := fun G a hs => by
  obtain ⟨G1, e1, s1, h1⟩ := w G a hs
  rw [← e1]
  exact Code.wp_mono (fun e a w q => lift_mono s1 (fun _ _ _ x => x) q) (h G1 a h1)
theorem aops_weak {ops : Array Oper} {l : List Oper} {F' : Frm} {σ' : List Ob} (w : Weak N F σ F' σ') (h : AOps P N ops l F' σ' Q) : AOps P N ops l F σ Q := fun G a hs => by
  obtain ⟨G1, e1, s1, h1⟩ := w G a hs
  rw [← e1]
  exact wpList_mono (fun e a w q => lift_mono s1 (fun _ _ _ x => x) q) _ _ _ (h G1 a h1)
end

/-- what an operation does: its value, and what becomes of the call's own things -/
def Does (P : Program) (o : Oper) (F : Frm) (σ : List Ob) (x : AV) (σ' : List Ob) : Prop :=
  ∀ (G : Cx) (a : Act) (next : Act → World → Prop) (Q : Exit → Act → World → Prop), Rel G σ → (∀ y ∈ o.op.operands, Rep G (a.eval y) (F.eval y)) →
    (∀ v G', G.Ext G' → Rel G' σ' → Rep G' v x → next (a.put o.dst v) G'.w) → o.wp P a G.w next Q

theorem S8.step {N : Nat} {G G' : Cx} {a : Act} {F : Frm} {σ σ' : List Ob} (h : S8 N G a F σ) (e : G.Ext G') (r : Rel G' σ') : S8 N G' a F σ' := ⟨r, h.fr.ext e, h.df, h.nt⟩
theorem S8.put {N : Nat} {G : Cx} {a : Act} {F : Frm} {σ : List Ob} {d : Nat} {v : Value} {x : AV} (h : S8 N G a F σ) (hd : d < N) (hv : Rep G v x) : S8 N G (a.put (some d) v) ((d, x) :: F) σ :=
  ⟨h.rel, h.fr.put (by rw [h.nt]; exact hd) hv, h.df, by simp [Act.put, h.nt]⟩

/-- whether the guard lets it run -/
def Runs (ops : Array Oper) (F : Frm) (o : Oper) (b : Bool) : Prop :=
  match o.guard with
  | none => b = true
  | some (j, want) => ∃ t, (ops[j]?).bind (·.dst) = some t ∧ ((∃ c, F.get t = .s (.bool c) ∧ b = (c == want)) ∨ (F.get t = .s undef ∧ b = false))
theorem runs_none {ops : Array Oper} {F : Frm} {o : Oper} (h : o.guard = none) : Runs ops F o true := by simp [Runs, h]
theorem runs_some {ops : Array Oper} {F : Frm} {o : Oper} {j : Nat} {want c : Bool} {t : Nat} (h : o.guard = some (j, want)) (hd : (ops[j]?).bind (·.dst) = some t) (hc : F.get t = .s (.bool c)) : Runs ops F o (c == want) := by
  simp only [Runs, h]
  exact ⟨t, hd, .inl ⟨c, hc, rfl⟩⟩
theorem runs_nu {ops : Array Oper} {F : Frm} {o : Oper} {j : Nat} {want : Bool} {t : Nat} (h : o.guard = some (j, want)) (hd : (ops[j]?).bind (·.dst) = some t) (hc : F.get t = .s undef) : Runs ops F o false := by
  simp only [Runs, h]
  exact ⟨t, hd, .inr ⟨hc, trivial⟩⟩
theorem Runs.wanted {ops : Array Oper} {F : Frm} {o : Oper} {b : Bool} {G : Cx} {a : Act} (h : Runs ops F o b) (hf : FOk G a F) : Region.wanted o (yielded ops a.tmps) = b := by
  unfold Runs at h
  unfold Region.wanted
  cases hg : o.guard with
  | none => rw [hg] at h; exact h.symm
  | some jb =>
    obtain ⟨j, want⟩ := jb
    rw [hg] at h
    obtain ⟨t, h1, ⟨c, h2, rfl⟩ | ⟨h2, rfl⟩⟩ := h
    case inr =>
      simp only
      have h3 := hf t
      rw [h2] at h3
      have h5 : a.tmps.getD t undef = undef := by generalize a.tmps.getD t undef = v at *; cases h3; rfl
      rw [Array.getD_eq_getD_getElem?] at h5
      cases h6 : a.tmps[t]? with
      | none => simp [yielded, h1, h6]
      | some u =>
        rw [h6] at h5
        simp only [Option.getD_some] at h5
        subst h5
        simp [yielded, h1, h6, undef]
    simp only
    have h3 := hf t
    rw [h2] at h3
    have h4 : a.tmps[t]? = some (.bool c) := by
      have h5 : a.tmps.getD t undef = .bool c := by generalize a.tmps.getD t undef = v at *; cases h3; rfl
      rw [Array.getD_eq_getD_getElem?] at h5
      cases h6 : a.tmps[t]? with
      | none => rw [h6] at h5; simp [undef] at h5
      | some u => rw [h6] at h5; simpa using h5
    simp [yielded, h1, h4]

section
variable {P : Program} {N : Nat} {F : Frm} {σ σ' : List Ob} {Q : Exit → Frm → List Ob → Prop} {ops : Array Oper} {o : Oper} {l : List Oper} {x : AV}

theorem ops_nil (h : Q .normal F σ) : AOps P N ops [] F σ Q := fun G a hs => ⟨G, F, σ, rfl, .refl G, hs, h⟩
theorem ops_op {d : Nat} (hd : o.dst = some d) (hN : Nat.blt d N = true) (hr : Runs ops F o true) (hD : Does P o F σ x σ') (k : AOps P N ops l ((d, x) :: F) σ' Q) : AOps P N ops (o :: l) F σ Q := fun G a hs => by
  unfold wpList
  rw [if_pos (hr.wanted hs.fr)]
  left
  refine hD G a _ _ hs.rel (fun y _ => rep_eval hs.fr y) (fun v G' e r hv => ?_)
  rw [hd]
  exact wpList_mono (fun e' a w q => lift_mono e.step (fun _ _ _ x => x) q) _ _ _ (k G' _ ((hs.step e r).put (by simpa [Nat.blt_eq] using hN) hv))
theorem ops_eff (hd : o.dst = none) (hr : Runs ops F o true) (hD : Does P o F σ x σ') (k : AOps P N ops l F σ' Q) : AOps P N ops (o :: l) F σ Q := fun G a hs => by
  unfold wpList
  rw [if_pos (hr.wanted hs.fr)]
  left
  refine hD G a _ _ hs.rel (fun y _ => rep_eval hs.fr y) (fun v G' e r hv => ?_)
  rw [hd]
  exact wpList_mono (fun e' a w q => lift_mono e.step (fun _ _ _ x => x) q) _ _ _ (k G' _ (hs.step e r))
theorem ops_skip {d : Nat} (hd : o.dst = some d) (hN : Nat.blt d N = true) (hr : Runs ops F o false) (k : AOps P N ops l ((d, .s undef) :: F) σ Q) : AOps P N ops (o :: l) F σ Q := fun G a hs => by
  unfold wpList
  rw [if_neg (by rw [hr.wanted hs.fr]; simp)]
  rw [hd]
  exact k G _ (hs.put (by simpa [Nat.blt_eq] using hN) (.s _))
end
end Go.Proofs.YtanfaepjamkbjaaGreat.Aw
end
