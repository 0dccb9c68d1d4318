import Derived.Test.YtmhbfoaecebobaaJG1
import Derived.Lib.SliceRun
import Derived.StillTailTactics
import Derived.Lib.UnsafeStr
import Derived.Lib.Builder
section
namespace Go.Proofs.Ytmhbfoaecebobaa
set_option linter.unusedSimpArgs false
set_option linter.unusedVariables false
open Go.RowKit
set_option maxRecDepth 100000 in
set_option maxHeartbeats 1000000 in
theorem clone_any (l : List Int) (v : Value) (lo hi : Nat) (w : World) (hv : RdI w lo hi v l) (hl : l.length ≤ 1000000) :
    Calls Try.prog 46 #[v] w fun e w' => ∃ A c, e = .returned (.slice A l.length c) ∧ OwnI w' w.heap.size w'.heap.size (.slice A l.length c) l ∧ Below w.heap.size w w' := by
  have hq : ∀ (w : World) (a : Option Addr) (n c n' c' : Nat), (binOp .eql 30 (.slice a n c) (.slice none n' c')).run Try.prog w = .ok (.bool a.isNone) w := fun w a n c n' c' => Lib.run_eql_slice_nil w _ _ a n c n' c' Try.underlying30
  obtain ⟨A, c, rfl, hc, hm⟩ := hv.form
  have HV := Lib.hid hv
  have HL := Lib.hid hl
  clear hl
  rcases A with _ | ad
  · have hnil : l = [] := by
      rcases Nat.eq_zero_or_pos l.length with h0 | h0
      · exact List.eq_nil_of_length_eq_zero h0
      · obtain ⟨b, off, h, _⟩ := RdC.cells hv h0
        cases h
    clear hv
    subst hnil
    refine zax fun R hR => ?_
    have HR := Lib.hid hR
    clear hR
    go_enter Try.func46, Try.ntmps46
    go_wp2_with fail
    exact HR.out _ _ ⟨none, 0, rfl, Own.nil _ _ _, Below.refl _ _⟩
  · clear hv
    refine zax fun R hR => ?_
    have HR := Lib.hid hR
    clear hR
    go_enter Try.func46, Try.ntmps46
    have M : Hid (Mem [Loc.owI w.heap.size (w.heap.size + 1) (.slice (some ⟨w.heap.size, 0, none⟩) 0 0) [], Loc.bl w.heap.size w] (w.alloc (.cells #[] 3))) := Lib.hid ⟨Own.lit w 3 w.heap.size [] #[] 0 rfl rfl (Nat.le_refl _) (Nat.zero_le _) (fun _ => rfl), ⟨(Below.refl _ _).alloc (Nat.le_refl _) _, by simp⟩, True.intro⟩
    go_wp2_with (at_builtin; refine wpList_app rfl _ _ rfl ti_int (fun _ => rfl) oneI rfl rfl (M.out) (by (repeat' (first | exact True.intro | refine And.intro (fun k hk e => ?_) ?_)) <;> (first | exact e | ((try dsimp only [Loc.c1, Loc.c2, Loc.k1, Loc.k2, Loc.k3, Loc.k4, Loc.k6, Loc.fr, Loc.bl, Loc.own, Loc.sz, Loc.rd, Loc.rdI, Loc.rdS, Loc.rdM, Loc.rdT, Loc.ow, Loc.owI] at hk e) <;> omega))) (HV.out.after ((Below.refl _ _).alloc (Nat.le_refl _) _)) (by have := HL.out; simp; omega) (by have := HL.out; simp; omega) (by simp) ?_; intro A1 c1 w1 hM1 hs1 hch1; replace M := Lib.hid hM1; clear hM1 hch1)
    refine HR.out _ _ ⟨A1, c1, ?_, ?_, M.out.2.1.1⟩
    · simp
    · have := M.out.1
      simp only [List.length_nil, Nat.zero_add, List.nil_append] at this
      exact this
def maxI : Int → List Int → Int
  | x, [] => x
  | x, y :: l => maxI (max x y) l
theorem maxI_gt (b : Int) : ∀ (l : List Int) (x : Int), decide (b < maxI x l) = (x :: l).any fun y => decide (b < y)
  | [], x => by simp [maxI] <;> rfl
  | y :: l, x => by
    rw [maxI, maxI_gt b l]
    simp only [List.any_cons]
    grind
set_option maxHeartbeats 1000000 in
theorem max_any (x : Int) (l : List Int) (v : Value) (lo hi : Nat) (w : World) (hv : RdI w lo hi v (x :: l)) :
    Calls Try.prog 98 #[v] w fun e w' => e = .returned (.int .i64 (maxI x l)) ∧ Below w.heap.size w w' := by
  have hx0 := hv
  obtain ⟨A, c, rfl, hc, hm⟩ := hv.form
  obtain ⟨b, off, rfl, _, _, hcell0⟩ := RdI.at1 hv (k := 0) (by simp)
  have HV := Lib.hid hv
  simp only [gti, List.getElem?_cons_zero, Option.getD_some, Nat.add_zero] at hcell0
  simp only [List.length_cons] at hc hm
  clear hv hx0
  refine zax fun R hR => ?_
  have HR := Lib.hid hR
  clear hR
  go_enter Try.func98, Try.ntmps98
  go_wp2_with fail
  go_loop [3, 4] (fun v3 v4 => ∃ (k : Nat) (y : Int), k ≤ l.length ∧ v3 = .int .i64 y ∧ v4 = .int .i64 (k + 1 : Nat) ∧ Hid (maxI y (l.drop k) = maxI x l)) (fun _ v4 => l.length + 1 - (intOf v4).toNat)
  case atStart => exact ⟨0, x, by omega, rfl, rfl, Lib.hid rfl⟩
  case round =>
    obtain ⟨k, y, hk, rfl, rfl, HI⟩ := hrel
    by_cases hlt : k < l.length
    · obtain ⟨_, _, e, _, _, hcell⟩ := RdI.at1 HV.out (k := k + 1) (by simp; omega)
      injection e with e
      injection e with e1 e2
      subst e1 e2
      have HD := Lib.hid (drop_gti hlt)
      have e3 : gti (x :: l) (k + 1) = gti l k := by simp [gti]
      rw [e3] at hcell
      clear e3
      generalize gti l k = z at *
      go_wp2_with fail
      refine ⟨⟨k + 1, _, by omega, rfl, by go_num, Lib.hid ?_⟩, by simp [intOf]; omega⟩
      have h := HI.out
      rw [HD.out, maxI] at h
      rw [← h]
      congr 1
      omega
    · obtain rfl : k = l.length := by omega
      have HE := HI.out
      simp only [List.drop_length, maxI] at HE
      have HE := Lib.hid HE
      go_wp2_with fail
      exact HR.out _ _ ⟨ret_int (by first | exact HE.out | rfl), Below.refl _ _⟩
def enB (t : Tr) (m : List Int) : Bool := !t.inn.any fun p => decide (gti m p.toNat = 0)
theorem ent_enabled1 : Ent 111 := ent_of Try.func111 (by kernel_rfl) rfl
set_option maxHeartbeats 400000 in
theorem enabled1_any (m : List Int) (v : Value) (lo hi g : Nat) (p : Int) (w : World) (hg : C1 w g 0 v) (hv : RdI w lo hi v m) (h0 : 0 ≤ p) (h1 : p < m.length) :
    Calls Try.prog 111 #[.int .i64 p, .pointer (some ⟨g, 0, none⟩)] w fun e w' => e = .returned (.bool (decide (gti m p.toNat = 0))) ∧ Below w.heap.size w w' := by
  obtain ⟨k, rfl⟩ : ∃ k : Nat, p = k := ⟨p.toNat, by omega⟩
  have hlt : k < m.length := by omega
  clear h0 h1
  obtain ⟨A, c, rfl, hc, hm⟩ := hv.form
  obtain ⟨b, off, rfl, _, _, hcell⟩ := RdI.at1 hv hlt
  have HV := Lib.hid hv
  clear hv
  simp only [Int.toNat_natCast]
  refine zax fun R hR => ?_
  have HR := Lib.hid hR
  clear hR
  go_enter Try.func111, Try.ntmps111
  go_wp2_with fail
  all_goals (refine HR.out _ _ ⟨ret_bool ?_, Below.refl _ _⟩ <;> (go_light; grind))
abbrev trV (t : Tr) (vi vo : Value) : Value := .agg #[.string t.label, vi, vo]
set_option maxRecDepth 100000 in
set_option maxHeartbeats 400000 in
theorem enabled_any (t : Tr) (vi vo : Value) (m : List Int) (v : Value) (lo hi lo' hi' : Nat) (w : World) (hi1 : RdI w lo hi vi t.inn) (hv : RdI w lo' hi' v m) (hin : ∀ p ∈ t.inn, 0 ≤ p ∧ p < m.length) :
    Calls Try.prog 97 #[trV t vi vo, v] w fun e w' => e = .returned (.bool (enB t m)) ∧ Below w.heap.size w w' := by
  obtain ⟨A, c, rfl, hc, hm⟩ := hv.form
  obtain ⟨A2, c2, rfl, hc2, hm2⟩ := hi1.form
  have HV := Lib.hid hv
  have HI := Lib.hid hi1
  have HN := Lib.hid hin
  clear hv hi1 hin
  have HC : Hid (∀ W, Mem [Loc.c1 (w.heap.size + 1) 0 (.slice A m.length c), Loc.bl w.heap.size w] W → Calls Try.prog 95 #[.slice A2 t.inn.length c2, .func (.func 111) #[] #[.pointer (some ⟨w.heap.size + 1, 0, none⟩)]] W fun e w' => e = .returned (.bool (t.inn.any fun p => decide (gti m p.toNat = 0))) ∧ Below W.heap.size W w') :=
    Lib.hid (fun W hM => containsFI_any 111 ent_enabled1 #[.pointer (some ⟨w.heap.size + 1, 0, none⟩)] (fun p => decide (gti m p.toNat = 0)) t.inn lo hi _ W (HI.out.after hM.2.1.1) (fun a ha W' hW' => enabled1_any m _ lo' hi' _ a W' (hM.below hW').1 ((HV.out.after hM.2.1.1).after hW') (HN.out a ha).1 (HN.out a ha).2))
  refine zax fun R hR => ?_
  have HR := Lib.hid hR
  clear hR
  go_enter Try.func97, Try.ntmps97
  have M : Hid (Mem [Loc.c1 (w.heap.size + 1) 0 (.slice A m.length c), Loc.bl w.heap.size w] ((w.alloc (Obj.cells #[Value.string t.label, Value.slice A2 t.inn.length c2, vo] 46)).alloc (Obj.cells #[Value.slice A m.length c] 30))) := Lib.hid ⟨by simp [C1, go_sem], ⟨((Below.refl _ _).alloc (Nat.le_refl _) _).alloc (by simp) _, by simp; omega⟩, True.intro⟩
  go_wp2_with (go_at_call 95; refine (HC.out _ M.out).mono ?_; rintro e w1 ⟨rfl, hb1⟩; replace M := Lib.hid (M.out.below hb1); clear hb1; skip)
  exact HR.out _ _ ⟨rfl, M.out.2.1.1⟩
theorem placesB_at {n : Int} {l : List Int} (h : placesB n l = true) {k : Nat} (hk : k < l.length) : 0 ≤ gti l k ∧ gti l k < n ∧ (k : Int) ≤ gti l k := by
  have hall : ∀ j, j < l.length → ¬ badP n l j := by
    intro j hj hb
    rw [placesB_false hj hb] at h
    cases h
  have h1 := hall k hk
  unfold badP at h1
  refine ⟨by omega, by omega, ?_⟩
  induction k with
  | zero => omega
  | succ k ih =>
    have h2 := hall k (by omega)
    unfold badP at h2
    have := ih (by omega) h2
    simp only [Nat.add_sub_cancel] at h1
    omega
theorem placesB_len {n : Int} {l : List Int} (h : placesB n l = true) : (l.length : Int) ≤ n ∨ l.length = 0 := by
  rcases Nat.eq_zero_or_pos l.length with h0 | h0
  · exact .inr h0
  · have := placesB_at h (k := l.length - 1) (by omega)
    omega
theorem mem_gti {α : Type} [Inhabited α] {l : List α} {a : α} (h : a ∈ l) : ∃ k, k < l.length ∧ gti l k = a := by
  obtain ⟨k, hk, rfl⟩ := List.mem_iff_getElem.1 h
  exact ⟨k, hk, by unfold gti; rw [List.getElem?_eq_getElem hk]; rfl⟩
theorem placesB_mem {n : Int} {l : List Int} (h : placesB n l = true) {p : Int} (hp : p ∈ l) : 0 ≤ p ∧ p < n := by
  obtain ⟨k, hk, rfl⟩ := mem_gti hp
  have := placesB_at h hk
  exact ⟨this.1, this.2.1⟩
theorem validL_tr {n : Net} : ∀ {l : List Tr}, validL n l = true → ∀ t ∈ l, trB n.places t = true
  | [], _, t, ht => by cases ht
  | x :: l, h, t, ht => by
    simp only [validL] at h
    split at h
    · rcases List.mem_cons.1 ht with rfl | ht
      · assumption
      · exact validL_tr h t ht
    · cases h
theorem validB_tr {n : Net} (h : zbc n = true) {t : Tr} (ht : t ∈ n.trans) : (t.label.toList.isEmpty || nameB t.label) = true ∧ placesB n.places t.inn = true ∧ placesB n.places t.out = true := by
  unfold zbc at h
  split at h
  · cases h
  · have := validL_tr h t ht
    unfold trB at this
    simp only [Bool.and_eq_true] at this
    exact ⟨this.1.1, this.1.2, this.2⟩
theorem gti_mem {α : Type} [Inhabited α] {l : List α} {k : Nat} (h : k < l.length) : gti l k ∈ l := List.mem_of_getElem? (gti_get h)
theorem mark2B_len {n : Net} {m : List Int} (h : mark2B n m = true) : (m.length : Int) = n.places := by
  unfold mark2B at h
  split at h
  · cases h
  · omega
theorem all01_at : ∀ {m : List Int}, all01 m = true → ∀ k, 0 ≤ gti m k ∧ gti m k ≤ 100
  | [], _, k => by simp [gti]
  | x :: m, h, k => by
    simp only [all01] at h
    split at h
    · cases h
    · cases k with
      | zero => simp [gti]; omega
      | succ k =>
        have := all01_at h k
        simpa [gti] using this
theorem mark2B_at {n : Net} {m : List Int} (h : mark2B n m = true) (k : Nat) : 0 ≤ gti m k ∧ gti m k ≤ 100 := by
  unfold mark2B at h
  split at h
  · cases h
  · exact all01_at h k
def enabledL (m : List Int) : Nat → List Tr → List Int
  | _, [] => []
  | i, t :: ts => if enB t m then (i : Int) :: enabledL m (i + 1) ts else enabledL m (i + 1) ts
def enabledE (n : Net) (m : List Int) : List Int × Int := if markB n m then (enabledL m 0 n.trans, 0) else ([], 1)
theorem marking_is {n : Net} {m : List Int} {b : Bool} (hb : markB n m = b) (vt v : Value) (lo hi lo' hi' : Nat) (w : World) (hv : RdT w lo hi vt n.trans) (hm : RdI w lo' hi' v m) :
    Calls Try.prog 62 #[netV n vt, v] w fun e w' => e = .returned (.bool b) ∧ Below w.heap.size w w' := hb ▸ marking_any n m vt v lo hi lo' hi' w hv hm
set_option maxHeartbeats 1000000 in
theorem Enabled_any (n : Net) (m : List Int) (vt v : Value) (lo hi lo' hi' : Nat) (w : World) (hv : RdT w lo hi vt n.trans) (hm : RdI w lo' hi' v m) :
    Calls Try.prog 106 #[netV n vt, v] w (RetI w (enabledE n m)) := by
  obtain ⟨A, c, rfl, hc, hmm⟩ := hv.form
  obtain ⟨A2, c2, rfl, hc2, hmm2⟩ := hm.form
  have HV := Lib.hid hv
  have HW := Lib.hid hm
  clear hv hm
  cases hvb : markB n m
  · have HVB := Lib.hid hvb
    clear hvb
    refine zax fun R hR => ?_
    have HR := Lib.hid hR
    clear hR
    go_enter Try.func106, Try.ntmps106
    have M : Hid (Mem [Loc.k4 w.heap.size (.int .i64 n.places) (.slice A n.trans.length c) (.int .i64 n.source) (.int .i64 n.sink), Loc.bl w.heap.size w] (w.alloc (.cells #[.int .i64 n.places, .slice A n.trans.length c, .int .i64 n.source, .int .i64 n.sink] 24))) := Lib.hid ⟨K4.new w _ _ _ _ _, ⟨(Below.refl _ _).alloc (Nat.le_refl _) _, by simp⟩, True.intro⟩
    have hk4 := M.out.1
    go_wp2_with (go_at_call 62; refine (marking_is HVB.out _ _ lo hi lo' hi' _ (HV.out.after M.out.2.1.1) (HW.out.after M.out.2.1.1)).mono ?_; rintro e w1 ⟨rfl, hb1⟩; replace M := Lib.hid (M.out.below hb1); clear hb1; replace hk4 := M.out.1)
    exact HR.out _ _ (RetI.nil (by rw [enabledE, HVB.out]; rfl) M.out.2.1.1)
  · have HVB := Lib.hid hvb
    have hval : zbc n = true := by unfold markB at hvb; simp at hvb; exact hvb.1
    have HMK : Hid (mark2B n m = true) := Lib.hid (by unfold markB at hvb; simp at hvb; exact hvb.2)
    have HVAL := Lib.hid hval
    have hpl := (za8 hval).2.2
    clear hvb hval
    refine zax fun R hR => ?_
    have HR := Lib.hid hR
    clear hR
    go_enter Try.func106, Try.ntmps106
    have M : Hid (Mem [Loc.k4 w.heap.size (.int .i64 n.places) (.slice A n.trans.length c) (.int .i64 n.source) (.int .i64 n.sink), Loc.bl w.heap.size w] (w.alloc (.cells #[.int .i64 n.places, .slice A n.trans.length c, .int .i64 n.source, .int .i64 n.sink] 24))) := Lib.hid ⟨K4.new w _ _ _ _ _, ⟨(Below.refl _ _).alloc (Nat.le_refl _) _, by simp⟩, True.intro⟩
    have hk4 := M.out.1
    go_wp2_with (go_at_call 62; refine (marking_is HVB.out _ _ lo hi lo' hi' _ (HV.out.after M.out.2.1.1) (HW.out.after M.out.2.1.1)).mono ?_; rintro e w1 ⟨rfl, hb1⟩; replace M := Lib.hid (M.out.below hb1); clear hb1; replace hk4 := M.out.1)
    go_loopw [16, 6, 7, 8] (fun v16 v6 _ _ wr => ∃ (k : Nat) (out : List Int) (B : Option Addr) (d hh : Nat), k ≤ n.trans.length ∧ v16 = .int .i64 k ∧ v6 = .slice B out.length d ∧ out.length ≤ k ∧ Hid (out ++ enabledL m k (n.trans.drop k) = enabledL m 0 n.trans) ∧ hh ≤ wr.heap.size ∧ Hid (Mem [Loc.owI w1.heap.size hh (.slice B out.length d) out, Loc.k4 w.heap.size (.int .i64 n.places) (.slice A n.trans.length c) (.int .i64 n.source) (.int .i64 n.sink), Loc.bl w.heap.size w, Loc.sz w1.heap.size] wr)) (fun v16 _ _ _ _ => n.trans.length - (intOf v16).toNat)
    case atStart => exact ⟨0, [], none, 0, 0, by omega, rfl, rfl, by simp, Lib.hid (by simp), by omega, Lib.hid ⟨Own.nil _ _ _, M.out.1, M.out.2.1, Nat.le_refl _, True.intro⟩⟩
    case round =>
      have hws := M.out.2.1.2
      have hwk := M.out.1.2.2.2.2
      clear M hk4
      obtain ⟨k, out, B, d, hh, hk, rfl, rfl, hol, HI, hhs, HM⟩ := hrel
      have hk4 := HM.out.2.1
      by_cases hlt : k < n.trans.length
      · obtain ⟨b, off, vi, vo, rfl, _, _, hcell, hri, hro⟩ := RdT.at3 (HV.out.after HM.out.2.2.1.1) hlt
        have HD := Lib.hid (drop_gti hlt)
        have HTR := Lib.hid (validB_tr HVAL.out (gti_mem hlt))
        obtain ⟨Ai, ci, rfl, hci, hmi⟩ := hri.form
        obtain ⟨Ao, co, rfl, hco, hmo⟩ := hro.form
        generalize gti n.trans k = t at *
        have M : Hid (Mem [Loc.owI w1.heap.size hh (.slice B out.length d) out, Loc.k4 w.heap.size (.int .i64 n.places) (.slice (some ⟨b, off, none⟩) n.trans.length c) (.int .i64 n.source) (.int .i64 n.sink), Loc.bl w.heap.size w, Loc.sz w1.heap.size, Loc.k3 wr.heap.size (.string t.label) (.slice Ai t.inn.length ci) (.slice Ao t.out.length co)] (wr.alloc (.cells #[.string t.label, .slice Ai t.inn.length ci, .slice Ao t.out.length co] 46))) :=
          Lib.hid ⟨(HM.out.alloc _).1, (HM.out.alloc _).2.1, (HM.out.alloc _).2.2.1, (HM.out.alloc _).2.2.2.1, K3.new wr _ _ _ _, True.intro⟩
        have HRI := Lib.hid (hri.after ((Below.refl _ _).alloc (Nat.le_refl _) (.cells #[.string t.label, .slice Ai t.inn.length ci, .slice Ao t.out.length co] 46)))
        clear HM hri hro
        replace hk4 := M.out.2.1
        have hk3 := M.out.2.2.2.2.1
        have hwz := M.out.2.2.2.1
        go_wp2_with (first
          | (go_at_call 97; refine (enabled_any t _ _ m _ lo hi lo' hi' _ HRI.out (HW.out.after M.out.2.2.1.1) (fun p hp => by have := placesB_mem HTR.out.2.1 hp; have := mark2B_len HMK.out; omega)).mono ?_; rintro e w1 ⟨rfl, hb1⟩; replace M := Lib.hid (M.out.below hb1); clear hb1; replace hk4 := M.out.2.1; replace hk3 := M.out.2.2.2.2.1)
          | (at_builtin; refine wpList_app rfl _ _ rfl ti_int (fun _ => rfl) oneI rfl rfl (M.out.alloc _) (by (repeat' (first | exact True.intro | refine And.intro (fun k hk e => ?_) ?_)) <;> (first | exact e | ((try dsimp only [Loc.c1, Loc.c2, Loc.k1, Loc.k2, Loc.k3, Loc.k4, Loc.k6, Loc.fr, Loc.bl, Loc.own, Loc.sz, Loc.rd, Loc.rdI, Loc.rdS, Loc.rdM, Loc.rdT, Loc.ow, Loc.owI] at hk e) <;> omega))) (RdI.lit1 _ _ _) (by simp; omega) (by simp; omega) ((M.out.alloc _).2.2.2.1) ?_; intro A1 c1 w1 hM1 hs1 hch1; replace M := Lib.hid hM1; clear hM1 hch1; (try simp only [World.size_alloc] at hs1); skip))
        all_goals have h := HI.out
        all_goals rw [HD.out, enabledL] at h
        · refine ⟨⟨k + 1, out ++ [(k : Int)], A1, c1, _, by omega, by go_num, by simp, by simp; omega, Lib.hid (by go_light; grind), Nat.le_refl _, Lib.hid ⟨by simpa using M.out.1, M.out.2.1, M.out.2.2.1, M.out.2.2.2.1, True.intro⟩⟩, by simp [intOf]; omega⟩
        · have hsz := (M.out.2.2.2.2.1).2.2.2
          exact ⟨⟨k + 1, out, B, d, hh, by omega, by go_num, by simp, by omega, Lib.hid (by go_light; grind), by omega, Lib.hid ⟨M.out.1, M.out.2.1, M.out.2.2.1, M.out.2.2.2.1, True.intro⟩⟩, by simp [intOf]; omega⟩
      · obtain rfl : k = n.trans.length := by omega
        have HE : Hid (out = enabledL m 0 n.trans) := Lib.hid (by have h := HI.out; simpa [enabledL] using h)
        go_wp2_with fail
        exact HR.out _ _ (RetI.mk (l := out) (by rw [enabledE, HVB.out, if_pos rfl, HE.out]) rfl HM.out.1.rd hws hhs HM.out.2.2.1.1)
def decL : List Int → List Int → List Int
  | [], m => m
  | p :: ps, m => decL ps (m.set p.toNat (gti m p.toNat - 1))
def incL : List Int → List Int → List Int
  | [], m => m
  | p :: ps, m => incL ps (m.set p.toNat (gti m p.toNat + 1))
theorem decL_len : ∀ ps m, (decL ps m).length = m.length
  | [], m => rfl
  | p :: ps, m => by rw [decL, decL_len ps, List.length_set]
theorem incL_len : ∀ ps m, (incL ps m).length = m.length
  | [], m => rfl
  | p :: ps, m => by rw [incL, incL_len ps, List.length_set]
def fireE (n : Net) (m : List Int) (t : Int) : List Int × Int :=
  if t < 0 ∨ n.trans.length ≤ t then ([], 2) else
  if enB (gti n.trans t.toNat) m then
    if (incL (gti n.trans t.toNat).out (decL (gti n.trans t.toNat).inn m)).any (fun y => decide (100 < y)) then ([], 5)
    else (incL (gti n.trans t.toNat).out (decL (gti n.trans t.toNat).inn m), 0)
  else ([], 12)
def Bnd (B : Int) (l : List Int) : Prop := ∀ i, -B ≤ gti l i ∧ gti l i ≤ B
theorem gti_set (l : List Int) (i j : Nat) (x : Int) : gti (l.set i x) j = if i = j ∧ j < l.length then x else gti l j := by
  unfold gti
  rw [List.getElem?_set]
  by_cases h : i = j
  · subst h
    by_cases h2 : i < l.length
    · simp [h2]
    · simp [h2]
  · simp [h]
theorem Bnd.dec {B : Int} {l : List Int} (h : Bnd B l) (i : Nat) : Bnd (B + 1) (l.set i (gti l i - 1)) := fun j => by
  rw [gti_set]
  have := h i
  have := h j
  split <;> omega
theorem Bnd.inc {B : Int} {l : List Int} (h : Bnd B l) (i : Nat) : Bnd (B + 1) (l.set i (gti l i + 1)) := fun j => by
  rw [gti_set]
  have := h i
  have := h j
  split <;> omega
theorem C3.aft {w W : World} {b o : Nat} {x y z : Value} (hb : Below w.heap.size w W) (h : C3 w b o x y z) : C3 W b o x y z := by
  have hbs := World.block_lt_of_cell? _ _ h.1
  exact ⟨(hb.cell (p := ⟨b, o, none⟩) hbs).trans h.1, (hb.cell (p := ⟨b, o + 1, none⟩) hbs).trans h.2.1, (hb.cell (p := ⟨b, o + 2, none⟩) hbs).trans h.2.2⟩
def maxL (l : List Int) : Int := maxI (gti l 0) l.tail
theorem maxL_gt (b : Int) {l : List Int} (h : 0 < l.length) : decide (b < maxL l) = l.any fun y => decide (b < y) := by
  cases l with
  | nil => simp at h
  | cons x l => exact maxI_gt b l x
theorem maxL_any (l : List Int) (v : Value) (lo hi : Nat) (w : World) (hv : RdI w lo hi v l) (hl : 0 < l.length) :
    Calls Try.prog 98 #[v] w fun e w' => e = .returned (.int .i64 (maxL l)) ∧ Below w.heap.size w w' := by
  cases l with
  | nil => simp at hl
  | cons x l => exact max_any x l v lo hi w hv
set_option maxRecDepth 100000 in
set_option maxHeartbeats 2000000 in
theorem fire_any (n : Net) (m : List Int) (t : Int) (vt v : Value) (lo hi lo' hi' : Nat) (w : World) (hv : RdT w lo hi vt n.trans) (hm : RdI w lo' hi' v m) (hmk : markB n m = true) :
    Calls Try.prog 63 #[netV n vt, v, .int .i64 t] w (RetI w (fireE n m t)) := by
  obtain ⟨A, c, rfl, hc, hmm⟩ := hv.form
  obtain ⟨A2, c2, rfl, hc2, hmm2⟩ := hm.form
  have HV := Lib.hid hv
  have HW := Lib.hid hm
  have hval : zbc n = true := by unfold markB at hmk; simp at hmk; exact hmk.1
  have hmk2 : mark2B n m = true := by unfold markB at hmk; simp at hmk; exact hmk.2
  have HVAL := Lib.hid hval
  have HMK := Lib.hid hmk2
  have hpl := za8 hval
  have hlen := mark2B_len hmk2
  obtain ⟨np, hnp⟩ : ∃ k : Nat, n.places = k := ⟨n.places.toNat, by omega⟩
  have hml : m.length = np := by omega
  have hnp1 : 1 ≤ np := by omega
  have hnp40 : np ≤ 40 := by omega
  have HNP := Lib.hid hnp
  have HML := Lib.hid hml
  clear hv hm hmk hval hmk2 hpl hlen hnp hml
  by_cases ht : t < 0 ∨ n.trans.length ≤ t
  · have HT := Lib.hid ht
    refine zax fun R hR => ?_
    have HR := Lib.hid hR
    clear hR
    go_enter Try.func63, Try.ntmps63
    have M : Hid (Mem [Loc.k4 w.heap.size (.int .i64 n.places) (.slice A n.trans.length c) (.int .i64 n.source) (.int .i64 n.sink), Loc.bl w.heap.size w] (w.alloc (.cells #[.int .i64 n.places, .slice A n.trans.length c, .int .i64 n.source, .int .i64 n.sink] 24))) := Lib.hid ⟨K4.new w _ _ _ _ _, ⟨(Below.refl _ _).alloc (Nat.le_refl _) _, by simp⟩, True.intro⟩
    have hk4 := M.out.1
    go_wp2_with fail
    all_goals first
      | exact HR.out _ _ (RetI.nil (by rw [fireE, if_pos HT.out]) M.out.2.1.1)
      | (exfalso; go_light; omega)
  · have HT := Lib.hid ht
    obtain ⟨kt, rfl⟩ : ∃ k : Nat, t = k := ⟨t.toNat, by omega⟩
    have hlt : kt < n.trans.length := by omega
    clear ht
    obtain ⟨b, off, vi, vo, rfl, hbl, hbh, hcell, hri, hro⟩ := RdT.at3 HV.out hlt
    have HTR := Lib.hid (validB_tr HVAL.out (gti_mem hlt))
    obtain ⟨Ai, ci, rfl, hci, hmi⟩ := hri.form
    obtain ⟨Ao, co, rfl, hco, hmo⟩ := hro.form
    have HFE : Hid (fireE n m kt = if enB (gti n.trans kt) m then
        if (incL (gti n.trans kt).out (decL (gti n.trans kt).inn m)).any (fun y => decide (100 < y)) then ([], 5)
        else (incL (gti n.trans kt).out (decL (gti n.trans kt).inn m), 0)
      else ([], 12)) := Lib.hid (by rw [fireE, if_neg HT.out, Int.toNat_natCast])
    generalize gti n.trans kt = x at *
    have HRI := Lib.hid hri
    have HRO := Lib.hid hro
    have hil : x.inn.length ≤ 40 := by have := placesB_len HTR.out.2.1; have := HNP.out; omega
    have hol : x.out.length ≤ 40 := by have := placesB_len HTR.out.2.2; have := HNP.out; omega
    have hx1 : ((kt : Int) < 0) = False := by simp
    have hx2 : ((n.trans.length : Int) ≤ (kt : Int)) = False := by simp; omega
    clear hri hro HT
    refine zax fun R hR => ?_
    have HR := Lib.hid hR
    clear hR
    go_enter Try.func63, Try.ntmps63
    have hcell' : C3 (w.alloc (.cells #[.int .i64 n.places, .slice (some ⟨b, off, none⟩) n.trans.length c, .int .i64 n.source, .int .i64 n.sink] 24)) b (off + kt * 3) (.string x.label) (.slice Ai x.inn.length ci) (.slice Ao x.out.length co) := C3.aft ((Below.refl w.heap.size w).alloc (Nat.le_refl _) _) hcell
    have M : Hid (Mem [Loc.k4 w.heap.size (.int .i64 n.places) (.slice (some ⟨b, off, none⟩) n.trans.length c) (.int .i64 n.source) (.int .i64 n.sink), Loc.bl w.heap.size w, Loc.k3 (w.heap.size + 1) (.string x.label) (.slice Ai x.inn.length ci) (.slice Ao x.out.length co)] ((w.alloc (.cells #[.int .i64 n.places, .slice (some ⟨b, off, none⟩) n.trans.length c, .int .i64 n.source, .int .i64 n.sink] 24)).alloc (.cells #[.string x.label, .slice Ai x.inn.length ci, .slice Ao x.out.length co] 46))) :=
      Lib.hid ⟨K4.aft ((Below.refl _ _).alloc (Nat.le_refl _) _) (K4.new w _ _ _ _ _), ⟨((Below.refl _ _).alloc (Nat.le_refl _) _).alloc (by simp) _, by simp; omega⟩, by have := K3.new (w.alloc (.cells #[.int .i64 n.places, .slice (some ⟨b, off, none⟩) n.trans.length c, .int .i64 n.source, .int .i64 n.sink] 24)) (.string x.label) (.slice Ai x.inn.length ci) (.slice Ao x.out.length co) 46; rw [World.size_alloc] at this; exact this, True.intro⟩
    have hk4 := K4.new w (.int .i64 n.places) (.slice (some ⟨b, off, none⟩) n.trans.length c) (.int .i64 n.source) (.int .i64 n.sink) 24
    have hk3 := M.out.2.2.1
    clear hcell
    go_wp2_with (first
      | (go_at_call 97; refine (enabled_any x _ _ m _ lo hi lo' hi' _ (HRI.out.after M.out.2.1.1) (HW.out.after M.out.2.1.1) (fun p hp => by have := placesB_mem HTR.out.2.1 hp; have := HNP.out; have := HML.out; omega)).mono ?_; rintro e w1 ⟨rfl, hb1⟩; replace M := Lib.hid (M.out.below hb1); clear hb1; replace hk4 := M.out.1; replace hk3 := M.out.2.2.1)
      | (go_at_call 46; refine (clone_any m _ lo' hi' _ (HW.out.after M.out.2.1.1) (by have := HML.out; omega)).mono ?_; rintro e w2 ⟨A1, c1, rfl, ho1, hb1⟩; have HO := Lib.hid ho1; have hsz2 := hb1.size; have hsz1 := M.out.2.2.1.2.2.2; replace M := Lib.hid (M.out.below hb1); clear hb1 ho1; replace hk4 := M.out.1; replace hk3 := M.out.2.2.1))
    · exact HR.out _ _ (RetI.nil (by have hfe := HFE.out; clear HFE; go_light; grind) M.out.2.1.1)
    · obtain ⟨g, cap, hA1, hgl, hgh, hgs⟩ := HO.out.blk (by have := HML.out; omega)
      injection hA1 with e1 _ e3
      subst e1 e3
      go_loopw [37, 11] (fun v37 _ wr => ∃ (k : Nat) (cur : List Int), k ≤ x.inn.length ∧ v37 = .int .i64 k ∧ Hid (decL (x.inn.drop k) cur = decL x.inn m) ∧ Hid (Bnd (100 + k) cur) ∧ Hid (cur.length = m.length) ∧ Hid (Mem [Loc.owI w1.heap.size w2.heap.size (.slice (some ⟨g, 0, none⟩) m.length c1) cur, Loc.k4 w.heap.size (.int .i64 n.places) (.slice (some ⟨b, off, none⟩) n.trans.length c) (.int .i64 n.source) (.int .i64 n.sink), Loc.bl w.heap.size w, Loc.k3 (w.heap.size + 1) (.string x.label) (.slice Ai x.inn.length ci) (.slice Ao x.out.length co), Loc.sz w2.heap.size] wr)) (fun v37 _ _ => x.inn.length - (intOf v37).toNat)
      case atStart => exact ⟨0, m, by omega, rfl, Lib.hid rfl, Lib.hid (fun i => by have := mark2B_at HMK.out i; omega), Lib.hid rfl, Lib.hid ⟨HO.out, M.out.1, M.out.2.1, M.out.2.2.1, Nat.le_refl _, True.intro⟩⟩
      case round =>
        obtain ⟨k, cur, hk, rfl, HI, HBD, HCL, HM⟩ := hrel
        by_cases hltk : k < x.inn.length
        · obtain ⟨bb, oo, rfl, _, _, hce⟩ := RdI.at1 (HRI.out.after HM.out.2.2.1.1) hltk
          have HD := Lib.hid (drop_gti hltk)
          have hpr := placesB_at HTR.out.2.1 hltk
          generalize gti x.inn k = p at *
          obtain ⟨kp, rfl⟩ : ∃ j : Nat, p = j := ⟨p.toNat, by omega⟩
          have hkp : kp < m.length := by have := HNP.out; have := HML.out; omega
          have hkc : kp < cur.length := by rw [HCL.out]; exact hkp
          have hat := OwnI.at1 HM.out.1 hkc
          have hbd := HBD.out kp
          have HO2 := Lib.hid (OwnI.set HM.out.1 kp (gti cur kp - 1))
          clear hpr hkc
          go_wp2_with fail
          refine ⟨⟨k + 1, cur.set kp (gti cur kp - 1), by omega, by go_num, Lib.hid ?_, Lib.hid ?_, Lib.hid (by rw [List.length_set]; exact HCL.out), Lib.hid ⟨HO2.out, HM.out.2.set (by (repeat' (first | exact True.intro | refine And.intro (fun k hk e => ?_) ?_)) <;> (first | exact e | ((try dsimp only [Loc.c1, Loc.c2, Loc.k1, Loc.k2, Loc.k3, Loc.k4, Loc.k6, Loc.fr, Loc.bl, Loc.own, Loc.sz, Loc.rd, Loc.rdI, Loc.rdS, Loc.rdM, Loc.rdT, Loc.ow, Loc.owI] at hk e) <;> omega)))⟩⟩, by simp [intOf]; omega⟩
          · have h := HI.out
            rw [HD.out, decL, Int.toNat_natCast] at h
            exact h
          · have := HBD.out.dec kp
            rw [show (100 + ((k + 1 : Nat) : Int)) = 100 + (k : Int) + 1 by omega]
            exact this
        · obtain rfl : k = x.inn.length := by omega
          have HE : Hid (cur = decL x.inn m) := Lib.hid (by have h := HI.out; simpa [decL] using h)
          have HE0 := HE
          have hk3' := HM.out.2.2.2.1
          clear HI hk3 hk4
          go_wp2_with fail
          clear HE
          go_loopw [51, 13] (fun v51 _ wr => ∃ (k : Nat) (cur : List Int), k ≤ x.out.length ∧ v51 = .int .i64 k ∧ Hid (incL (x.out.drop k) cur = incL x.out (decL x.inn m)) ∧ Hid (Bnd ((100 + x.inn.length) + k) cur) ∧ Hid (cur.length = m.length) ∧ Hid (Mem [Loc.owI w1.heap.size w2.heap.size (.slice (some ⟨g, 0, none⟩) m.length c1) cur, Loc.k4 w.heap.size (.int .i64 n.places) (.slice (some ⟨b, off, none⟩) n.trans.length c) (.int .i64 n.source) (.int .i64 n.sink), Loc.bl w.heap.size w, Loc.k3 (w.heap.size + 1) (.string x.label) (.slice Ai x.inn.length ci) (.slice Ao x.out.length co), Loc.sz w2.heap.size] wr)) (fun v51 _ _ => x.out.length - (intOf v51).toNat)
          case atStart => exact ⟨0, cur, by omega, rfl, Lib.hid (by rw [HE0.out]; rfl), Lib.hid (by simpa using HBD.out), HCL, HM⟩
          case round =>
            clear HE0 HBD HCL HM
            obtain ⟨k, cur, hk, rfl, HI, HBD, HCL, HM⟩ := hrel
            by_cases hltk : k < x.out.length
            · obtain ⟨bb, oo, rfl, _, _, hce⟩ := RdI.at1 (HRO.out.after HM.out.2.2.1.1) hltk
              have HD := Lib.hid (drop_gti hltk)
              have hpr := placesB_at HTR.out.2.2 hltk
              generalize gti x.out k = p at *
              obtain ⟨kp, rfl⟩ : ∃ j : Nat, p = j := ⟨p.toNat, by omega⟩
              have hkp : kp < m.length := by have := HNP.out; have := HML.out; omega
              have hkc : kp < cur.length := by rw [HCL.out]; exact hkp
              have hat := OwnI.at1 HM.out.1 hkc
              have hbd := HBD.out kp
              have HO2 := Lib.hid (OwnI.set HM.out.1 kp (gti cur kp + 1))
              clear hpr hkc
              go_wp2_with fail
              refine ⟨⟨k + 1, cur.set kp (gti cur kp + 1), by omega, by go_num, Lib.hid ?_, Lib.hid ?_, Lib.hid (by rw [List.length_set]; exact HCL.out), Lib.hid ⟨HO2.out, HM.out.2.set (by (repeat' (first | exact True.intro | refine And.intro (fun k hk e => ?_) ?_)) <;> (first | exact e | ((try dsimp only [Loc.c1, Loc.c2, Loc.k1, Loc.k2, Loc.k3, Loc.k4, Loc.k6, Loc.fr, Loc.bl, Loc.own, Loc.sz, Loc.rd, Loc.rdI, Loc.rdS, Loc.rdM, Loc.rdT, Loc.ow, Loc.owI] at hk e) <;> omega)))⟩⟩, by simp [intOf]; omega⟩
              · have h := HI.out
                rw [HD.out, incL, Int.toNat_natCast] at h
                exact h
              · have := HBD.out.inc kp
                rw [show ((100 + x.inn.length) + ((k + 1 : Nat) : Int)) = (100 + x.inn.length) + (k : Int) + 1 by omega]
                exact this
            · obtain rfl : k = x.out.length := by omega
              have HE : Hid (cur = incL x.out (decL x.inn m)) := Lib.hid (by have h := HI.out; simpa [incL] using h)
              clear HI
              have hcp : 0 < cur.length := by rw [HCL.out, HML.out]; omega
              have HMG := Lib.hid (maxL_gt 100 hcp)
              have M := HM
              clear HM
              go_wp2_with (go_at_call 98; refine (maxL_any cur _ w1.heap.size w2.heap.size _ M.out.1.rd hcp).mono ?_; rintro e w1 ⟨rfl, hb1⟩; replace M := Lib.hid (M.out.below hb1); clear hb1; skip)
              all_goals (have hfe := HFE.out; have he := HE.out; have hmg := HMG.out; rw [← he, ← hmg] at hfe)
              · exact HR.out _ _ (RetI.nil (by clear HFE HE HMG he hmg; go_light; grind) M.out.2.2.1.1)
              · exact HR.out _ _ (RetI.mk (l := cur) (by clear HFE HE HMG he hmg; go_light; grind) HCL.out.symm M.out.1.rd (by omega) M.out.2.2.2.2.1 M.out.2.2.1.1)
end Go.Proofs.Ytmhbfoaecebobaa
end
section
namespace Go.Proofs.Ytmhbfoaecebobaa
set_option linter.unusedSimpArgs false
set_option linter.unusedVariables false
open Go.RowKit
theorem placesB_lt {n : Int} {l : List Int} (h : placesB n l = true) : ∀ (j i : Nat), i < j → j < l.length → gti l i < gti l j
  | 0, i, hij, _ => by omega
  | j + 1, i, hij, hj => by
    have hb : ¬ badP n l (j + 1) := fun hb => by rw [placesB_false hj hb] at h; cases h
    unfold badP at hb
    simp only [Nat.add_sub_cancel] at hb
    by_cases hji : i = j
    · subst hji; omega
    · have := placesB_lt h j i (by omega) (by omega)
      omega
theorem placesB_tail {n : Int} {p : Int} {ps : List Int} (h : placesB n (p :: ps) = true) : placesB n ps = true := by
  apply placesB_true
  intro k hk
  have hb : ¬ badP n (p :: ps) (k + 1) := fun hb => by rw [placesB_false (by simp; omega) hb] at h; cases h
  unfold badP at hb ⊢
  have e1 : gti (p :: ps) (k + 1) = gti ps k := by simp [gti]
  rw [e1] at hb
  rcases Nat.eq_zero_or_pos k with rfl | hk0
  · omega
  · obtain ⟨j, rfl⟩ : ∃ j, k = j + 1 := ⟨k - 1, by omega⟩
    have e2 : gti (p :: ps) (j + 1) = gti ps j := by simp [gti]
    simp only [Nat.add_sub_cancel] at hb ⊢
    rw [e2] at hb
    omega
theorem placesB_head {n : Int} {p : Int} {ps : List Int} (h : placesB n (p :: ps) = true) : 0 ≤ p ∧ p < n ∧ ∀ q ∈ ps, q.toNat ≠ p.toNat := by
  have h0 := placesB_at h (k := 0) (by simp)
  have e : gti (p :: ps) 0 = p := by simp [gti]
  rw [e] at h0
  refine ⟨h0.1, h0.2.1, fun q hq => ?_⟩
  obtain ⟨k, hk, rfl⟩ := mem_gti hq
  have := placesB_lt h (k + 1) 0 (by omega) (by simp; omega)
  have e1 : gti (p :: ps) (k + 1) = gti ps k := by simp [gti]
  rw [e, e1] at this
  omega
theorem decL_nonneg {n : Int} : ∀ {ps m : List Int}, placesB n ps = true → (∀ i, 0 ≤ gti m i) → (∀ p ∈ ps, 1 ≤ gti m p.toNat) → ∀ i, 0 ≤ gti (decL ps m) i
  | [], m, _, h, _, i => h i
  | p :: ps, m, hp, h, h1, i => by
    obtain ⟨hp0, hp1, hpn⟩ := placesB_head hp
    refine decL_nonneg (placesB_tail hp) (fun j => ?_) (fun q hq => ?_) i
    · rw [gti_set]
      have := h j
      have := h1 p (List.mem_cons_self ..)
      split <;> omega
    · rw [gti_set, if_neg (fun e => hpn q hq e.1.symm)]
      exact h1 q (List.mem_cons_of_mem _ hq)
theorem incL_nonneg : ∀ {ps m : List Int}, (∀ i, 0 ≤ gti m i) → ∀ i, 0 ≤ gti (incL ps m) i
  | [], m, h, i => h i
  | p :: ps, m, h, i => by
    rw [incL]
    refine incL_nonneg (fun j => ?_) i
    rw [gti_set]
    have := h j
    have := h p.toNat
    split <;> omega
theorem enB_at {t : Tr} {m : List Int} (h : enB t m = true) {p : Int} (hp : p ∈ t.inn) : gti m p.toNat ≠ 0 := by
  unfold enB at h
  simp only [Bool.not_eq_true', List.any_eq_false, decide_eq_true_eq] at h
  exact h p hp
theorem all01_iff : ∀ {m : List Int}, (∀ i, 0 ≤ gti m i) → all01 m = !m.any fun y => decide (100 < y)
  | [], _ => rfl
  | x :: m, h => by
    have h0 : 0 ≤ x := by have := h 0; simpa [gti] using this
    have := all01_iff (m := m) (fun i => by have := h (i + 1); simpa [gti] using this)
    simp only [all01, List.any_cons]
    rw [this]
    grind
theorem fire_mark {n : Net} {m : List Int} {t : Tr} (hm : mark2B n m = true) (ht : placesB n.places t.inn = true) (he : enB t m = true) :
    mark2B n (incL t.out (decL t.inn m)) = !(incL t.out (decL t.inn m)).any fun y => decide (100 < y) := by
  have hnn : ∀ i, 0 ≤ gti (incL t.out (decL t.inn m)) i := incL_nonneg (decL_nonneg ht (fun i => (mark2B_at hm i).1) (fun p hp => by
    have := enB_at he hp
    have := (mark2B_at hm p.toNat).1
    omega))
  unfold mark2B
  rw [if_neg (by rw [incL_len, decL_len]; have := mark2B_len hm; omega), all01_iff hnn]
theorem fireE_mark {n : Net} {m : List Int} {t : Int} (hm : markB n m = true) (h : (fireE n m t).2 = 0) : markB n (fireE n m t).1 = true := by
  unfold markB at hm ⊢
  simp only [Bool.and_eq_true] at hm ⊢
  refine ⟨hm.1, ?_⟩
  unfold fireE at h ⊢
  split
  · rename_i h1; rw [if_pos h1] at h; simp at h
  · rename_i h1
    rw [if_neg h1] at h
    split
    · rename_i h2
      rw [if_pos h2] at h
      split
      · rename_i h3; rw [if_pos h3] at h; simp at h
      · rename_i h3
        have htr := validB_tr hm.1 (gti_mem (l := n.trans) (k := t.toNat) (by omega))
        rw [fire_mark hm.2 htr.2.1 h2]
        simpa using h3
    · rename_i h2; rw [if_neg h2] at h; simp at h
def FireE (n : Net) (m : List Int) (t : Int) : List Int × Int := if markB n m then fireE n m t else ([], 1)
set_option maxHeartbeats 1000000 in
theorem Fire_any (n : Net) (m : List Int) (t : Int) (vt v : Value) (lo hi lo' hi' : Nat) (w : World) (hv : RdT w lo hi vt n.trans) (hm : RdI w lo' hi' v m) :
    Calls Try.prog 45 #[netV n vt, v, .int .i64 t] w (RetI w (FireE n m t)) := by
  obtain ⟨A, c, rfl, hc, hmm⟩ := hv.form
  obtain ⟨A2, c2, rfl, hc2, hmm2⟩ := hm.form
  have HV := Lib.hid hv
  have HW := Lib.hid hm
  clear hv hm
  cases hvb : markB n m <;> have HVB := Lib.hid hvb <;> clear hvb
  all_goals
    refine zax fun R hR => ?_
    have HR := Lib.hid hR
    clear hR
    go_enter Try.func45, Try.ntmps45
    have M : Hid (Mem [Loc.k4 w.heap.size (.int .i64 n.places) (.slice A n.trans.length c) (.int .i64 n.source) (.int .i64 n.sink), Loc.bl w.heap.size w] (w.alloc (.cells #[.int .i64 n.places, .slice A n.trans.length c, .int .i64 n.source, .int .i64 n.sink] 24))) := Lib.hid ⟨K4.new w _ _ _ _ _, ⟨(Below.refl _ _).alloc (Nat.le_refl _) _, by simp⟩, True.intro⟩
    have hk4 := M.out.1
    go_wp2_with (first
      | (go_at_call 62; refine (marking_is HVB.out _ _ lo hi lo' hi' _ (HV.out.after M.out.2.1.1) (HW.out.after M.out.2.1.1)).mono ?_; rintro e w1 ⟨rfl, hb1⟩; replace M := Lib.hid (M.out.below hb1); clear hb1; replace hk4 := M.out.1)
      | (go_at_call 63; refine (fire_any n m t _ _ lo hi lo' hi' _ (HV.out.after M.out.2.1.1) (HW.out.after M.out.2.1.1) HVB.out).mono ?_; rintro e w2 ⟨A1, c1, rfl, hr1, hb1⟩; have HR1 := Lib.hid hr1; have hws := M.out.2.1.2; replace M := Lib.hid (M.out.below hb1); clear hb1 hr1))
  · exact HR.out _ _ (RetI.nil (by rw [FireE, HVB.out]; rfl) M.out.2.1.1)
  · exact HR.out _ _ (RetI.mk (by rw [FireE, HVB.out]; rfl) rfl HR1.out hws (Nat.le_refl _) M.out.2.1.1)
end Go.Proofs.Ytmhbfoaecebobaa
end
section
namespace Go.Proofs.Ytmhbfoaecebobaa
set_option linter.unusedSimpArgs false
set_option linter.unusedVariables false
open Go.RowKit
def insB (back : Bool) (t : Tr) : List Int := if back then t.out else t.inn
def outsB (back : Bool) (t : Tr) : List Int := if back then t.inn else t.out
inductive Rch (n : Net) (back : Bool) (s : Int) : Int → Prop
  | start : Rch n back s s
  | step {i : Nat} {p q : Int} : i < n.trans.length → p ∈ insB back (gti n.trans i) → Rch n back s p → q ∈ outsB back (gti n.trans i) → Rch n back s q
def RchT (n : Net) (back : Bool) (s : Int) (i : Nat) : Prop := ∃ p ∈ insB back (gti n.trans i), Rch n back s p
def endOf (n : Net) (back : Bool) : Int := if back then n.sink else n.source
structure Wf (n : Net) : Prop where
  valid : zbc n = true
  ne : n.source ≠ n.sink
  no : ∀ i, i < n.trans.length → n.source ∉ (gti n.trans i).out ∧ n.sink ∉ (gti n.trans i).inn
  places : ∀ back, ∀ p : Nat, p < n.places.toNat → Rch n back (endOf n back) p
  trans : ∀ back, ∀ i, i < n.trans.length → RchT n back (endOf n back) i
open Classical in
noncomputable def wfB (n : Net) : Bool := decide (Wf n)
open Classical in
theorem wfB_true {n : Net} (h : Wf n) : wfB n = true := by unfold wfB; exact decide_eq_true h
open Classical in
theorem wfB_false {n : Net} (h : ¬ Wf n) : wfB n = false := by unfold wfB; exact decide_eq_false h
open Classical in
theorem wfB_wf {n : Net} (h : wfB n = true) : Wf n := by unfold wfB at h; exact of_decide_eq_true h
theorem placesB_memW {n : Int} {l : List Int} (h : placesB n l = true) {p : Int} (hp : p ∈ l) : 0 ≤ p ∧ p < n := by
  unfold placesB at h
  simp only [List.all_eq_true, List.mem_range] at h
  obtain ⟨k, hk, rfl⟩ := List.getElem_of_mem hp
  have h2 := h k hk
  have this : ¬ badP n l k := by simpa using h2
  unfold badP at this
  have e : gti l k = l[k] := by unfold gti; rw [List.getElem?_eq_getElem hk]; rfl
  rw [e] at this
  omega
theorem validL_at {n : Net} : ∀ {l : List Tr} {i : Nat}, validL n l = true → i < l.length → trB n.places (gti l i) = true
  | [], i, _, h => by simp at h
  | t :: ts, i, hv, h => by
    rw [validL] at hv
    cases i with
    | zero => simp only [gti, List.getElem?_cons_zero, Option.getD_some]; revert hv; split <;> simp_all
    | succ i =>
      have h2 : validL n ts = true := by revert hv; split <;> simp_all
      have := validL_at h2 (i := i) (by simpa using h)
      simpa [gti] using this
def setB (pl : List Bool) : List Int → List Bool
  | [] => pl
  | q :: l => setB (pl.set q.toNat true) l
theorem setB_len : ∀ (l : List Int) (pl : List Bool), (setB pl l).length = pl.length
  | [], pl => rfl
  | q :: l, pl => by rw [setB, setB_len l]; simp
theorem gti_setB (pl : List Bool) (i j : Nat) (x : Bool) : gti (pl.set i x) j = if i = j ∧ j < pl.length then x else gti pl j := by
  unfold gti
  rw [List.getElem?_set]
  by_cases h : i = j
  · subst h
    by_cases h2 : i < pl.length
    · simp [h2]
    · simp [h2, List.getElem?_eq_none (Nat.le_of_not_lt h2)]
  · simp [h]
theorem gti_setB_all : ∀ (l : List Int) (pl : List Bool) (j : Nat), j < pl.length → (gti (setB pl l) j = true ↔ gti pl j = true ∨ ∃ q ∈ l, q.toNat = j)
  | [], pl, j, _ => by simp [setB]
  | q :: l, pl, j, h => by
    rw [setB, gti_setB_all l _ j (by simpa using h), gti_setB]
    by_cases hq : q.toNat = j
    · simp [hq, h]
    · simp [hq]
structure RI (n : Net) (back : Bool) (s : Int) (pl tl : List Bool) : Prop where
  lenp : pl.length = n.places.toNat
  lent : tl.length = n.trans.length
  start : gti pl s.toNat = true
  sp : ∀ p : Nat, p < pl.length → gti pl p = true → Rch n back s p
  st : ∀ i, i < tl.length → gti tl i = true → RchT n back s i ∧ ∀ q ∈ outsB back (gti n.trans i), gti pl q.toNat = true
def Plc (n : Net) : Prop := ∀ i, i < n.trans.length → ∀ back, ∀ q ∈ insB back (gti n.trans i), 0 ≤ q ∧ q < n.places
theorem Plc.out {n : Net} (h : Plc n) {i : Nat} (hi : i < n.trans.length) (back : Bool) : ∀ q ∈ outsB back (gti n.trans i), 0 ≤ q ∧ q < n.places := by
  intro q hq
  refine h i hi (!back) q ?_
  cases back <;> exact hq
theorem Plc.of {n : Net} (h : zbc n = true) : Plc n := by
  unfold zbc at h
  split at h
  · cases h
  · intro i hi back q hq
    have := validL_at h hi
    unfold trB at this
    simp only [Bool.and_eq_true] at this
    cases back
    · exact placesB_memW this.1.2 hq
    · exact placesB_memW this.2 hq
theorem RI.init {n : Net} {back : Bool} {s : Int} (h0 : 0 ≤ s) (h1 : s < n.places) : RI n back s ((List.replicate n.places.toNat false).set s.toNat true) (List.replicate n.trans.length false) := by
  refine ⟨by simp, by simp, ?_, ?_, ?_⟩
  · rw [gti_setB, if_pos ⟨rfl, by simp; omega⟩]
  · intro p hp hg
    rw [gti_setB] at hg
    split at hg
    · rename_i h
      have : (p : Int) = s := by omega
      rw [this]
      exact .start
    · unfold gti at hg
      rw [List.getElem?_replicate] at hg
      split at hg <;> simp at hg
  · intro i hi hg
    unfold gti at hg
    rw [List.getElem?_replicate] at hg
    split at hg <;> simp at hg
theorem RI.add {n : Net} {back : Bool} {s : Int} {pl tl : List Bool} (h : RI n back s pl tl) (hp : Plc n) {i : Nat} (hi : i < n.trans.length) {p : Int} (hin : p ∈ insB back (gti n.trans i)) (hg : gti pl p.toNat = true) :
    RI n back s (setB pl (outsB back (gti n.trans i))) (tl.set i true) := by
  have hpb := hp i hi back p hin
  have hrp : Rch n back s p := by
    have := h.sp p.toNat (by rw [h.lenp]; omega) hg
    rwa [Int.toNat_of_nonneg hpb.1] at this
  have mono : ∀ j, gti pl j = true → gti (setB pl (outsB back (gti n.trans i))) j = true := by
    intro j hj
    by_cases hl : j < pl.length
    · rw [gti_setB_all _ _ _ hl]; exact .inl hj
    · unfold gti at hj
      rw [List.getElem?_eq_none (by omega)] at hj
      cases hj
  refine ⟨by rw [setB_len]; exact h.lenp, by simpa using h.lent, mono _ h.start, ?_, ?_⟩
  · intro j hj hgj
    rw [setB_len] at hj
    rw [gti_setB_all _ _ _ hj] at hgj
    rcases hgj with hgj | ⟨q, hq, rfl⟩
    · exact h.sp j hj hgj
    · rw [Int.toNat_of_nonneg (hp.out hi back q hq).1]
      exact .step hi hin hrp hq
  · intro j hj hgj
    rw [gti_setB] at hgj
    split at hgj
    · rename_i he
      obtain rfl := he.1
      refine ⟨⟨p, hin, hrp⟩, fun q hq => ?_⟩
      rw [gti_setB_all _ _ _ (by have := hp.out hi back q hq; rw [h.lenp]; omega)]
      exact .inr ⟨q, hq, rfl⟩
    · obtain ⟨h1, h2⟩ := h.st j (by simpa using hj) hgj
      exact ⟨h1, fun q hq => mono _ (h2 q hq)⟩
structure RF (n : Net) (back : Bool) (s : Int) (pl tl : List Bool) : Prop where
  lenp : pl.length = n.places.toNat
  lent : tl.length = n.trans.length
  p : ∀ p : Nat, p < n.places.toNat → (gti pl p = true ↔ Rch n back s p)
  t : ∀ i, i < n.trans.length → (gti tl i = true ↔ RchT n back s i)
theorem RI.done {n : Net} {back : Bool} {s : Int} {pl tl : List Bool} (h : RI n back s pl tl) (hp : Plc n) (h0 : 0 ≤ s) (h1 : s < n.places) (hc : ∀ i, i < n.trans.length → gti tl i = false → ∀ p ∈ insB back (gti n.trans i), gti pl p.toNat = false) : RF n back s pl tl := by
  have key : ∀ p, Rch n back s p → 0 ≤ p ∧ gti pl p.toNat = true := by
    intro p hr
    induction hr with
    | start => exact ⟨h0, h.start⟩
    | @step i p q hi hin _ hq ih =>
      refine ⟨(hp.out hi back q hq).1, ?_⟩
      have ht : gti tl i = true := by
        cases hz : gti tl i with
        | true => rfl
        | false => have := hc i hi hz p hin; rw [ih.2] at this; cases this
      exact (h.st i (by rw [h.lent]; exact hi) ht).2 q hq
  refine ⟨h.lenp, h.lent, fun p hpl => ⟨fun hg => h.sp p (by rw [h.lenp]; exact hpl) hg, fun hr => by simpa using (key p hr).2⟩, fun i hi => ⟨fun hg => (h.st i (by rw [h.lent]; exact hi) hg).1, fun ⟨p, hin, hr⟩ => ?_⟩⟩
  cases hz : gti tl i with
  | true => rfl
  | false => have := hc i hi hz p hin; rw [(key p hr).2] at this; cases this
def cntF (l : List Bool) : Nat := (l.filter fun x => !x).length
theorem cntF_set : ∀ {l : List Bool} {i : Nat}, i < l.length → gti l i = false → cntF (l.set i true) + 1 = cntF l
  | [], i, h, _ => by simp at h
  | x :: l, i, h, hg => by
    cases i with
    | zero =>
      simp only [gti, List.getElem?_cons_zero, Option.getD_some] at hg
      subst hg
      simp [cntF]
    | succ i =>
      have h1 : i < l.length := by simpa using h
      have h2 : gti l i = false := by simpa [gti] using hg
      have := cntF_set h1 h2
      cases x <;> simp_all [cntF]
theorem any_false {l : List Bool} (h : false ∉ l) {i : Nat} (hi : i < l.length) : gti l i = true := by
  unfold gti
  rw [List.getElem?_eq_getElem hi]
  cases hz : l[i] with
  | true => rfl
  | false => exact absurd (hz ▸ List.getElem_mem hi) h
theorem any_true {l : List Bool} (h : ∀ i, i < l.length → gti l i = true) : false ∉ l := by
  intro hm
  obtain ⟨i, hi, he⟩ := List.getElem_of_mem hm
  have := h i hi
  unfold gti at this
  rw [List.getElem?_eq_getElem hi] at this
  rw [he] at this
  cases this
end Go.Proofs.Ytmhbfoaecebobaa
end
section
namespace Go.Proofs.Ytmhbfoaecebobaa
set_option linter.unusedSimpArgs false
set_option linter.unusedVariables false
open Go.RowKit
abbrev encO (x : Bool) : List Value := [.bool x]
abbrev RdO := Rd 1 encO
abbrev OwnO := Own 4 1 encO
abbrev Loc.owO (lo hi : Nat) (v : Value) (l : List Bool) : Loc := Loc.ow 4 1 encO lo hi v l
theorem ti_bool : TI 109 4 1 1 (.bool false) := TI.mk Try.underlying109 (by kernel_rfl) rfl (by decide)
theorem RdO.at1 {w : World} {lo hi : Nat} {A : Option Addr} {c : Nat} {l : List Bool} (h : RdO w lo hi (.slice A l.length c) l) {k : Nat} (hk : k < l.length) :
    ∃ b off, A = some ⟨b, off, none⟩ ∧ lo ≤ b ∧ b < hi ∧ C1 w b (off + k) (.bool (gti l k)) := by
  obtain ⟨b, off, hA, h1, h2, hc⟩ := Rd.at_ h (fun _ => rfl) (gti_get hk)
  exact ⟨b, off, hA, h1, h2, by have := hc 0 _ rfl; rw [Nat.mul_one] at this; exact this⟩
theorem OwnO.at1 {w : World} {lo hi g n cap : Nat} {l : List Bool} (h : OwnO w lo hi (.slice (some ⟨g, 0, none⟩) n cap) l) {k : Nat} (hk : k < l.length) :
    w.cell? ⟨g, k, none⟩ = some (.bool (gti l k)) ∧ w.frozen? ⟨g, k, none⟩ = false := by
  have := Own.cell h (fun _ => rfl) (gti_get hk) (j := 0) (u := .bool (gti l k)) rfl
  simpa using this
theorem OwnO.set {w : World} {lo hi g n cap : Nat} {l : List Bool} (h : OwnO w lo hi (.slice (some ⟨g, 0, none⟩) n cap) l) (k : Nat) (x : Bool) :
    OwnO (w.setCell ⟨g, k, none⟩ (.bool x)) lo hi (.slice (some ⟨g, 0, none⟩) n cap) (l.set k x) := Own.set1 h (fun _ => rfl) rfl
theorem mk_bool {x : Int} {k : Nat} (h : x = k) (hk : k ≤ 1000000) : ∀ w : World, (Instr.makeSlice 109 (.int .i64 x) (.int .i64 x)).run Try.prog w = .ok (.slice (some ⟨w.heap.size, 0, none⟩) k k) (w.alloc (.cells (madeCells #[.bool false] k) 4)) := by
  intro w
  subst h
  have := run_mk ti_bool w k (by omega) (by omega)
  rw [Nat.mul_one] at this
  exact this
theorem OwnO.made (W : World) (n : Nat) (hn : n ≤ 1000000) : OwnO (W.alloc (.cells (madeCells #[.bool false] n) 4)) W.heap.size (W.heap.size + 1) (.slice (some ⟨W.heap.size, 0, none⟩) n n) (List.replicate n false) := by
  have := Own.made (enc := encO) ti_bool W W.heap.size n false rfl (Nat.le_refl _) (by omega) (fun _ => rfl)
  rw [Nat.mul_one] at this
  exact this
def idxG {α : Type} [DecidableEq α] (x : α) : Nat → List α → Int
  | _, [] => -1
  | k, a :: l => if x = a then (k : Int) else idxG x (k + 1) l
theorem idxG_ge {α : Type} [DecidableEq α] (x : α) : ∀ (l : List α) (k : Nat), decide (0 ≤ idxG x k l) = decide (x ∈ l)
  | [], k => by simp [idxG]
  | a :: l, k => by
    have ih := idxG_ge x l (k + 1)
    rw [idxG]
    by_cases h : x = a
    · rw [if_pos h]
      simp [h]
    · rw [if_neg h, ih]
      simp [h]
theorem dropG {α : Type} [Inhabited α] {l : List α} {k : Nat} (h : k < l.length) : l.drop k = gti l k :: l.drop (k + 1) := by
  rw [List.drop_eq_getElem_cons h]
  congr 1
  unfold gti
  rw [List.getElem?_eq_getElem h]
  rfl
set_option maxHeartbeats 1000000 in
theorem indexI_any (x : Int) (l : List Int) (lo hi : Nat) (v : Value) (w : World) (hv : RdI w lo hi v l) :
    Calls Try.prog 99 #[v, .int .i64 x] w fun e w' => e = .returned (.int .i64 (idxG x 0 l)) ∧ Below w.heap.size w w' := by
  obtain ⟨A, c, rfl, hc, hm⟩ := hv.form
  have HV := Lib.hid hv
  clear hv
  refine zax fun R hR => ?_
  have HR := Lib.hid hR
  clear hR
  go_enter Try.func99, Try.ntmps99
  go_wp2_with fail
  go_loopw [8, 5] (fun v8 _ wr => ∃ (k q : Nat), k ≤ l.length ∧ v8 = .int .i64 k ∧ wr = w.drewN q ∧ Hid (idxG x 0 l = idxG x k (l.drop k))) (fun v8 _ _ => l.length - (intOf v8).toNat)
  case atStart => exact ⟨0, 0, by omega, rfl, rfl, Lib.hid rfl⟩
  case round =>
    obtain ⟨k, q, hk, rfl, rfl, HI⟩ := hrel
    by_cases hlt : k < l.length
    · have hkd : decide ((k : Int) < (l.length : Int)) = true := by simp; omega
      have hkb : (k : Int) < (l.length : Int) := by omega
      obtain ⟨b1, o1, rfl, _, _, f1⟩ := RdI.at1 HV.out hlt
      have HJ : Hid (idxG x 0 l = if x = gti l k then (k : Int) else idxG x (k + 1) (l.drop (k + 1))) := Lib.hid (by rw [HI.out, dropG hlt, idxG])
      generalize gti l k = y at *
      go_wp2
      all_goals have hj := HJ.out
      · refine HR.out _ _ ⟨ret_int ?_, below_drewN (Below.refl _ _) _⟩
        clear HJ HI; go_light; grind
      · refine ⟨⟨k + 1, q, by omega, by go_num, by first | rfl | (rw [World.drewN_drewN]), Lib.hid (by clear HJ HI; go_light; grind)⟩, by simp [intOf]; omega⟩
    · have hkd : decide ((k : Int) < (l.length : Int)) = false := by simp; omega
      have HE : Hid (idxG x 0 l = -1) := Lib.hid (by rw [HI.out, List.drop_eq_nil_of_le (by omega)]; rfl)
      clear HI
      go_wp2
      exact HR.out _ _ ⟨ret_int HE.out.symm, below_drewN (Below.refl _ _) _⟩
set_option maxHeartbeats 400000 in
theorem containsI_any (x : Int) (l : List Int) (lo hi : Nat) (v : Value) (w : World) (hv : RdI w lo hi v l) :
    Calls Try.prog 66 #[v, .int .i64 x] w fun e w' => e = .returned (.bool (decide (x ∈ l))) ∧ Below w.heap.size w w' := by
  have HI := Lib.hid (idxG_ge x l 0)
  have HV := Lib.hid hv
  clear hv
  have M : Hid (Mem [Loc.bl w.heap.size w] w) := Lib.hid ⟨⟨Below.refl _ _, Nat.le_refl _⟩, True.intro⟩
  refine zax fun R hR => ?_
  have HR := Lib.hid hR
  clear hR
  go_enter Try.func66, Try.ntmps66
  go_wp2_with (go_at_call 99; refine (indexI_any x l lo hi _ _ (HV.out.after M.out.1.1)).mono ?_; rintro e w1 ⟨rfl, hb1⟩; replace M := Lib.hid (M.out.below hb1); clear hb1; skip)
  exact HR.out _ _ ⟨ret_bool HI.out, M.out.1.1⟩
set_option maxHeartbeats 1000000 in
theorem indexO_any (x : Bool) (l : List Bool) (lo hi : Nat) (v : Value) (w : World) (hv : RdO w lo hi v l) :
    Calls Try.prog 101 #[v, .bool x] w fun e w' => e = .returned (.int .i64 (idxG x 0 l)) ∧ Below w.heap.size w w' := by
  obtain ⟨A, c, rfl, hc, hm⟩ := hv.form
  have HV := Lib.hid hv
  clear hv
  refine zax fun R hR => ?_
  have HR := Lib.hid hR
  clear hR
  go_enter Try.func101, Try.ntmps101
  go_wp2_with fail
  go_loopw [8, 5] (fun v8 _ wr => ∃ (k q : Nat), k ≤ l.length ∧ v8 = .int .i64 k ∧ wr = w.drewN q ∧ Hid (idxG x 0 l = idxG x k (l.drop k))) (fun v8 _ _ => l.length - (intOf v8).toNat)
  case atStart => exact ⟨0, 0, by omega, rfl, rfl, Lib.hid rfl⟩
  case round =>
    obtain ⟨k, q, hk, rfl, rfl, HI⟩ := hrel
    by_cases hlt : k < l.length
    · have hkd : decide ((k : Int) < (l.length : Int)) = true := by simp; omega
      have hkb : (k : Int) < (l.length : Int) := by omega
      obtain ⟨b1, o1, rfl, _, _, f1⟩ := RdO.at1 HV.out hlt
      have HJ : Hid (idxG x 0 l = if x = gti l k then (k : Int) else idxG x (k + 1) (l.drop (k + 1))) := Lib.hid (by rw [HI.out, dropG hlt, idxG])
      generalize gti l k = y at *
      go_wp2
      all_goals have hj := HJ.out
      · refine HR.out _ _ ⟨ret_int ?_, below_drewN (Below.refl _ _) _⟩
        clear HJ HI; go_light; grind
      · refine ⟨⟨k + 1, q, by omega, by go_num, by first | rfl | (rw [World.drewN_drewN]), Lib.hid (by clear HJ HI; go_light; grind)⟩, by simp [intOf]; omega⟩
    · have hkd : decide ((k : Int) < (l.length : Int)) = false := by simp; omega
      have HE : Hid (idxG x 0 l = -1) := Lib.hid (by rw [HI.out, List.drop_eq_nil_of_le (by omega)]; rfl)
      clear HI
      go_wp2
      exact HR.out _ _ ⟨ret_int HE.out.symm, below_drewN (Below.refl _ _) _⟩
set_option maxHeartbeats 400000 in
theorem containsO_any (x : Bool) (l : List Bool) (lo hi : Nat) (v : Value) (w : World) (hv : RdO w lo hi v l) :
    Calls Try.prog 68 #[v, .bool x] w fun e w' => e = .returned (.bool (decide (x ∈ l))) ∧ Below w.heap.size w w' := by
  have HI := Lib.hid (idxG_ge x l 0)
  have HV := Lib.hid hv
  clear hv
  have M : Hid (Mem [Loc.bl w.heap.size w] w) := Lib.hid ⟨⟨Below.refl _ _, Nat.le_refl _⟩, True.intro⟩
  refine zax fun R hR => ?_
  have HR := Lib.hid hR
  clear hR
  go_enter Try.func68, Try.ntmps68
  go_wp2_with (go_at_call 101; refine (indexO_any x l lo hi _ _ (HV.out.after M.out.1.1)).mono ?_; rintro e w1 ⟨rfl, hb1⟩; replace M := Lib.hid (M.out.below hb1); clear hb1; skip)
  exact HR.out _ _ ⟨ret_bool HI.out, M.out.1.1⟩
end Go.Proofs.Ytmhbfoaecebobaa
end
section
namespace Go.Proofs.Ytmhbfoaecebobaa
set_option linter.unusedSimpArgs false
set_option linter.unusedVariables false
open Go.RowKit
section
variable {P : Program} {C : World → Prop} {Q : Exit → Act → World → Prop} {a : Act} {o : Oper}
end
end Go.Proofs.Ytmhbfoaecebobaa
end
section
namespace Go.Proofs.Ytmhbfoaecebobaa
set_option linter.unusedSimpArgs false
set_option linter.unusedVariables false
open Go.RowKit
theorem cell_aft {w W : World} {b o : Nat} {x : Value} (hb : Below w.heap.size w W) (h : w.cell? ⟨b, o, none⟩ = some x) : W.cell? ⟨b, o, none⟩ = some x := (World.cell?_of_block (hb.block b (World.block_lt_of_cell? _ _ h))).trans h
theorem C3.aft3 {w W : World} {b o : Nat} {x y z : Value} (hb : Below w.heap.size w W) (h : C3 w b o x y z) : C3 W b o x y z := ⟨cell_aft hb h.1, cell_aft hb h.2.1, cell_aft hb h.2.2⟩
theorem ent_reached1 : Ent 100 := ent_of Try.func100 (by kernel_rfl) rfl
set_option maxHeartbeats 400000 in
theorem reached1_any (pl : List Bool) (p : Int) (gc gp lo hi n cap : Nat) (w : World) (hc : C1 w gc 0 (.slice (some ⟨gp, 0, none⟩) pl.length cap)) (hv : OwnO w lo hi (.slice (some ⟨gp, 0, none⟩) pl.length cap) pl) (h0 : 0 ≤ p) (h1 : p < pl.length) :
    Calls Try.prog 100 #[.int .i64 p, .pointer (some ⟨gc, 0, none⟩)] w fun e w' => e = .returned (.bool (gti pl p.toNat)) ∧ Below w.heap.size w w' := by
  obtain ⟨k, rfl⟩ : ∃ k : Nat, p = k := ⟨p.toNat, by omega⟩
  have hk := OwnO.at1 hv (k := k) (by omega)
  clear hv
  refine zax fun R hR => ?_
  have HR := Lib.hid hR
  clear hR
  go_enter Try.func100, Try.ntmps100
  go_wp2_with fail
  exact HR.out _ _ ⟨by simp, Below.refl _ _⟩
theorem heap_new {w : World} {o : Obj} {g : Nat} (h : g = w.heap.size) : (w.alloc o).heap[g]? = some o := by
  subst h
  show (w.heap.push o)[w.heap.size]? = some o
  simp
theorem heap_old {w : World} {o : Obj} {g : Nat} {x : Option Obj} (h : g < w.heap.size) (hx : w.heap[g]? = x) : (w.alloc o).heap[g]? = x := by
  rw [← hx]
  show (w.heap.push o)[g]? = w.heap[g]?
  rw [Array.getElem?_push, if_neg (Nat.ne_of_lt h)]
theorem heap_drew (w : World) : w.drew.heap = w.heap := rfl
theorem own_heapO {W : World} {g n : Nat} (hn : n ≤ 1000000) (h : W.heap[g]? = some (.cells (madeCells #[.bool false] n) 4 (0, 0))) : OwnO W g (g + 1) (.slice (some ⟨g, 0, none⟩) n n) (List.replicate n false) := by
  have hl := made_rep (enc := encO) (z := .bool false) (size := 1) false rfl rfl (by decide) n
  rw [Nat.mul_one] at hl
  have e : (Value.bool false).cells = #[.bool false] := rfl
  rw [e] at hl
  refine ⟨⟨?_, .inr ⟨g, n, _, ?_, Nat.le_refl _, h, by simp, by unfold maxLen; omega, ?_, ?_⟩⟩, fun k hk => ?_⟩
  · simp
  · simp
  · rw [size_madeCells, Nat.mul_one]
  · rw [hl]
    exact List.take_of_length_le (by rw [flatMap_len (size := 1) (fun _ => rfl)]; exact Nat.le_refl _)
  · have : g = k := by simpa [Value.ownBlock] using hk
    omega
abbrev rchL (w0 : World) (n : Net) (vt : Value) (np nt gc gp gt : Nat) (pl tl : List Bool) : List Loc :=
  [Loc.c1 gc 0 (.slice (some ⟨gp, 0, none⟩) np np), Loc.owO gp (gp + 1) (.slice (some ⟨gp, 0, none⟩) np np) pl, Loc.owO gt (gt + 1) (.slice (some ⟨gt, 0, none⟩) nt nt) tl, Loc.k4 w0.heap.size (.int .i64 n.places) (vt) (.int .i64 n.source) (.int .i64 n.sink), Loc.bl w0.heap.size w0]
theorem rchL_p {w0 W : World} {n : Net} {vt : Value} {np nt gc gp gt : Nat} {pl tl : List Bool} (h : Mem (rchL w0 n vt np nt gc gp gt pl tl) W) (h1 : gc ≠ gp) (h3 : gp ≠ gt) (h5 : w0.heap.size < gp) (k : Nat) :
    Mem (rchL w0 n vt np nt gc gp gt (pl.set k true) tl) (W.setCell ⟨gp, k, none⟩ (.bool true)) := by
  have hr : Mem [Loc.c1 gc 0 (.slice (some ⟨gp, 0, none⟩) np np), Loc.owO gt (gt + 1) (.slice (some ⟨gt, 0, none⟩) nt nt) tl, Loc.k4 w0.heap.size (.int .i64 n.places) (vt) (.int .i64 n.source) (.int .i64 n.sink), Loc.bl w0.heap.size w0] (W.setCell ⟨gp, k, none⟩ (.bool true)) := Mem.set (g := gp) ⟨h.1, h.2.2.1, h.2.2.2.1, h.2.2.2.2⟩ (by (repeat' (first | exact True.intro | refine And.intro (fun k hk e => ?_) ?_)) <;> (first | exact e | ((try dsimp only [Loc.c1, Loc.c2, Loc.k1, Loc.k2, Loc.k3, Loc.k4, Loc.k6, Loc.fr, Loc.bl, Loc.own, Loc.sz, Loc.rd, Loc.rdI, Loc.rdS, Loc.rdM, Loc.rdT, Loc.ow, Loc.owI] at hk e) <;> omega)))
  exact ⟨hr.1, OwnO.set h.2.1 k true, hr.2.1, hr.2.2.1, hr.2.2.2⟩
theorem rchL_t {w0 W : World} {n : Net} {vt : Value} {np nt gc gp gt : Nat} {pl tl : List Bool} (h : Mem (rchL w0 n vt np nt gc gp gt pl tl) W) (h1 : gc ≠ gt) (h3 : gp ≠ gt) (h5 : w0.heap.size < gt) (k : Nat) :
    Mem (rchL w0 n vt np nt gc gp gt pl (tl.set k true)) (W.setCell ⟨gt, k, none⟩ (.bool true)) := by
  have hr : Mem [Loc.c1 gc 0 (.slice (some ⟨gp, 0, none⟩) np np), Loc.owO gp (gp + 1) (.slice (some ⟨gp, 0, none⟩) np np) pl, Loc.k4 w0.heap.size (.int .i64 n.places) (vt) (.int .i64 n.source) (.int .i64 n.sink), Loc.bl w0.heap.size w0] (W.setCell ⟨gt, k, none⟩ (.bool true)) := Mem.set (g := gt) ⟨h.1, h.2.1, h.2.2.2.1, h.2.2.2.2⟩ (by (repeat' (first | exact True.intro | refine And.intro (fun k hk e => ?_) ?_)) <;> (first | exact e | ((try dsimp only [Loc.c1, Loc.c2, Loc.k1, Loc.k2, Loc.k3, Loc.k4, Loc.k6, Loc.fr, Loc.bl, Loc.own, Loc.sz, Loc.rd, Loc.rdI, Loc.rdS, Loc.rdM, Loc.rdT, Loc.ow, Loc.owI] at hk e) <;> omega)))
  exact ⟨hr.1, hr.2.1, OwnO.set h.2.2.1 k true, hr.2.2.1, hr.2.2.2⟩
theorem cntF_rep (k : Nat) : cntF (List.replicate k false) = k := by simp [cntF]
theorem setB_zero (pl : List Bool) (l : List Int) : setB pl (l.take 0) = pl := by rw [List.take_zero, setB]
theorem setB_snoc (pl : List Bool) : ∀ (l : List Int) (q : Int), setB pl (l ++ [q]) = (setB pl l).set q.toNat true
  | l, q => by
    induction l generalizing pl with
    | nil => rfl
    | cons a l ih => rw [List.cons_append, setB, ih, setB]
theorem setB_take (pl : List Bool) (l : List Int) {k : Nat} (h : k < l.length) : setB pl (l.take (k + 1)) = (setB pl (l.take k)).set (gti l k).toNat true := by
  rw [List.take_add_one, gti_get h, Option.toList, setB_snoc]
theorem reached_mem {w W : World} {n : Net} {vt : Value} {np nt gc gp gt : Nat} {tt : TypeId} (hb : Below (w.heap.size + 1) (w.alloc (.cells #[.int .i64 n.places, vt, .int .i64 n.source, .int .i64 n.sink] 24)) W) (hp : np ≤ 1000) (ht : nt ≤ 1000)
    (h1 : W.heap[gc]? = some (.cells #[.slice (some ⟨gp, 0, none⟩) np np] tt (0, 0))) (h2 : W.heap[gp]? = some (.cells (madeCells #[.bool false] np) 4 (0, 0))) (h3 : W.heap[gt]? = some (.cells (madeCells #[.bool false] nt) 4 (0, 0))) :
    Mem [Loc.c1 gc 0 (.slice (some ⟨gp, 0, none⟩) np np), Loc.owO gp (gp + 1) (.slice (some ⟨gp, 0, none⟩) np np) (List.replicate np false), Loc.owO gt (gt + 1) (.slice (some ⟨gt, 0, none⟩) nt nt) (List.replicate nt false), Loc.k4 w.heap.size (.int .i64 n.places) (vt) (.int .i64 n.source) (.int .i64 n.sink), Loc.bl w.heap.size w] W := by
  refine ⟨?_, own_heapO (by omega) h2, own_heapO (by omega) h3, K4.aft (by simpa using hb) (K4.new w _ _ _ _ _), ⟨((Below.refl _ _).alloc (Nat.le_refl _) _).trans (hb.mono (by omega)), by have := hb.size; simp at this; omega⟩, True.intro⟩
  show W.cell? ⟨gc, 0, none⟩ = _
  unfold World.cell?
  simp [h1]
set_option maxRecDepth 100000 in
set_option maxHeartbeats 4000000 in
theorem reached_any (n : Net) (s : Int) (back : Bool) (vt : Value) (lo hi : Nat) (w : World) (hv : RdT w lo hi vt n.trans) (hval : zbc n = true) (h0 : 0 ≤ s) (h1 : s < n.places) :
    Calls Try.prog 67 #[netV n vt, .int .i64 s, .bool back] w fun e w' => ∃ pl tl A c B d, e = .returned (.tuple #[.slice A pl.length c, .slice B tl.length d]) ∧ RdO w' 0 w'.heap.size (.slice A pl.length c) pl ∧ RdO w' 0 w'.heap.size (.slice B tl.length d) tl ∧ RF n back s pl tl ∧ Below w.heap.size w w' := by
  obtain ⟨A, ca, rfl, hc, hmm⟩ := hv.form
  have HV := Lib.hid hv
  have HVL := Lib.hid hval
  have hpl := za8 hval
  have HP := Lib.hid (Plc.of hval)
  clear hv hval
  obtain ⟨np, hnp⟩ : ∃ k : Nat, n.places = k := ⟨n.places.toNat, by omega⟩
  obtain ⟨ks, rfl⟩ : ∃ k : Nat, s = k := ⟨s.toNat, by omega⟩
  have hks : ks < np := by omega
  have hmk := mk_bool hnp (by omega)
  have hmk2 := mk_bool (x := (n.trans.length : Int)) rfl (by omega)
  have HNP := Lib.hid hnp
  have hn40 : np ≤ 40 := by omega
  have ht60 : n.trans.length ≤ 60 := by omega
  have HI0 := Lib.hid (RI.init (n := n) (back := back) h0 h1)
  rw [hnp] at HI0
  clear hnp hpl h0 h1
  refine zax fun R hR => ?_
  have HR := Lib.hid hR
  clear hR
  go_enter Try.func67, Try.ntmps67
  have M : Hid (Mem [Loc.k4 w.heap.size (.int .i64 n.places) (.slice A n.trans.length ca) (.int .i64 n.source) (.int .i64 n.sink), Loc.bl w.heap.size w] (w.alloc (.cells #[.int .i64 n.places, .slice A n.trans.length ca, .int .i64 n.source, .int .i64 n.sink] 24))) := Lib.hid ⟨K4.new w _ _ _ _ _, ⟨(Below.refl _ _).alloc (Nat.le_refl _) _, by simp⟩, True.intro⟩
  have hk4 := M.out.1
  go_upto_region 1 with fail
  go_cut [8, 9] (fun v8 v9 wx => ∃ gc gp gt : Nat, v8 = .pointer (some ⟨gc, 0, none⟩) ∧ v9 = .slice (some ⟨gt, 0, none⟩) n.trans.length n.trans.length ∧ gc ≠ gp ∧ gc ≠ gt ∧ gp ≠ gt ∧ w.heap.size < gc ∧ w.heap.size < gp ∧ w.heap.size < gt ∧ Hid (Mem [Loc.c1 gc 0 (.slice (some ⟨gp, 0, none⟩) np np), Loc.owO gp (gp + 1) (.slice (some ⟨gp, 0, none⟩) np np) (List.replicate np false), Loc.owO gt (gt + 1) (.slice (some ⟨gt, 0, none⟩) n.trans.length n.trans.length) (List.replicate n.trans.length false), Loc.k4 w.heap.size (.int .i64 n.places) (.slice A n.trans.length ca) (.int .i64 n.source) (.int .i64 n.sink), Loc.bl w.heap.size w] wx))
  case first =>
    go_region
    all_goals
      go_wp2_with fail
      go_meet
      first | (refine ⟨_, w.heap.size + 1, _, rfl, rfl, ?_, ?_, ?_, ?_, ?_, ?_, Lib.hid (reached_mem (tt := 109) (Below.drew (Below.alloc (Below.alloc (Below.alloc (Below.refl _ _) (by first | omega | (simp; done) | (simp; omega)) _) (by first | omega | (simp; done) | (simp; omega)) _) (by first | omega | (simp; done) | (simp; omega)) _)) (by omega) (by omega) ?_ ?_ ?_)⟩ <;> first | omega | (rw [heap_drew]; refine heap_new ?_; simp; done) | (rw [heap_drew]; refine heap_old ?_ (heap_new ?_) <;> simp <;> done) | (rw [heap_drew]; refine heap_old ?_ (heap_old ?_ (heap_new ?_)) <;> (first | (simp; done) | (simp; omega)))) | (refine ⟨_, w.heap.size + 1 + 1, _, rfl, rfl, ?_, ?_, ?_, ?_, ?_, ?_, Lib.hid (reached_mem (tt := 109) (Below.drew (Below.alloc (Below.alloc (Below.alloc (Below.refl _ _) (by first | omega | (simp; done) | (simp; omega)) _) (by first | omega | (simp; done) | (simp; omega)) _) (by first | omega | (simp; done) | (simp; omega)) _)) (by omega) (by omega) ?_ ?_ ?_)⟩ <;> first | omega | (rw [heap_drew]; refine heap_new ?_; simp; done) | (rw [heap_drew]; refine heap_old ?_ (heap_new ?_) <;> simp <;> done) | (rw [heap_drew]; refine heap_old ?_ (heap_old ?_ (heap_new ?_)) <;> (first | (simp; done) | (simp; omega)))) | (refine ⟨_, w.heap.size + 1 + 1 + 1, _, rfl, rfl, ?_, ?_, ?_, ?_, ?_, ?_, Lib.hid (reached_mem (tt := 109) (Below.drew (Below.alloc (Below.alloc (Below.alloc (Below.refl _ _) (by first | omega | (simp; done) | (simp; omega)) _) (by first | omega | (simp; done) | (simp; omega)) _) (by first | omega | (simp; done) | (simp; omega)) _)) (by omega) (by omega) ?_ ?_ ?_)⟩ <;> first | omega | (rw [heap_drew]; refine heap_new ?_; simp; done) | (rw [heap_drew]; refine heap_old ?_ (heap_new ?_) <;> simp <;> done) | (rw [heap_drew]; refine heap_old ?_ (heap_old ?_ (heap_new ?_)) <;> (first | (simp; done) | (simp; omega)))) | skip
  case rest =>
    clear hmk hmk2 hk4 M
    obtain ⟨gc, gp, gt, rfl, rfl, hd1, hd2, hd3, hd4, hd5, hd6, M0⟩ := hcut
    have M : Hid (Mem (rchL w n (.slice A n.trans.length ca) np n.trans.length gc gp gt (List.replicate np false) (List.replicate n.trans.length false)) wc) := M0
    clear M0
    have hcc := M.out.1
    have hat := OwnO.at1 M.out.2.1 (k := ks) (by simp; omega)
    have M1 := Lib.hid (rchL_p M.out hd1 hd3 hd5 ks)
    clear M
    have hk4 := M1.out.2.2.2.1
    go_wp2_with fail
    go_loopg [10, 11, 12, 13, 14, 16] (2 * n.trans.length + 1) (fun gk v10 _ _ _ _ _ wr => ∃ (pl tl : List Bool) (ch : Bool), v10 = .bool ch ∧ gk = 2 * cntF tl + ch.toNat ∧ Hid (RI n back ks pl tl) ∧ Hid (ch = false → ∀ i, i < n.trans.length → gti tl i = false → ∀ p ∈ insB back (gti n.trans i), gti pl p.toNat = false) ∧ Hid (Mem (rchL w n (.slice A n.trans.length ca) np n.trans.length gc gp gt pl tl) wr))
    case atStart => exact ⟨_, _, true, rfl, by rw [cntF_rep]; rfl, HI0, Lib.hid (fun h => by cases h), M1⟩
    case round =>
      clear M1 HI0 hat hcc hk4
      obtain ⟨pl0, tl0, ch, rfl, hgk, HI, HC, M⟩ := hrel
      have HGK := Lib.hid hgk
      clear hgk
      have hk4 := M.out.2.2.2.1
      cases ch with
      | false =>
        have hcc := M.out.1
        have hlp : pl0.length = np := by rw [HI.out.lenp, HNP.out]; simp
        have hlt0 : tl0.length = n.trans.length := HI.out.lent
        have HLP := Lib.hid hlp
        have HLT := Lib.hid hlt0
        clear hlp hlt0
        go_wp2_with fail
        refine HR.out _ _ ⟨pl0, tl0, some ⟨gp, 0, none⟩, np, some ⟨gt, 0, none⟩, n.trans.length, by rw [HLP.out, HLT.out]; rfl, ?_, ?_, HI.out.done HP.out (by omega) (by rw [HNP.out]; omega) (HC.out (by trivial)), M.out.2.2.2.2.1.1⟩
        · rw [HLP.out]
          exact M.out.2.1.rd.mono (Nat.zero_le _) (M.out.2.1.1.lt gp rfl).2
        · rw [HLT.out]
          exact M.out.2.2.1.rd.mono (Nat.zero_le _) (M.out.2.2.1.1.lt gt rfl).2
      | true =>
        clear HC
        go_wp2_with fail
        go_loopw [31, 10, 11, 12, 13, 14, 16] (fun v31 v10 _ _ _ _ _ wr => ∃ (i : Nat) (pl tl : List Bool) (ch : Bool), i ≤ n.trans.length ∧ v31 = .int .i64 i ∧ v10 = .bool ch ∧ Hid (RI n back ks pl tl) ∧ Hid (2 * cntF tl + ch.toNat < 2 * cntF tl0 + 1) ∧ Hid (ch = false → ∀ j, j < i → gti tl j = false → ∀ p ∈ insB back (gti n.trans j), gti pl p.toNat = false) ∧ Hid (Mem (rchL w n (.slice A n.trans.length ca) np n.trans.length gc gp gt pl tl) wr)) (fun v31 _ _ _ _ _ _ _ => n.trans.length - (intOf v31).toNat)
        case atStart => exact ⟨0, pl0, tl0, false, Nat.zero_le _, rfl, rfl, HI, Lib.hid (by simp), Lib.hid (fun _ j hj => absurd hj (by omega)), M⟩
        case round =>
          clear M hk4 HI
          obtain ⟨i, pl, tl, ch, hil, rfl, rfl, HI, HM, HC, M⟩ := hrel
          have hk4 := M.out.2.2.2.1
          by_cases hlt : i < n.trans.length
          · obtain ⟨b4, off4, vi, vo, rfl, _, _, hct0, hri, hro⟩ := RdT.at3 HV.out hlt
            have hct := C3.aft3 M.out.2.2.2.2.1.1 hct0
            clear hct0
            have hti := OwnO.at1 M.out.2.2.1 (k := i) (by rw [HI.out.lent]; exact hlt)
            obtain ⟨z, hz⟩ : ∃ z, gti tl i = z := ⟨_, rfl⟩
            have HZ := Lib.hid hz
            rw [hz] at hti
            clear hz
            obtain ⟨x, hx⟩ : ∃ x, gti n.trans i = x := ⟨_, rfl⟩
            have HX := Lib.hid hx
            rw [hx] at hct hri hro
            clear hx
            obtain ⟨Ai, ci, rfl, hci, hmi⟩ := hri.form
            obtain ⟨Ao, co, rfl, hco, hmo⟩ := hro.form
            have HRI := Lib.hid hri
            have HRO := Lib.hid hro
            clear hri hro
            have M2 := Lib.hid (Mem.cons (a := Loc.k3 wr.heap.size _ _ _) (K3.new wr (.string x.label) (.slice Ai x.inn.length ci) (.slice Ao x.out.length co) 46) (M.out.alloc (.cells #[.string x.label, .slice Ai x.inn.length ci, .slice Ao x.out.length co] 46)))
            have hkt := M2.out.1
            clear M
            go_wp2_with fail
            go_quiet (fail)
            go_upto_if 40 with fail
            go_cut [13, 14] (fun v13 v14 wx => ∃ (Ap : Option Addr) (cp : Nat) (Aq : Option Addr) (cq : Nat), v13 = .slice Ap (insB back x).length cp ∧ v14 = .slice Aq (outsB back x).length cq ∧ Hid (RdI w lo hi (.slice Ap (insB back x).length cp) (insB back x)) ∧ Hid (RdI w lo hi (.slice Aq (outsB back x).length cq) (outsB back x)) ∧ Hid (Mem (rchL w n (.slice (some ⟨b4, off4, none⟩) n.trans.length ca) np n.trans.length gc gp gt pl tl) wx))
            case first =>
              cases back
              · go_wp2_with fail
                go_meet
                exact ⟨Ai, ci, Ao, co, rfl, rfl, HRI, HRO, by first | exact Lib.hid M2.out.2 | exact Lib.hid (M2.out.2.below (below_drewN (Below.refl _ _) _))⟩
              · go_wp2_with fail
                go_meet
                exact ⟨Ao, co, Ai, ci, rfl, rfl, HRO, HRI, by first | exact Lib.hid M2.out.2 | exact Lib.hid (M2.out.2.below (below_drewN (Below.refl _ _) _))⟩
            case rest =>
              clear M2 hkt hct hti HRI HRO hci hmi hco hmo hk4
              obtain ⟨Ap, cp, Aq, cq, rfl, rfl, HRI, HRO, M⟩ := hcut
              have hti := OwnO.at1 M.out.2.2.1 (k := i) (by rw [HI.out.lent]; exact hlt)
              rw [HZ.out] at hti
              cases z with
              | true =>
                go_wp2_with fail
                exact ⟨⟨i + 1, pl, tl, ch, by omega, by go_num, rfl, HI, HM, Lib.hid (fun hf j hj hg => by
                  rcases Nat.lt_succ_iff_lt_or_eq.1 hj with h | rfl
                  · exact HC.out hf j h hg
                  · rw [HZ.out] at hg; cases hg), M⟩, by simp [intOf]; omega⟩
              | false =>
                obtain ⟨zz, hzz⟩ : ∃ zz, (insB back x).any (fun q => gti pl q.toNat) = zz := ⟨_, rfl⟩
                have HZZ := Lib.hid hzz
                clear hzz
                have HPB : Hid (∀ q ∈ insB back x, 0 ≤ q ∧ q < pl.length) := Lib.hid (by
                  intro q hq
                  have := HP.out i hlt back q (by rw [HX.out]; exact hq)
                  rw [HI.out.lenp]
                  omega)
                have HLP : Hid (pl.length = np) := Lib.hid (by rw [HI.out.lenp, HNP.out]; simp)
                cases zz with
                | false =>
                  go_wp2_with (go_at_call 95; refine (containsFI_any 100 ent_reached1 #[.pointer (some ⟨gc, 0, none⟩)] (fun q => gti pl q.toNat) (insB back x) lo hi _ _ (HRI.out.after M.out.2.2.2.2.1.1) (fun q hq W hW => reached1_any pl q gc gp gp (gp + 1) 0 np W (by rw [HLP.out]; exact (M.out.below hW).1) (by rw [HLP.out]; exact (M.out.below hW).2.1) (HPB.out q hq).1 (HPB.out q hq).2)).mono ?_; rintro e w5 ⟨rfl, hb⟩; rw [HZZ.out]; replace M := Lib.hid (M.out.below hb); clear hb)
                  exact ⟨⟨i + 1, pl, tl, ch, by omega, by go_num, rfl, HI, HM, Lib.hid (fun hf j hj hg => by
                    rcases Nat.lt_succ_iff_lt_or_eq.1 hj with h | rfl
                    · exact HC.out hf j h hg
                    · intro p hp
                      rw [HX.out] at hp
                      have := List.any_eq_false.1 HZZ.out p hp
                      simpa using this), M⟩, by simp [intOf]; omega⟩
                | true =>
                  obtain ⟨q0, hq0, hg0⟩ := List.any_eq_true.1 HZZ.out
                  have hom : (outsB back x).length ≤ 9223372036854775807 := by
                    obtain ⟨_, _, _, _, h⟩ := Rd.form HRO.out
                    exact h
                  have HI1 := Lib.hid (HI.out.add HP.out hlt (p := q0) (by rw [HX.out]; exact hq0) hg0)
                  rw [HX.out] at HI1
                  have HM1 : Hid (2 * cntF (tl.set i true) + true.toNat < 2 * cntF tl0 + 1) := Lib.hid (by
                    have h1 := cntF_set (l := tl) (i := i) (by rw [HI.out.lent]; exact hlt) HZ.out
                    have h2 := HM.out
                    simp only [Bool.toNat_true]
                    omega)
                  have HPO : Hid (∀ k, k < (outsB back x).length → 0 ≤ gti (outsB back x) k ∧ gti (outsB back x) k < np) := Lib.hid (by
                    intro k hk
                    have := HP.out.out hlt back (gti (outsB back x) k) (by rw [HX.out]; exact List.mem_of_getElem? (gti_get hk))
                    rw [HNP.out] at this
                    exact this)
                  clear hq0 hg0
                  go_wp2_with (go_at_call 95; refine (containsFI_any 100 ent_reached1 #[.pointer (some ⟨gc, 0, none⟩)] (fun q => gti pl q.toNat) (insB back x) lo hi _ _ (HRI.out.after M.out.2.2.2.2.1.1) (fun q hq W hW => reached1_any pl q gc gp gp (gp + 1) 0 np W (by rw [HLP.out]; exact (M.out.below hW).1) (by rw [HLP.out]; exact (M.out.below hW).2.1) (HPB.out q hq).1 (HPB.out q hq).2)).mono ?_; rintro e w5 ⟨rfl, hb⟩; rw [HZZ.out]; replace M := Lib.hid (M.out.below hb); clear hb; replace hti := OwnO.at1 M.out.2.2.1 (k := i) (by rw [HI.out.lent]; exact hlt); rw [HZ.out] at hti; replace M := Lib.hid (rchL_t M.out hd2 hd3 hd6 i))
                  go_loopw [58, 16] (fun v58 _ wr => ∃ j : Nat, j ≤ (outsB back x).length ∧ v58 = .int .i64 j ∧ Hid (Mem (rchL w n (.slice (some ⟨b4, off4, none⟩) n.trans.length ca) np n.trans.length gc gp gt (setB pl ((outsB back x).take j)) (tl.set i true)) wr)) (fun v58 _ _ => (outsB back x).length - (intOf v58).toNat)
                  case atStart => exact ⟨0, Nat.zero_le _, rfl, by rw [setB_zero]; exact M⟩
                  case round =>
                    clear M hti
                    obtain ⟨j, hj, rfl, M⟩ := hrel
                    by_cases hltj : j < (outsB back x).length
                    · have hob := HPO.out j hltj
                      obtain ⟨bq, oq, rfl, _, _, hcq⟩ := RdI.at1 (HRO.out.after M.out.2.2.2.2.1.1) hltj
                      have HST := Lib.hid (setB_take pl (outsB back x) hltj)
                      obtain ⟨kq, hkq⟩ : ∃ kq : Nat, gti (outsB back x) j = kq := ⟨(gti (outsB back x) j).toNat, by omega⟩
                      rw [hkq] at hcq hob HST
                      rw [Int.toNat_natCast] at HST
                      clear hkq
                      have hkq : kq < np := by omega
                      have hcc := M.out.1
                      have hat := OwnO.at1 M.out.2.1 (k := kq) (by rw [setB_len, HLP.out]; exact hkq)
                      have M6 := Lib.hid (rchL_p M.out hd1 hd3 hd5 kq)
                      rw [← HST.out] at M6
                      generalize gti (setB pl ((outsB back x).take j)) kq = zo at *
                      have HJ1 : Hid (j + 1 ≤ (outsB back x).length) := Lib.hid hltj
                      have hki : Value.int .i64 ((j : Int) + 1) = .int .i64 ((j + 1 : Nat) : Int) := by go_num
                      have HKI := Lib.hid hki
                      clear hki
                      go_wp2_with fail
                      exact ⟨⟨j + 1, HJ1.out, HKI.out, M6⟩, by have := HJ1.out; simp [intOf]; omega⟩
                    · obtain rfl : j = (outsB back x).length := by omega
                      rw [List.take_length] at M
                      go_wp2_with fail
                      exact ⟨⟨i + 1, setB pl (outsB back x), tl.set i true, true, by omega, by go_num, rfl, HI1, HM1, Lib.hid (fun hf => by cases hf), M⟩, by simp [intOf]; omega⟩
          · obtain rfl : i = n.trans.length := by omega
            go_wp2_with fail
            go_roundg (2 * cntF tl + ch.toNat)
            case measure => rw [HGK.out]; exact HM.out
            case rel => (first | exact ⟨pl, tl, ch, rfl, rfl, HI, HC, M⟩ | ((repeat apply Exists.intro); exact ⟨⟨pl, tl, ch, rfl, rfl, HI, HC, M⟩, rfl⟩))
end Go.Proofs.Ytmhbfoaecebobaa
end
section
namespace Go.Proofs.Ytmhbfoaecebobaa
set_option linter.unusedSimpArgs false
set_option linter.unusedVariables false
open Go.RowKit
def Good (n : Net) (back : Bool) : Prop := (∀ p : Nat, p < n.places.toNat → Rch n back (endOf n back) p) ∧ ∀ i, i < n.trans.length → RchT n back (endOf n back) i
theorem RF.good {n : Net} {back : Bool} {pl tl : List Bool} (h : RF n back (endOf n back) pl tl) : Good n back ↔ (false ∉ pl ∧ false ∉ tl) := by
  constructor
  · rintro ⟨h1, h2⟩
    refine ⟨any_true fun i hi => ?_, any_true fun i hi => ?_⟩
    · rw [h.lenp] at hi; exact (h.p i hi).2 (h1 i hi)
    · rw [h.lent] at hi; exact (h.t i hi).2 (h2 i hi)
  · rintro ⟨h1, h2⟩
    exact ⟨fun p hp => (h.p p hp).1 (any_false h1 (by rw [h.lenp]; exact hp)), fun i hi => (h.t i hi).1 (any_false h2 (by rw [h.lent]; exact hi))⟩
theorem wf_iff {n : Net} : Wf n ↔ zbc n = true ∧ n.source ≠ n.sink ∧ (∀ i, i < n.trans.length → n.source ∉ (gti n.trans i).out ∧ n.sink ∉ (gti n.trans i).inn) ∧ Good n false ∧ Good n true := by
  constructor
  · intro h
    exact ⟨h.valid, h.ne, h.no, ⟨h.places false, h.trans false⟩, ⟨h.places true, h.trans true⟩⟩
  · rintro ⟨h1, h2, h3, h4, h5⟩
    exact ⟨h1, h2, h3, fun b => by cases b; exact h4.1; exact h5.1, fun b => by cases b; exact h4.2; exact h5.2⟩
theorem valid_is' {n : Net} {b : Bool} (hb : zbc n = b) (vt : Value) (lo hi : Nat) (w : World) (hv : RdT w lo hi vt n.trans) :
    Calls Try.prog 54 #[netV n vt] w fun e w' => e = .returned (.bool b) ∧ Below w.heap.size w w' := hb ▸ valid_any n vt lo hi w hv
theorem containsO_is {x : Bool} {l : List Bool} {z : Bool} (hz : decide (x ∈ l) = z) (lo hi : Nat) (v : Value) (w : World) (hv : RdO w lo hi v l) :
    Calls Try.prog 68 #[v, .bool x] w fun e w' => e = .returned (.bool z) ∧ Below w.heap.size w w' := hz ▸ containsO_any x l lo hi v w hv
theorem containsI_is {x : Int} {l : List Int} {z : Bool} (hz : decide (x ∈ l) = z) (lo hi : Nat) (v : Value) (w : World) (hv : RdI w lo hi v l) :
    Calls Try.prog 66 #[v, .int .i64 x] w fun e w' => e = .returned (.bool z) ∧ Below w.heap.size w w' := hz ▸ containsI_any x l lo hi v w hv
set_option maxRecDepth 100000 in
set_option maxHeartbeats 4000000 in
theorem workflow_any (n : Net) (vt : Value) (lo hi : Nat) (w : World) (hv : RdT w lo hi vt n.trans) :
    Calls Try.prog 27 #[netV n vt] w fun e w' => e = .returned (.bool (wfB n)) ∧ Below w.heap.size w w' := by
  obtain ⟨A, c, rfl, hc, hmm⟩ := hv.form
  have HV := Lib.hid hv
  clear hv
  cases hvb : zbc n with
  | false =>
    have HW : Hid (wfB n = false) := Lib.hid (wfB_false (fun h => by rw [h.valid] at hvb; cases hvb))
    have HVB := Lib.hid hvb
    clear hvb
    refine zax fun R hR => ?_
    have HR := Lib.hid hR
    clear hR
    go_enter Try.func27, Try.ntmps27
    have M : Hid (Mem [Loc.k4 w.heap.size (.int .i64 n.places) (.slice A n.trans.length c) (.int .i64 n.source) (.int .i64 n.sink), Loc.bl w.heap.size w] (w.alloc (.cells #[.int .i64 n.places, .slice A n.trans.length c, .int .i64 n.source, .int .i64 n.sink] 24))) := Lib.hid ⟨K4.new w _ _ _ _ _, ⟨(Below.refl _ _).alloc (Nat.le_refl _) _, by simp⟩, True.intro⟩
    have hk4 := M.out.1
    go_wp2_with (go_at_call 54; refine (valid_is' HVB.out _ lo hi _ (HV.out.after M.out.2.1.1)).mono ?_; rintro e w1 ⟨rfl, hb1⟩; replace M := Lib.hid (M.out.below hb1); clear hb1; replace hk4 := M.out.1)
    all_goals exact HR.out _ _ ⟨by rw [HW.out]; rfl, M.out.2.1.1⟩
  | true =>
    have HVB := Lib.hid hvb
    have hss := validB_ends hvb
    have HIF := Lib.hid (wf_iff (n := n))
    clear hvb
    by_cases hne : n.source = n.sink
    · have HW : Hid (wfB n = false) := Lib.hid (wfB_false (fun h => h.ne hne))
      have hnb : (n.source == n.sink) = true := by simpa using hne
      clear hne
      refine zax fun R hR => ?_
      have HR := Lib.hid hR
      clear hR
      go_enter Try.func27, Try.ntmps27
      have M : Hid (Mem [Loc.k4 w.heap.size (.int .i64 n.places) (.slice A n.trans.length c) (.int .i64 n.source) (.int .i64 n.sink), Loc.bl w.heap.size w] (w.alloc (.cells #[.int .i64 n.places, .slice A n.trans.length c, .int .i64 n.source, .int .i64 n.sink] 24))) := Lib.hid ⟨K4.new w _ _ _ _ _, ⟨(Below.refl _ _).alloc (Nat.le_refl _) _, by simp⟩, True.intro⟩
      have hk4 := M.out.1
      go_wp2_with (go_at_call 54; refine (valid_is' HVB.out _ lo hi _ (HV.out.after M.out.2.1.1)).mono ?_; rintro e w1 ⟨rfl, hb1⟩; replace M := Lib.hid (M.out.below hb1); clear hb1; replace hk4 := M.out.1)
      all_goals exact HR.out _ _ ⟨by rw [HW.out]; rfl, M.out.2.1.1⟩
    · have hnb : (n.source == n.sink) = false := by simpa using hne
      have HNE := Lib.hid hne
      clear hne
      refine zax fun R hR => ?_
      have HR := Lib.hid hR
      clear hR
      go_enter Try.func27, Try.ntmps27
      have M : Hid (Mem [Loc.k4 w.heap.size (.int .i64 n.places) (.slice A n.trans.length c) (.int .i64 n.source) (.int .i64 n.sink), Loc.bl w.heap.size w] (w.alloc (.cells #[.int .i64 n.places, .slice A n.trans.length c, .int .i64 n.source, .int .i64 n.sink] 24))) := Lib.hid ⟨K4.new w _ _ _ _ _, ⟨(Below.refl _ _).alloc (Nat.le_refl _) _, by simp⟩, True.intro⟩
      have hk4 := M.out.1
      go_wp2_with (go_at_call 54; refine (valid_is' HVB.out _ lo hi _ (HV.out.after M.out.2.1.1)).mono ?_; rintro e w1 ⟨rfl, hb1⟩; replace M := Lib.hid (M.out.below hb1); clear hb1; replace hk4 := M.out.1)
      go_loopw [23, 4] (fun v23 _ wr => ∃ i : Nat, i ≤ n.trans.length ∧ v23 = .int .i64 i ∧ Hid (∀ j, j < i → n.source ∉ (gti n.trans j).out ∧ n.sink ∉ (gti n.trans j).inn) ∧ Hid (Mem [Loc.k4 w.heap.size (.int .i64 n.places) (.slice A n.trans.length c) (.int .i64 n.source) (.int .i64 n.sink), Loc.bl w.heap.size w] wr)) (fun v23 _ _ => n.trans.length - (intOf v23).toNat)
      case atStart => exact ⟨0, Nat.zero_le _, rfl, Lib.hid (fun j hj => absurd hj (by omega)), M⟩
      case round =>
        clear M hk4
        obtain ⟨i, hil, rfl, HN, M⟩ := hrel
        have hk4 := M.out.1
        by_cases hlt : i < n.trans.length
        · obtain ⟨b4, off4, vi, vo, rfl, _, _, hct0, hri, hro⟩ := RdT.at3 HV.out hlt
          have hct := C3.aft3 M.out.2.1.1 hct0
          clear hct0
          obtain ⟨x, hx⟩ : ∃ x, gti n.trans i = x := ⟨_, rfl⟩
          have HX := Lib.hid hx
          rw [hx] at hct hri hro
          clear hx
          obtain ⟨Ai, ci, rfl, hci, hmi⟩ := hri.form
          obtain ⟨Ao, co, rfl, hco, hmo⟩ := hro.form
          have HRI := Lib.hid hri
          have HRO := Lib.hid hro
          clear hri hro
          have M2 := Lib.hid (Mem.cons (a := Loc.k3 wr.heap.size _ _ _) (K3.new wr (.string x.label) (.slice Ai x.inn.length ci) (.slice Ao x.out.length co) 46) (M.out.alloc (.cells #[.string x.label, .slice Ai x.inn.length ci, .slice Ao x.out.length co] 46)))
          have hkt := M2.out.1
          clear M
          obtain ⟨z1, hz1⟩ : ∃ z, decide (n.source ∈ x.out) = z := ⟨_, rfl⟩
          obtain ⟨z2, hz2⟩ : ∃ z, decide (n.sink ∈ x.inn) = z := ⟨_, rfl⟩
          have HZ1 := Lib.hid hz1
          have HZ2 := Lib.hid hz2
          clear hz1 hz2
          cases z1 with
          | true =>
            have HW : Hid (wfB n = false) := Lib.hid (wfB_false (fun h => (h.no i hlt).1 (by rw [HX.out]; exact of_decide_eq_true HZ1.out)))
            go_wp2_with (go_at_call 66; refine (containsI_is HZ1.out lo hi _ _ (HRO.out.after M2.out.2.2.1.1)).mono ?_; rintro e w5 ⟨rfl, hb⟩; replace M2 := Lib.hid (M2.out.below hb); clear hb; replace hkt := M2.out.1; replace hk4 := M2.out.2.1)
            exact HR.out _ _ ⟨by rw [HW.out]; rfl, M2.out.2.2.1.1⟩
          | false =>
            have tok1 : True := trivial
            cases z2 with
            | true =>
              have HW : Hid (wfB n = false) := Lib.hid (wfB_false (fun h => (h.no i hlt).2 (by rw [HX.out]; exact of_decide_eq_true HZ2.out)))
              go_wp2_with (first | (have _t := tok1; (go_at_call 66; refine (containsI_is HZ1.out lo hi _ _ (HRO.out.after M2.out.2.2.1.1)).mono ?_; rintro e w5 ⟨rfl, hb⟩; replace M2 := Lib.hid (M2.out.below hb); clear hb; replace hkt := M2.out.1; replace hk4 := M2.out.2.1); clear tok1) | (go_at_call 66; refine (containsI_is HZ2.out lo hi _ _ (HRI.out.after M2.out.2.2.1.1)).mono ?_; rintro e w5 ⟨rfl, hb⟩; replace M2 := Lib.hid (M2.out.below hb); clear hb; replace hkt := M2.out.1; replace hk4 := M2.out.2.1))
              exact HR.out _ _ ⟨by rw [HW.out]; rfl, M2.out.2.2.1.1⟩
            | false =>
              go_wp2_with (first | (have _t := tok1; (go_at_call 66; refine (containsI_is HZ1.out lo hi _ _ (HRO.out.after M2.out.2.2.1.1)).mono ?_; rintro e w5 ⟨rfl, hb⟩; replace M2 := Lib.hid (M2.out.below hb); clear hb; replace hkt := M2.out.1; replace hk4 := M2.out.2.1); clear tok1) | (go_at_call 66; refine (containsI_is HZ2.out lo hi _ _ (HRI.out.after M2.out.2.2.1.1)).mono ?_; rintro e w5 ⟨rfl, hb⟩; replace M2 := Lib.hid (M2.out.below hb); clear hb; replace hkt := M2.out.1; replace hk4 := M2.out.2.1))
              exact ⟨⟨i + 1, by omega, by go_num, Lib.hid (fun j hj => by
                rcases Nat.lt_succ_iff_lt_or_eq.1 hj with h | rfl
                · exact HN.out j h
                · rw [HX.out]; exact ⟨of_decide_eq_false HZ1.out, of_decide_eq_false HZ2.out⟩), Lib.hid M2.out.2⟩, by simp [intOf]; omega⟩
        · obtain rfl : i = n.trans.length := by omega
          obtain ⟨gb, hgb⟩ : ∃ gb, gb = wr.heap.size := ⟨_, rfl⟩
          have M3 : Hid (Mem [Loc.c2 gb 0 (.bool false) (.bool true), Loc.k4 w.heap.size (.int .i64 n.places) (.slice A n.trans.length c) (.int .i64 n.source) (.int .i64 n.sink), Loc.bl w.heap.size w] (wr.alloc (.cells #[.bool false, .bool true] 4))) := Lib.hid ⟨by rw [hgb]; simp [C2, go_sem], M.out.alloc _⟩
          have HGB0 := Lib.hid hgb
          clear hgb
          go_wp2_with fail
          rw [← HGB0.out]
          go_loopw [42, 6, 7, 8, 9] (fun v42 _ _ _ _ wr => ∃ k : Nat, k ≤ 2 ∧ v42 = .int .i64 k ∧ Hid ((0 < k → Good n false) ∧ (1 < k → Good n true)) ∧ Hid (Mem [Loc.c2 gb 0 (.bool false) (.bool true), Loc.k4 w.heap.size (.int .i64 n.places) (.slice A n.trans.length c) (.int .i64 n.source) (.int .i64 n.sink), Loc.bl w.heap.size w] wr)) (fun v42 _ _ _ _ _ => 2 - (intOf v42).toNat)
          case atStart => exact ⟨0, by omega, rfl, Lib.hid ⟨fun h => absurd h (by omega), fun h => absurd h (by omega)⟩, M3⟩
          case round =>
            clear M M3 hk4 HGB0
            obtain ⟨k, hk, rfl, HGB, M⟩ := hrel
            have hk4 := M.out.2.1
            have hc2 := M.out.1
            obtain rfl | rfl | rfl : k = 0 ∨ k = 1 ∨ k = 2 := by omega
            · go_upto_region 16 with (go_at_call 67; refine (reached_any n n.source false _ lo hi _ (HV.out.after M.out.2.2.1.1) HVB.out hss.1.1 hss.1.2).mono ?_; rintro e w5 ⟨pl, tl, A5, c5, B5, d5, rfl, hp, ht, hrf, hb⟩; have HP1 := Lib.hid hp; have HP2 := Lib.hid ht; have HRF := Lib.hid hrf; clear hp ht hrf; replace M := Lib.hid (M.out.below hb); clear hb)
              have HG : Hid (Good n false ↔ (false ∉ pl ∧ false ∉ tl)) := Lib.hid (RF.good (back := false) HRF.out)
              obtain ⟨z1, hz1⟩ : ∃ z, decide (false ∈ pl) = z := ⟨_, rfl⟩
              obtain ⟨z2, hz2⟩ : ∃ z, decide (false ∈ tl) = z := ⟨_, rfl⟩
              have HZ1 := Lib.hid hz1
              have HZ2 := Lib.hid hz2
              clear hz1 hz2
              have tok1 : True := trivial
              cases z1 with
              | true =>
                have HW : Hid (wfB n = false) := Lib.hid (wfB_false (fun h => (HG.out.1 (HIF.out.1 h).2.2.2.1).1 (of_decide_eq_true HZ1.out)))
                go_wp2_with (go_at_call 68; refine (containsO_is HZ1.out _ _ _ _ HP1.out).mono ?_; rintro e w6 ⟨rfl, hb⟩; replace M := Lib.hid (M.out.below hb); replace HP2 := Lib.hid (Rd.after HP2.out hb); clear hb)
                exact HR.out _ _ ⟨by rw [HW.out]; rfl, M.out.2.2.1.1⟩
              | false =>
                cases z2 with
                | true =>
                  have HW : Hid (wfB n = false) := Lib.hid (wfB_false (fun h => (HG.out.1 (HIF.out.1 h).2.2.2.1).2 (of_decide_eq_true HZ2.out)))
                  go_wp2_with (first | (have _t := tok1; (go_at_call 68; refine (containsO_is HZ1.out _ _ _ _ HP1.out).mono ?_; rintro e w6 ⟨rfl, hb⟩; replace M := Lib.hid (M.out.below hb); replace HP2 := Lib.hid (Rd.after HP2.out hb); clear hb); clear tok1) | (go_at_call 68; refine (containsO_is HZ2.out _ _ _ _ HP2.out).mono ?_; rintro e w6 ⟨rfl, hb⟩; replace M := Lib.hid (M.out.below hb); clear hb))
                  exact HR.out _ _ ⟨by rw [HW.out]; rfl, M.out.2.2.1.1⟩
                | false =>
                  have HGD := Lib.hid (HG.out.2 ⟨of_decide_eq_false HZ1.out, of_decide_eq_false HZ2.out⟩)
                  go_wp2_with (first | (have _t := tok1; (go_at_call 68; refine (containsO_is HZ1.out _ _ _ _ HP1.out).mono ?_; rintro e w6 ⟨rfl, hb⟩; replace M := Lib.hid (M.out.below hb); replace HP2 := Lib.hid (Rd.after HP2.out hb); clear hb); clear tok1) | (go_at_call 68; refine (containsO_is HZ2.out _ _ _ _ HP2.out).mono ?_; rintro e w6 ⟨rfl, hb⟩; replace M := Lib.hid (M.out.below hb); clear hb))
                  exact ⟨⟨1, by omega, rfl, Lib.hid ⟨fun _ => HGD.out, fun h => absurd h (by omega)⟩, M⟩, by simp [intOf]⟩
            · go_upto_region 16 with (go_at_call 67; refine (reached_any n n.sink true _ lo hi _ (HV.out.after M.out.2.2.1.1) HVB.out hss.2.1 hss.2.2).mono ?_; rintro e w5 ⟨pl, tl, A5, c5, B5, d5, rfl, hp, ht, hrf, hb⟩; have HP1 := Lib.hid hp; have HP2 := Lib.hid ht; have HRF := Lib.hid hrf; clear hp ht hrf; replace M := Lib.hid (M.out.below hb); clear hb)
              have HG : Hid (Good n true ↔ (false ∉ pl ∧ false ∉ tl)) := Lib.hid (RF.good (back := true) HRF.out)
              obtain ⟨z1, hz1⟩ : ∃ z, decide (false ∈ pl) = z := ⟨_, rfl⟩
              obtain ⟨z2, hz2⟩ : ∃ z, decide (false ∈ tl) = z := ⟨_, rfl⟩
              have HZ1 := Lib.hid hz1
              have HZ2 := Lib.hid hz2
              clear hz1 hz2
              have tok1 : True := trivial
              cases z1 with
              | true =>
                have HW : Hid (wfB n = false) := Lib.hid (wfB_false (fun h => (HG.out.1 (HIF.out.1 h).2.2.2.2).1 (of_decide_eq_true HZ1.out)))
                go_wp2_with (go_at_call 68; refine (containsO_is HZ1.out _ _ _ _ HP1.out).mono ?_; rintro e w6 ⟨rfl, hb⟩; replace M := Lib.hid (M.out.below hb); replace HP2 := Lib.hid (Rd.after HP2.out hb); clear hb)
                exact HR.out _ _ ⟨by rw [HW.out]; rfl, M.out.2.2.1.1⟩
              | false =>
                cases z2 with
                | true =>
                  have HW : Hid (wfB n = false) := Lib.hid (wfB_false (fun h => (HG.out.1 (HIF.out.1 h).2.2.2.2).2 (of_decide_eq_true HZ2.out)))
                  go_wp2_with (first | (have _t := tok1; (go_at_call 68; refine (containsO_is HZ1.out _ _ _ _ HP1.out).mono ?_; rintro e w6 ⟨rfl, hb⟩; replace M := Lib.hid (M.out.below hb); replace HP2 := Lib.hid (Rd.after HP2.out hb); clear hb); clear tok1) | (go_at_call 68; refine (containsO_is HZ2.out _ _ _ _ HP2.out).mono ?_; rintro e w6 ⟨rfl, hb⟩; replace M := Lib.hid (M.out.below hb); clear hb))
                  exact HR.out _ _ ⟨by rw [HW.out]; rfl, M.out.2.2.1.1⟩
                | false =>
                  have HGD := Lib.hid (HG.out.2 ⟨of_decide_eq_false HZ1.out, of_decide_eq_false HZ2.out⟩)
                  go_wp2_with (first | (have _t := tok1; (go_at_call 68; refine (containsO_is HZ1.out _ _ _ _ HP1.out).mono ?_; rintro e w6 ⟨rfl, hb⟩; replace M := Lib.hid (M.out.below hb); replace HP2 := Lib.hid (Rd.after HP2.out hb); clear hb); clear tok1) | (go_at_call 68; refine (containsO_is HZ2.out _ _ _ _ HP2.out).mono ?_; rintro e w6 ⟨rfl, hb⟩; replace M := Lib.hid (M.out.below hb); clear hb))
                  exact ⟨⟨2, by omega, rfl, Lib.hid ⟨fun _ => HGB.out.1 (by omega), fun _ => HGD.out⟩, M⟩, by simp [intOf]⟩
            · go_wp2_with fail
              exact HR.out _ _ ⟨by rw [wfB_true (HIF.out.2 ⟨HVB.out, HNE.out, HN.out, HGB.out.1 (by omega), HGB.out.2 (by omega)⟩)], M.out.2.2.1.1⟩
end Go.Proofs.Ytmhbfoaecebobaa
end
section
namespace Go.Proofs.Ytmhbfoaecebobaa
set_option linter.unusedSimpArgs false
set_option linter.unusedVariables false
open Go.RowKit
theorem own_raise {W : World} {lo g t sz n : Nat} {v : Value} {cells : List Value} (h : W.ownsRow lo t sz v n cells) (hg : v.ownBlock = some g) : W.ownsRow g t sz v n cells := by
  refine ⟨h.1, ?_⟩
  rcases h.2 with ⟨rfl, h0⟩ | ⟨g', cap, cur, rfl, h1, h2⟩
  · cases hg
  · have e : g' = g := by simpa [Value.ownBlock] using hg
    subst e
    exact .inr ⟨g', cap, cur, rfl, Nat.le_refl _, h2⟩
theorem run_app2 {α : Type} {t e size bytes : Nat} {z : Value} {enc : α → List Value} (ti : TI t e size bytes z) (he : ∀ a, (enc a).length = size) (h1 : ∀ a, ∀ u ∈ enc a, u.oneCell' = true) (w : World) (ty : TypeId) {lo hi lo' hi' : Nat} {v vx : Value} {l xs : List α} {rest : List Loc}
    (hM : Mem (Loc.ow e size enc lo hi v l :: rest) w) (hA : Apart (fun k => lo ≤ k ∧ k < hi) rest) (hx : Rd size enc w lo' hi' vx xs) (hlen : (l.length + xs.length) * bytes ≤ 140737488355328) (hlen2 : l.length + xs.length ≤ maxLen) (hlo : lo ≤ w.heap.size) :
    ∃ A c w' g0 g1, (Builtin.append_ #[t, t] ty #[v, vx]).run Try.prog w = .ok (.slice A (l.length + xs.length) c) w' ∧ (g0 = lo ∧ g1 = hi ∨ g0 = w.heap.size ∧ g1 = w.heap.size + 1 ∧ w.heap.size < w'.heap.size) ∧ Mem (Loc.ow e size enc g0 g1 (.slice A (l.length + xs.length) c) (l ++ xs) :: rest) w' ∧ w.heap.size ≤ w'.heap.size ∧ Chg (fun k => lo ≤ k ∧ k < hi) w w' := by
  obtain ⟨i, ht, hi0, hz, hsize, hby, hzs, hsz⟩ := ti
  obtain ⟨ho, hr⟩ := hM
  obtain ⟨A, c, rfl, _, _⟩ := hx.form
  have fin : ∀ (v' : Value) (w' : World), w'.ownsRow lo e size v' (l.length + xs.length) (l.flatMap enc ++ xs.flatMap enc) → w.grownBy w' v.ownBlock → (v'.ownBlock = v.ownBlock ∨ v'.ownBlock = some w.heap.size) →
      ∃ A c g0 g1, v' = .slice A (l.length + xs.length) c ∧ (g0 = lo ∧ g1 = hi ∨ g0 = w.heap.size ∧ g1 = w.heap.size + 1 ∧ w.heap.size < w'.heap.size) ∧ Mem (Loc.ow e size enc g0 g1 (.slice A (l.length + xs.length) c) (l ++ xs) :: rest) w' ∧ w.heap.size ≤ w'.heap.size ∧ Chg (fun k => lo ≤ k ∧ k < hi) w w' := by
    intro v' w' h2 h3 h4
    have hown : ∃ g0 g1, (g0 = lo ∧ g1 = hi ∨ g0 = w.heap.size ∧ g1 = w.heap.size + 1 ∧ w.heap.size < w'.heap.size) ∧ Own e size enc w' g0 g1 v' (l ++ xs) := by
      rcases h4 with h4 | h4
      · exact ⟨lo, hi, .inl ⟨rfl, rfl⟩, by rw [List.length_append, List.flatMap_append]; exact h2, fun k hk => ho.2 k (h4 ▸ hk)⟩
      · exact ⟨w.heap.size, w.heap.size + 1, .inr ⟨rfl, rfl, (h2.lt _ h4).2⟩, by rw [List.length_append, List.flatMap_append]; exact own_raise h2 h4, fun k hk => by rw [h4] at hk; injection hk with hk; omega⟩
    obtain ⟨g0, g1, hg, hown⟩ := hown
    obtain ⟨A', c', hv', _, _⟩ := hown.form
    rw [List.length_append] at hv'
    subst hv'
    have hch : Chg (fun k => lo ≤ k ∧ k < hi) w w' := ⟨h3.os, h3.tape, h3.output, h3.size, fun k hk hd => h3.block k hk (fun e => hd ⟨(ho.1.lt k e.symm).1, ho.2 k e.symm⟩)⟩
    exact ⟨A', c', g0, g1, rfl, hg, ⟨hown, hr.chg hch hA⟩, h3.size, hch⟩
  rcases A with _ | ad
  · have hm : xs.length = 0 := by
      rcases Nat.eq_zero_or_pos xs.length with h0 | h0
      · exact h0
      · obtain ⟨b, off, h, _⟩ := RdC.cells hx h0
        cases h
    have hxs : xs = [] := List.eq_nil_of_length_eq_zero hm
    subst hxs
    have hrun : (Builtin.append_ #[t, t] ty #[v, .slice none ([] : List α).length c]).run Try.prog w = .ok v w := by
      rcases ho.1.2 with ⟨rfl, h0⟩ | ⟨g, cap, cur, rfl, _, _, hnc, _⟩
      · simp [Builtin.append_, run_underlying ht, sizeOf, typeInfo, hi0, Builtin.lenOf, Builtin.firstCells]
      · simp [Builtin.append_, run_underlying ht, sizeOf, typeInfo, hi0, Builtin.lenOf, Builtin.firstCells, hnc, storeCells]
    obtain ⟨A', c', g0, g1, hv, hg, hM', h5, h6⟩ := fin v w (by simpa using ho.1) (World.grownBy.refl w _) (.inl rfl)
    exact ⟨A', c', w, g0, g1, hrun.trans (by rw [hv]), hg, hM', h5, h6⟩
  · have hcells : ∀ j u, (xs.flatMap enc)[j]? = some u → w.cell? (ad.add j) = some u := by
      intro j u hu
      rcases Nat.eq_zero_or_pos xs.length with h0 | h0
      · have : xs = [] := List.eq_nil_of_length_eq_zero h0
        subst this
        simp at hu
      · obtain ⟨b, off, h, _, _, hc⟩ := RdC.cells hx h0
        rw [Option.some.inj h, add_off]
        exact hc j u hu
    obtain ⟨v', w', hrun, h2, h3, _, h5⟩ := run_append_own_at (P := Try.prog) w lo t ty e i z size bytes ht hi0 hz hsize hby hzs hsz v l.length (l.flatMap enc) ho.1 ad xs.length c (xs.flatMap enc) (flatMap_len he xs) hcells
      (fun u hu => by obtain ⟨a, _, ha⟩ := List.mem_flatMap.1 hu; exact h1 a u ha) hlen2 hlen hlo
    obtain ⟨A', c', g0, g1, hv, hg, hM', h6, h7⟩ := fin v' w' h2 h3 h5
    exact ⟨A', c', w', g0, g1, hrun.trans (by rw [hv]), hg, hM', h6, h7⟩
section
variable {α : Type} {t e size bytes : Nat} {z : Value} {enc : α → List Value}
theorem wp_app2 {o : Oper} {a : Act} {K : Act → World → Prop} {Q : Exit → Act → World → Prop} (s x : Operand) (ho : o.op = .call { callee := .builtin .append, args := #[s, x], argTypes := #[t, t] })
    (ti : TI t e size bytes z) (he : ∀ a, (enc a).length = size) (h1 : ∀ a, ∀ u ∈ enc a, u.oneCell' = true) {w : World} {lo hi lo' hi' : Nat} {v vx : Value} {l xs : List α} {rest : List Loc} (hs : a.eval s = v) (hvx : a.eval x = vx)
    (hM : Mem (Loc.ow e size enc lo hi v l :: rest) w) (hA : Apart (fun k => lo ≤ k ∧ k < hi) rest) (hx : Rd size enc w lo' hi' vx xs) (hlen : (l.length + xs.length) * bytes ≤ 140737488355328) (hlen2 : l.length + xs.length ≤ 9223372036854775807) (hlo : lo ≤ w.heap.size)
    (h : ∀ A c w' g0 g1, (g0 = lo ∧ g1 = hi ∨ g0 = w.heap.size ∧ g1 = w.heap.size + 1 ∧ w.heap.size < w'.heap.size) → Mem (Loc.ow e size enc g0 g1 (.slice A (l.length + xs.length) c) (l ++ xs) :: rest) w' → w.heap.size ≤ w'.heap.size → Chg (fun k => lo ≤ k ∧ k < hi) w w' → K (a.put o.dst (.slice A (l.length + xs.length) c)) w') : o.wp Try.prog a w K Q := by
  obtain ⟨A, c, w', g0, g1, hrun, hg, h2, h3, h4⟩ := run_app2 ti he h1 w o.type hM hA hx hlen (by unfold maxLen; omega) hlo
  unfold Oper.wp execOp
  simp only [ho, resolve, invoke, builtin, Sem.run_bind, Sem.run_pure, Result.andThen_ok, List.map_toArray, List.map_cons, List.map_nil, hs, hvx, hrun]
  exact h A c w' g0 g1 hg h2 h3 h4
theorem wpList_app2 {ops : Array Oper} {restO : List Oper} {o : Oper} {a : Act} {Q : Exit → Act → World → Prop} (hgd : o.guard = none) (s x : Operand) (ho : o.op = .call { callee := .builtin .append, args := #[s, x], argTypes := #[t, t] })
    (ti : TI t e size bytes z) (he : ∀ a, (enc a).length = size) (h1 : ∀ a, ∀ u ∈ enc a, u.oneCell' = true) {w : World} {lo hi lo' hi' : Nat} {v vx : Value} {l xs : List α} {rest : List Loc} (hs : a.eval s = v) (hvx : a.eval x = vx)
    (hM : Mem (Loc.ow e size enc lo hi v l :: rest) w) (hA : Apart (fun k => lo ≤ k ∧ k < hi) rest) (hx : Rd size enc w lo' hi' vx xs) (hlen : (l.length + xs.length) * bytes ≤ 140737488355328) (hlen2 : l.length + xs.length ≤ 9223372036854775807) (hlo : lo ≤ w.heap.size)
    (h : ∀ A c w' g0 g1, (g0 = lo ∧ g1 = hi ∨ g0 = w.heap.size ∧ g1 = w.heap.size + 1 ∧ w.heap.size < w'.heap.size) → Mem (Loc.ow e size enc g0 g1 (.slice A (l.length + xs.length) c) (l ++ xs) :: rest) w' → w.heap.size ≤ w'.heap.size → Chg (fun k => lo ≤ k ∧ k < hi) w w' → wpList Try.prog ops Q restO (a.put o.dst (.slice A (l.length + xs.length) c)) w') : wpList Try.prog ops Q (o :: restO) a w :=
  wpList_plain hgd fun _ hK => wp_app2 s x ho ti he h1 hs hvx hM hA hx hlen hlen2 hlo fun A c w' g0 g1 hg h2 h3 h4 => hK _ _ (h A c w' g0 g1 hg h2 h3 h4)
end
end Go.Proofs.Ytmhbfoaecebobaa
end
section
namespace Go.Proofs.Ytmhbfoaecebobaa
set_option linter.unusedSimpArgs false
set_option linter.unusedVariables false
open Go.RowKit
abbrev encU (x : UInt8) : List Value := [.int .u8 x.toNat]
theorem ti_byte : TI 134 5 1 1 (.int .u8 0) := TI.mk Try.underlying134 (by kernel_rfl) rfl (by decide)
theorem RdU.lit1E (W : World) (x : UInt8) (t : TypeId) (b : Nat) (hb : W.heap.size = b) : Rd 1 encU (W.alloc (.cells #[.int .u8 x.toNat] t)) 0 (W.heap.size + 1) (.slice (some ⟨b, 0, none⟩) 1 1) [x] := by
  subst hb
  exact Rd.lit W t [x] _ 1 rfl rfl (by decide) (fun _ => rfl)
theorem bld_info : ∃ j, Try.prog.info? 136 = some j ∧ j.size = 2 := by
  have h : (Try.prog.info? 136).map (·.size) = some 2 := by kernel_rfl
  obtain ⟨j, h1, h2⟩ := Option.map_eq_some_iff.1 h
  exact ⟨j, h1, h2⟩
theorem bld_lies : liesAt Try.prog Try.prog.depth 136 (2 / Try.prog.cellsOf 136) 0 136 1 = true := by kernel_rfl
set_option maxHeartbeats 1000000 in
set_option maxRecDepth 100000 in
theorem copyCheck_new (g : Nat) (v : Value) (w : World) (hc : w.cell? ⟨g, 0, none⟩ = some (.pointer none)) (hf : w.frozen? ⟨g, 0, none⟩ = false) (hsh : w.shape? g = some (136, 2)) :
    Calls Try.prog 104 #[.pointer (some ⟨g, 0, none⟩)] w fun e w' => e = .returned (.tuple #[]) ∧ w' = w.setCell ⟨g, 0, none⟩ (.pointer (some ⟨g, 0, none⟩)) := by
  obtain ⟨j, hj, hjs⟩ := bld_info
  go_enter Try.func104, Try.ntmps104
  go_wp2
  rw [Lib.run_to_unsafe w ⟨g, 0, none⟩ Try.underlying133 Try.underlying160 hj (by rw [hjs]; decide) hsh (Nat.zero_lt_succ 1)]
  simp only [Result.andThen]
  rw [Oper.upon_value]
  go_wp2
  rw [run_callFunc_extern Try.func112 (by kernel_rfl) (by kernel_rfl) (by kernel_rfl) (e := Extern.AbiNoEscape.same) (by kernel_rfl)]
  rw [Lib.run_noEscape]
  simp only [Result.andThen]
  rw [Oper.upon_value]
  go_wp2
  rw [Lib.run_from_unsafe w ⟨g, 0, none⟩ Try.underlying160 Try.underlying133 hj hsh bld_lies]
  simp only [Result.andThen]
  rw [Oper.upon_value]
  go_wp2
  go_end0
  exact ⟨rfl, rfl⟩
set_option maxHeartbeats 1000000 in
set_option maxRecDepth 100000 in
theorem copyCheck_used (g : Nat) (w : World) (hc : w.cell? ⟨g, 0, none⟩ = some (.pointer (some ⟨g, 0, none⟩))) :
    Calls Try.prog 104 #[.pointer (some ⟨g, 0, none⟩)] w fun e w' => e = .returned (.tuple #[]) ∧ w' = w := by
  obtain ⟨j, hj, hjs⟩ := bld_info
  go_enter Try.func104, Try.ntmps104
  go_wp2
  rw [Lib.run_neq_ptr_same w _ Try.underlying133 hj]
  go_wp2
  go_end0
  exact ⟨rfl, rfl⟩
theorem copyCheck_any (B b : Nat) (bs : List Value) (w : World) (h : Lib.IsBuilder 136 5 B b bs w) :
    Calls Try.prog 104 #[.pointer (some ⟨b, 0, none⟩)] w fun e w' => e = .returned (.tuple #[]) ∧ (Lib.BuilderAt 136 5 B b (.pointer (some ⟨b, 0, none⟩)) bs w' ∧ Below B w w') := by
  rcases h with h | h
  · refine (copyCheck_new b (.bool true) w h.cell0 h.frozen0 h.shape).mono ?_
    rintro e w' ⟨rfl, rfl⟩
    exact ⟨rfl, h.used _, (Below.refl B w).setCell (p := ⟨b, 0, none⟩) h.1 _⟩
  · refine (copyCheck_used b w h.cell0).mono ?_
    rintro e w' ⟨rfl, rfl⟩
    exact ⟨rfl, h, Below.refl B _⟩
set_option maxHeartbeats 2000000 in
set_option maxRecDepth 100000 in
theorem writeByte_any (B b : Nat) (bs : List Value) (c : Int) (w : World) (h : Lib.IsBuilder 136 5 B b bs w) (hlen : bs.length + 1 ≤ 140737488355328) (hBw : B ≤ w.heap.size) :
    Calls Try.prog 84 #[.pointer (some ⟨b, 0, none⟩), .int .u8 c] w fun e w' => e = .returned .nilIface ∧ (Lib.BuilderAt 136 5 B b (.pointer (some ⟨b, 0, none⟩)) (bs ++ [.int .u8 c]) w' ∧ Below B w w') := by
  obtain ⟨i0, ht0, hi, hz0, hz1, hz2, hz3, hz4⟩ := ti_byte
  go_enter Try.func84, Try.ntmps84
  go_wp2_with (go_at_call 104; refine (copyCheck_any B b bs _ h).mono ?_)
  rintro e w1 ⟨rfl, h1, hb1⟩
  obtain ⟨hB, v, hbk, hown, hne⟩ := h1
  have c0 : w1.cell? ⟨b, 0, none⟩ = some (.pointer (some ⟨b, 0, none⟩)) := by rw [Lib.cell_of_heap hbk]; rfl
  have c1 : w1.cell? ⟨b, 1, none⟩ = some v := by rw [Lib.cell_of_heap hbk]; rfl
  go_wp2_with (at_builtin; refine wpList_append_own _ rfl _ _ 134 rfl B 5 i0 (.int .u8 0) 1 1 ht0 hi hz0 hz1 hz2 rfl (by decide) _ _ _ rfl (hown.alloc _) ⟨w1.heap.size, 0, none⟩ 1 1 [.int .u8 c] rfl rfl ?c1 ?c2 ?c3 ?c4 ?c5 ?_)
  case c1 =>
    intro j u hj
    match j, hj with
    | 0, hj => simp at hj; subst hj; simp [Addr.add]
  case c2 => intro u hu; simp at hu; subst hu; rfl
  case c3 => unfold maxLen; omega
  case c4 => omega
  case c5 => have := hb1.size; simp; omega
  intro v' w2 hown' hgrow _
  have hlt : b < w1.heap.size := by
    rcases Nat.lt_or_ge b w1.heap.size with h' | h'
    · exact h'
    · simp [Array.getElem?_eq_none h'] at hbk
  have hb2 : w2.heap[b]? = some (.cells #[.pointer (some ⟨b, 0, none⟩), v] 136 (0, 0)) := by
    rw [hgrow.block b (by simp; omega) (fun e => hne e.symm), Lib.alloc_old w1 _ b hlt]
    exact hbk
  have d0 : w2.cell? ⟨b, 0, none⟩ = some (.pointer (some ⟨b, 0, none⟩)) := by rw [Lib.cell_of_heap hb2]; rfl
  have d1 : w2.cell? ⟨b, 1, none⟩ = some v := by rw [Lib.cell_of_heap hb2]; rfl
  have f1 : w2.frozen? ⟨b, 1, none⟩ = false := Lib.frozen_of_heap hb2 1
  obtain ⟨g, cap, rfl⟩ : ∃ g cap, v' = .slice (some ⟨g, 0, none⟩) (bs.length + 1) cap := by
    rcases hown'.2 with ⟨_, h0⟩ | ⟨g, cap, cur, hv, _⟩
    · omega
    · exact ⟨g, cap, hv⟩
  go_wp2
  go_ret
  refine ⟨rfl, ?_, ?_⟩
  · exact Lib.BuilderAt.put (T := 136) (e := 5) hB hb2 (bs' := bs ++ [.int .u8 c]) (by simpa using hown') (by decide)
  · exact ((hb1.alloc (by have := hb1.size; omega) _).grown hgrow (by have := hb1.size; simp; omega) (fun k hk => (hown.lt k hk).1)).setCell (p := ⟨b, 1, none⟩) hB _
set_option maxHeartbeats 2000000 in
set_option maxRecDepth 100000 in
theorem bldString_any (B b : Nat) (l : List UInt8) (w : World) (h : Lib.IsBuilder 136 5 B b (Lib.byteCells l) w) (h0 : l ≠ []) :
    Calls Try.prog 85 #[.pointer (some ⟨b, 0, none⟩)] w fun e w' => e = .returned (.string ⟨l.toArray⟩) ∧ Below B w w' := by
  obtain ⟨p, hB, v, hbk, hown, hne⟩ : ∃ p, Lib.BuilderAt 136 5 B b p (Lib.byteCells l) w := by
    rcases h with h | h
    · exact ⟨_, h⟩
    · exact ⟨_, h⟩
  have hl0 : l.length ≠ 0 := by simpa using h0
  rw [Lib.byteCells_length] at hown
  obtain ⟨g, cap, cur, rfl, hbg, hg, hnc, hcm, hcs, htake⟩ : ∃ g cap cur, v = .slice (some ⟨g, 0, none⟩) l.length cap ∧ B ≤ g ∧ w.heap[g]? = some (.cells cur 5 (0, 0)) ∧ l.length ≤ cap ∧ cap ≤ maxLen ∧ cur.size = cap * 1 ∧ cur.toList.take (l.length * 1) = Lib.byteCells l := by
    rcases hown.2 with ⟨_, hz⟩ | ⟨g, cap, cur, hv, r⟩
    · exact absurd hz hl0
    · exact ⟨g, cap, cur, hv, r⟩
  have c1 : w.drew.cell? ⟨b, 1, none⟩ = some (.slice (some ⟨g, 0, none⟩) l.length cap) := by
    have : w.drew.heap[b]? = some (.cells #[p, .slice (some ⟨g, 0, none⟩) l.length cap] 136 (0, 0)) := hbk
    rw [Lib.cell_of_heap this]; rfl
  have hSD : (Builtin.unsafeSliceData_ #[134] 154 #[.slice (some ⟨g, 0, none⟩) l.length cap]).run Try.prog w.drew = .ok (.pointer (some ⟨g, 0, none⟩)) w.drew :=
    Lib.run_unsafeSliceData_row _ _ _ _ _ _ (by omega)
  have hUS : (Builtin.unsafeString_ #[154, 3] 9 #[.pointer (some ⟨g, 0, none⟩), .int .i64 l.length]).run Try.prog w.drew = .ok (.string ⟨l.toArray⟩) (w.drew.freeze ⟨g, 0, none⟩ l.length) := by
    refine Lib.run_unsafeString_row w.drew 154 3 9 5 Try.underlying154 (by kernel_rfl) g cur.size (by have hg' : w.drew.heap[g]? = some (.cells cur 5 (0, 0)) := hg; simp [World.shape?, hg']) l h0 (by omega) (by unfold maxLen at hcm; omega) ?_
    intro j x hx
    have := hown.cells (g := g) rfl j (.int .u8 x.toNat) (by simp [Lib.byteCells, hx])
    exact this
  go_enter Try.func85, Try.ntmps85
  go_wp2
  go_region
  all_goals (go_wp2; go_ret; exact ⟨rfl, Lib.below_freeze (Below.drew (Below.refl B w)) (p := ⟨g, 0, none⟩) hbg _⟩)
end Go.Proofs.Ytmhbfoaecebobaa
end
section
namespace Go.Proofs.Ytmhbfoaecebobaa
set_option linter.unusedSimpArgs false
set_option linter.unusedVariables false
open Go.RowKit
theorem heap_newK (w : World) (o : Obj) : (w.alloc o).heap[w.heap.size]? = some o := by
  show (w.heap.push o)[w.heap.size]? = some o
  simp
def keyL (m : List Int) : List UInt8 := m.flatMap fun n => [UInt8.ofNat n.toNat, 0]
theorem keyL_snoc (m : List Int) (n : Int) : keyL (m ++ [n]) = keyL m ++ [UInt8.ofNat n.toNat] ++ [0] := by simp [keyL]
theorem keyL_len (m : List Int) : (keyL m).length = 2 * m.length := by
  induction m with
  | nil => rfl
  | cons a m ih =>
    have : keyL (a :: m) = [UInt8.ofNat a.toNat, 0] ++ keyL m := rfl
    rw [this, List.length_append, ih]
    simp
    omega
theorem byte_of {n : Int} (h0 : 0 ≤ n) (h1 : n ≤ 255) : ((UInt8.ofNat n.toNat).toNat : Int) = n := by
  rw [UInt8.toNat_ofNat', Nat.mod_eq_of_lt (by omega)]
  omega
set_option maxHeartbeats 2000000 in
set_option maxRecDepth 100000 in
theorem key_any (m : List Int) (lo hi : Nat) (v : Value) (w : World) (hv : RdI w lo hi v m) (hm : ∀ x ∈ m, 0 ≤ x ∧ x ≤ 255) (hl : m.length ≤ 1000) (hne : m ≠ []) :
    Calls Try.prog 44 #[v] w fun e w' => e = .returned (.string ⟨(keyL m).toArray⟩) ∧ Below w.heap.size w w' := by
  obtain ⟨A, c, rfl, hc, hmm⟩ := hv.form
  have HV := Lib.hid hv
  have HM := Lib.hid hm
  clear hv hm
  have HB0 : Hid (Lib.IsBuilder 136 5 w.heap.size w.heap.size (Lib.byteCells (keyL (m.take 0))) (w.alloc (.cells #[.pointer none, .slice none 0 0] 136))) := Lib.hid (.inl ⟨Nat.le_refl _, .slice none 0 0, heap_newK w _, ⟨rfl, .inl ⟨rfl, rfl⟩⟩, by simp [Value.ownBlock]⟩)
  have HE : Hid (Below w.heap.size w (w.alloc (.cells #[.pointer none, .slice none 0 0] 136))) := Lib.hid ((Below.refl _ _).alloc (Nat.le_refl _) _)
  refine zax fun R hR => ?_
  have HR := Lib.hid hR
  clear hR
  go_enter Try.func44, Try.ntmps44
  go_wp2_with fail
  go_loopw [8, 5] (fun v8 _ wr => ∃ k : Nat, k ≤ m.length ∧ v8 = .int .i64 k ∧ Hid (Lib.IsBuilder 136 5 w.heap.size w.heap.size (Lib.byteCells (keyL (m.take k))) wr) ∧ Hid (Below w.heap.size w wr)) (fun v8 _ _ => m.length - (intOf v8).toNat)
  case atStart => exact ⟨0, Nat.zero_le _, rfl, HB0, HE⟩
  case round =>
    clear HB0 HE
    obtain ⟨k, hk, rfl, HB, HE⟩ := hrel
    by_cases hlt : k < m.length
    · obtain ⟨b, off, rfl, _, _, hcell⟩ := RdI.at1 (HV.out.after HE.out) hlt
      obtain ⟨h0, h1⟩ := HM.out _ (List.mem_of_getElem? (gti_get hlt))
      have HBX : Hid (0 ≤ gti m k ∧ gti m k ≤ 255) := Lib.hid ⟨h0, h1⟩
      obtain ⟨x, hx⟩ : ∃ x, gti m k = x := ⟨_, rfl⟩
      have HGX := Lib.hid hx
      rw [hx] at hcell h0 h1
      clear hx
      go_wp2_with fail
      have HL : Hid ((Lib.byteCells (keyL (m.take k))).length ≤ 2000) := Lib.hid (by rw [Lib.byteCells_length, keyL_len, List.length_take]; omega)
      refine (writeByte_any _ _ _ x _ HB.out (by have := HL.out; omega) HE.out.size).mono ?_
      rintro e w1 ⟨rfl, hb1, hw1⟩
      have HB1 := Lib.hid hb1
      have HE1 := Lib.hid (HE.out.trans hw1)
      clear hb1 hw1
      have HX : Hid (x / 256 = 0) := Lib.hid (by omega)
      have HT : Hid (Lib.byteCells (keyL (m.take k)) ++ [.int .u8 x] ++ [.int .u8 0] = Lib.byteCells (keyL (m.take (k + 1)))) := Lib.hid (by
        rw [List.take_add_one, gti_get hlt]
        simp only [Option.toList]
        rw [keyL_snoc, HGX.out]
        simp only [Lib.byteCells, List.map_append, List.map_cons, List.map_nil]
        rw [byte_of h0 h1]
        rfl)
      go_wp2_with fail
      rw [HX.out]
      refine (writeByte_any _ _ _ 0 _ (.inr HB1.out) (by have := HL.out; simp; omega) HE1.out.size).mono ?_
      rintro e w2 ⟨rfl, hb2, hw2⟩
      rw [HT.out] at hb2
      have HB2 := Lib.hid hb2
      have HE2 := Lib.hid (HE1.out.trans hw2)
      clear hb2 hw2
      go_wp2_with fail
      exact ⟨⟨k + 1, by omega, by go_num, Lib.hid (.inr HB2.out), HE2⟩, by simp [intOf]; omega⟩
    · obtain rfl : k = m.length := by omega
      rw [List.take_length] at HB
      go_wp2_with (go_at_call 85; refine (bldString_any _ _ (keyL m) _ HB.out (by intro e; have := keyL_len m; rw [e] at this; simp at this; exact hne (List.eq_nil_of_length_eq_zero (by omega)))).mono ?_; rintro e w1 ⟨rfl, hb⟩; replace HE := Lib.hid (HE.out.trans hb); clear hb)
      exact HR.out _ _ ⟨rfl, HE.out⟩
end Go.Proofs.Ytmhbfoaecebobaa
end
section
namespace Go.Proofs.Ytmhbfoaecebobaa
set_option linter.unusedSimpArgs false
set_option linter.unusedVariables false
open Go.RowKit
def allN : List ByteArray → Bool
  | [] => true
  | a :: l => if nameB a then allN l else false
theorem allN_eq : ∀ l, allN l = l.all nameB
  | [] => rfl
  | a :: l => by rw [allN, allN_eq l, List.all_cons]; cases nameB a <;> rfl
theorem ent_named1 : Ent 69 := ent_of Try.func69 (by kernel_rfl) rfl
set_option maxHeartbeats 400000 in
theorem named1_any (a : ByteArray) (w : World) : Calls Try.prog 69 #[.string a] w fun e w' => e = .returned (.bool (!nameB a)) ∧ Below w.heap.size w w' := by
  refine zax fun R hR => ?_
  have HR := Lib.hid hR
  clear hR
  go_enter Try.func69, Try.ntmps69
  go_wp2_with fail
  refine (isName_any _ _).mono ?_
  rintro e w1 ⟨rfl, hb1⟩
  have HB1 := Lib.hid hb1
  clear hb1
  go_wp2
  exact HR.out _ _ ⟨rfl, HB1.out⟩
set_option maxHeartbeats 400000 in
theorem named_any (l : List ByteArray) (lo hi : Nat) (v : Value) (w : World) (hv : RdS w lo hi v l) :
    Calls Try.prog 28 #[v] w fun e w' => e = .returned (.bool (allN l)) ∧ Below w.heap.size w w' := by
  have HC := Lib.hid (containsFS_any 69 ent_named1 #[] (fun a => !nameB a) l lo hi v w hv (fun a _ W _ => named1_any a W))
  obtain ⟨A, c, rfl, hc, hm⟩ := hv.form
  clear hv
  refine zax fun R hR => ?_
  have HR := Lib.hid hR
  clear hR
  go_enter Try.func28, Try.ntmps28
  go_wp2_with fail
  refine HC.out.mono ?_
  rintro e w1 ⟨rfl, hb1⟩
  have HB1 := Lib.hid hb1
  clear hb1
  go_wp2
  refine HR.out _ _ ⟨congrArg (fun b => Ending.returned (.bool b)) ?_, HB1.out⟩
  rw [allN_eq]
  simp [List.all_eq_not_any_not]
end Go.Proofs.Ytmhbfoaecebobaa
end
section
namespace Go.Proofs.Ytmhbfoaecebobaa
set_option linter.unusedSimpArgs false
set_option linter.unusedVariables false
open Go.RowKit
structure Nd where
  k : Int
  m : List Int
  run : List Int
  deriving Inhabited
def silB (n : Net) (t : Nat) : Bool := (gti n.trans t).label.toList.isEmpty
def stepS (n : Net) (x : Nd) (q : List Nd) (t : Nat) : List Nd :=
  if silB n t = false ∨ q.length = 200 then q
  else if (FireE n x.m t).2 ≠ 0 ∨ (FireE n x.m t).1 ∈ q.map Nd.m then q
  else q ++ [⟨0, (FireE n x.m t).1, x.run ++ [(t : Int)]⟩]
def roundS (n : Net) (x : Nd) (q : List Nd) : Nat → List Nd
  | 0 => q
  | k + 1 => stepS n x (roundS n x q k) k
def srch (n : Net) (good : List Int → Bool) : Nat → Nat → List Nd → Option (List Int)
  | 0, _, _ => none
  | f + 1, i, q => if i < q.length then if good (gti q i).m then some (gti q i).run else srch n good f (i + 1) (roundS n (gti q i) q n.trans.length) else none
def silE (n : Net) (good : List Int → Bool) (m : List Int) : Option (List Int) := srch n good 201 0 [⟨0, m, []⟩]
def runTo (n : Net) : List Int → List Int → Option (List Int)
  | m, [] => some m
  | m, t :: l => if 0 ≤ t ∧ t < n.trans.length ∧ (FireE n m t).2 = 0 then runTo n (FireE n m t).1 l else none
theorem runTo_snoc {n : Net} : ∀ {l : List Int} {m m' : List Int} {t : Int}, runTo n m l = some m' → 0 ≤ t → t < n.trans.length → (FireE n m' t).2 = 0 → runTo n m (l ++ [t]) = some (FireE n m' t).1
  | [], m, m', t, h, h1, h2, h3 => by
    simp only [runTo, Option.some.injEq] at h
    subst h
    simp [runTo, h1, h2, h3]
  | a :: l, m, m', t, h, h1, h2, h3 => by
    rw [runTo] at h
    rw [List.cons_append, runTo]
    split at h
    · rename_i hc
      rw [if_pos hc]
      exact runTo_snoc h h1 h2 h3
    · cases h
structure QI (n : Net) (m0 : List Int) (q : List Nd) : Prop where
  len : q.length ≤ 200
  at_ : ∀ i, i < q.length → markB n (gti q i).m = true ∧ (gti q i).run.length ≤ i ∧ runTo n m0 (gti q i).run = some (gti q i).m
theorem gti_app {α : Type} [Inhabited α] (a b : List α) (i : Nat) : gti (a ++ b) i = if i < a.length then gti a i else gti b (i - a.length) := by
  unfold gti
  split
  · rename_i h; rw [List.getElem?_append_left h]
  · rename_i h; rw [List.getElem?_append_right (by omega)]
theorem FireE_mark {n : Net} {m : List Int} {t : Int} (hm : markB n m = true) (h : (FireE n m t).2 = 0) : markB n (FireE n m t).1 = true := by
  unfold FireE at h ⊢
  rw [if_pos hm] at h ⊢
  exact fireE_mark hm h
theorem QI.init {n : Net} {m0 : List Int} (h : markB n m0 = true) : QI n m0 [⟨0, m0, []⟩] :=
  ⟨by simp, fun i hi => by
    obtain rfl : i = 0 := by simpa using hi
    exact ⟨h, by simp [gti], rfl⟩⟩
theorem stepS_pre (n : Net) (x : Nd) (q : List Nd) (t : Nat) : ∃ r, stepS n x q t = q ++ r := by
  unfold stepS
  split
  · exact ⟨[], by simp⟩
  · split
    · exact ⟨[], by simp⟩
    · exact ⟨_, rfl⟩
theorem roundS_pre (n : Net) (x : Nd) (q : List Nd) : ∀ k, ∃ r, roundS n x q k = q ++ r
  | 0 => ⟨[], by simp [roundS]⟩
  | k + 1 => by
    obtain ⟨r, hr⟩ := roundS_pre n x q k
    obtain ⟨r', hr'⟩ := stepS_pre n x (roundS n x q k) k
    exact ⟨r ++ r', by rw [roundS, hr', hr, List.append_assoc]⟩
theorem QI.step {n : Net} {m0 : List Int} {q : List Nd} (h : QI n m0 q) {i : Nat} (hi : i < q.length) {t : Nat} (ht : t < n.trans.length) : QI n m0 (stepS n (gti q i) q t) := by
  unfold stepS
  split
  · exact h
  · rename_i h1
    split
    · exact h
    · rename_i h2
      obtain ⟨hm, hl, hr⟩ := h.at_ i hi
      have h2' : (FireE n (gti q i).m t).2 = 0 := by
        rcases Decidable.em ((FireE n (gti q i).m t).2 = 0) with h | h
        · exact h
        · exact absurd (.inl h) h2
      refine ⟨?_, fun j hj => ?_⟩
      · have := h.len
        have : q.length ≠ 200 := fun e => h1 (.inr e)
        simp
        omega
      · rw [gti_app]
        split
        · rename_i hjl; exact h.at_ j hjl
        · rename_i hjl
          have : j - q.length = 0 := by simp at hj; omega
          rw [this]
          refine ⟨FireE_mark hm h2', ?_, runTo_snoc hr (by omega) (by omega) h2'⟩
          simp [gti]
          unfold gti at hl
          omega
theorem gti_pre {α : Type} [Inhabited α] {a b : List α} {i : Nat} (h : i < a.length) : gti (a ++ b) i = gti a i := by rw [gti_app, if_pos h]
theorem roundS_at {n : Net} {q : List Nd} {i : Nat} (hi : i < q.length) (x : Nd) (k : Nat) : i < (roundS n x q k).length ∧ gti (roundS n x q k) i = gti q i := by
  obtain ⟨r, hr⟩ := roundS_pre n x q k
  rw [hr, gti_pre hi]
  exact ⟨by simp; omega, rfl⟩
theorem QI.round {n : Net} {m0 : List Int} {q : List Nd} (h : QI n m0 q) {i : Nat} (hi : i < q.length) : ∀ {k : Nat}, k ≤ n.trans.length → QI n m0 (roundS n (gti q i) q k)
  | 0, _ => h
  | k + 1, hk => by
    obtain ⟨h1, h2⟩ := roundS_at (n := n) hi (gti q i) k
    have := (QI.round h hi (k := k) (by omega)).step h1 (t := k) (by omega)
    rw [h2] at this
    exact this
theorem srch_some {n : Net} {good : List Int → Bool} {m0 : List Int} : ∀ {f i : Nat} {q : List Nd} {way : List Int}, QI n m0 q → srch n good f i q = some way → ∃ m', runTo n m0 way = some m' ∧ good m' = true ∧ markB n m' = true ∧ way.length < 200
  | 0, i, q, way, _, h => by cases h
  | f + 1, i, q, way, hq, h => by
    rw [srch] at h
    split at h
    · rename_i hi
      split at h
      · rename_i hg
        injection h with h
        subst h
        obtain ⟨h1, h2, h3⟩ := hq.at_ i hi
        exact ⟨_, h3, hg, h1, by have := hq.len; omega⟩
      · exact srch_some (hq.round hi (Nat.le_refl _)) h
    · cases h
theorem silE_some {n : Net} {good : List Int → Bool} {m : List Int} {way : List Int} (hm : markB n m = true) (h : silE n good m = some way) : ∃ m', runTo n m way = some m' ∧ good m' = true ∧ markB n m' = true ∧ way.length < 200 := srch_some (QI.init hm) h
theorem keyL_inj : ∀ {a b : List Int}, (∀ x ∈ a, 0 ≤ x ∧ x ≤ 255) → (∀ x ∈ b, 0 ≤ x ∧ x ≤ 255) → keyL a = keyL b → a = b
  | [], [], _, _, _ => rfl
  | [], y :: b, _, _, h => by simp [keyL] at h
  | x :: a, [], _, _, h => by simp [keyL] at h
  | x :: a, y :: b, ha, hb, h => by
    have e1 : keyL (x :: a) = [UInt8.ofNat x.toNat, 0] ++ keyL a := rfl
    have e2 : keyL (y :: b) = [UInt8.ofNat y.toNat, 0] ++ keyL b := rfl
    rw [e1, e2] at h
    simp only [List.cons_append, List.nil_append, List.cons.injEq, true_and] at h
    have hx := ha x (List.mem_cons_self ..)
    have hy := hb y (List.mem_cons_self ..)
    have h1 := byte_of hx.1 hx.2
    have h2 := byte_of hy.1 hy.2
    rw [h.1, h2] at h1
    rw [h1, keyL_inj (fun z hz => ha z (List.mem_cons_of_mem _ hz)) (fun z hz => hb z (List.mem_cons_of_mem _ hz)) h.2]
theorem mem_gti' {α : Type} [Inhabited α] {l : List α} {a : α} (h : a ∈ l) : ∃ k, k < l.length ∧ gti l k = a := by
  obtain ⟨k, hk, rfl⟩ := List.getElem_of_mem h
  exact ⟨k, hk, by unfold gti; rw [List.getElem?_eq_getElem hk]; rfl⟩
theorem markB_small {n : Net} {m : List Int} (h : markB n m = true) : ∀ x ∈ m, 0 ≤ x ∧ x ≤ 255 := by
  intro x hx
  unfold markB at h
  simp only [Bool.and_eq_true] at h
  obtain ⟨k, _, rfl⟩ := mem_gti' hx
  have := mark2B_at h.2 k
  omega
theorem markB_len {n : Net} {m : List Int} (h : markB n m = true) : 1 ≤ m.length ∧ m.length ≤ 40 ∧ (m.length : Int) = n.places := by
  unfold markB at h
  simp only [Bool.and_eq_true] at h
  have := mark2B_len h.2
  have := za8 h.1
  omega
def keysOf (q : List Nd) : List (List UInt8) := (q.map fun x => keyL x.m).reverse
theorem keysOf_snoc (q : List Nd) (x : Nd) : keysOf (q ++ [x]) = keyL x.m :: keysOf q := by simp [keysOf]
theorem keysOf_len (q : List Nd) : (keysOf q).length = q.length := by simp [keysOf]
theorem QI.key {n : Net} {m0 : List Int} {q : List Nd} (h : QI n m0 q) {m : List Int} (hm : markB n m = true) : decide (keyL m ∈ keysOf q) = decide (m ∈ q.map Nd.m) := by
  rw [decide_eq_decide]
  unfold keysOf
  rw [List.mem_reverse]
  constructor
  · intro hk
    obtain ⟨x, hx, e⟩ := List.mem_map.1 hk
    obtain ⟨i, hi, rfl⟩ := mem_gti' hx
    have := keyL_inj (markB_small (h.at_ i hi).1) (markB_small hm) e
    exact List.mem_map.2 ⟨_, hx, this⟩
  · intro hk
    obtain ⟨x, hx, rfl⟩ := List.mem_map.1 hk
    exact List.mem_map.2 ⟨x, hx, rfl⟩
end Go.Proofs.Ytmhbfoaecebobaa
end
