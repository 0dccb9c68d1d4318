/-
  Walks of petri's one, Initial, Final, marking, enabled, Enabled, and of casebookref22's one, Initial, Final. Conditions: none.
-/
import Derived.Test.YtmhbfoaecebobaaValid2
import Derived.Test.YtmhbfoaecebobaaOwn
namespace Go.Proofs.Ytmhbfoaecebobaa
set_option linter.unusedSimpArgs false
set_option linter.unusedVariables false
open Go.RowKit

theorem oneI : ∀ a : Int, ∀ u ∈ encI a, u.oneCell' = true := by intro a u hu; simp at hu; subst hu; rfl
/-- a list and an error number, returned: the list lies in new memory -/
def RetI (w : World) (r : List Int × Int) (e : Ending) (w' : World) : Prop :=
  ∃ A c, e = .returned (.tuple #[.slice A r.1.length c, .int .i64 r.2]) ∧ RdI w' w.heap.size w'.heap.size (.slice A r.1.length c) r.1 ∧ Below w.heap.size w w'
theorem RetI.nil {w w' : World} {r : List Int × Int} {c : Int} (h : r = ([], c)) (hb : Below w.heap.size w w') : RetI w r (.returned (.tuple #[.slice none 0 0, .int .i64 c])) w' := by
  subst h
  exact ⟨none, 0, rfl, Rd.nil _ _ _, hb⟩
theorem RetI.mk {w w' : World} {r : List Int × Int} {l : List Int} {n k : Nat} {A : Option Addr} {c : Int} (h : r = (l, c)) (hn : n = l.length) {lo hi : Nat} (hr : RdI w' lo hi (.slice A n k) l) (hlo : w.heap.size ≤ lo) (hhi : hi ≤ w'.heap.size) (hb : Below w.heap.size w w') : RetI w r (.returned (.tuple #[.slice A n k, .int .i64 c])) w' := by
  subst h hn
  exact ⟨A, k, rfl, hr.mono hlo hhi, hb⟩

def oneL (k : Nat) (p : Int) : List Int := (List.replicate k 0).set p.toNat 1
def oneE (n : Net) (p : Int) : List Int × Int := if validB n then (oneL n.places.toNat p, 0) else ([], 1)
theorem validB_ends {n : Net} (h : validB n = true) : (0 ≤ n.source ∧ n.source < n.places) ∧ (0 ≤ n.sink ∧ n.sink < n.places) := by
  rw [← valid2_eq] at h
  unfold valid2B at h
  split at h
  · cases h
  · omega
theorem validB_places {n : Net} (h : validB n = true) : 1 ≤ n.places ∧ n.places ≤ 40 ∧ n.trans.length ≤ 60 := by
  unfold validB at h
  split at h
  · cases h
  · omega

theorem valid_is {n : Net} {b : Bool} (hb : validB n = b) (vt : Value) (lo hi : Nat) (w : World) (hv : RdT w lo hi vt n.trans) :
    Calls Try.prog 54 #[netV n vt] w fun e w' => e = .returned (.bool b) ∧ Below w.heap.size w w' := hb ▸ valid_any n vt lo hi w hv
theorem rvalid_is {n : Net} {b : Bool} (hb : validB n = b) (vt : Value) (lo hi : Nat) (w : World) (hv : RdT w lo hi vt n.trans) :
    Calls Try.prog 49 #[netV n vt] w fun e w' => e = .returned (.bool b) ∧ Below w.heap.size w w' := hb ▸ rvalid_any n vt lo hi w hv
theorem mk_int {x : Int} {k : Nat} (h : x = k) (hk : k ≤ 1000000) : ∀ w : World, (Instr.makeSlice 30 (.int .i64 x) (.int .i64 x)).run Try.prog w = .ok (.slice (some ⟨w.heap.size, 0, none⟩) k k) (w.alloc (.cells (madeCells #[.int .i64 0] k) 3)) := by
  intro w
  subst h
  have := run_mk ti_int w k (by omega) (by omega)
  rw [Nat.mul_one] at this
  exact this
theorem OwnI.made (W : World) (n : Nat) (hn : n ≤ 1000000) : OwnI (W.alloc (.cells (madeCells #[.int .i64 0] n) 3)) W.heap.size (W.heap.size + 1) (.slice (some ⟨W.heap.size, 0, none⟩) n n) (List.replicate n 0) := by
  have := Own.made (enc := encI) ti_int W W.heap.size n 0 rfl (Nat.le_refl _) (by omega) (fun _ => rfl)
  rw [Nat.mul_one] at this
  exact this

theorem set_new (W : World) (cs : Array Value) (t : TypeId) (k : Nat) (u : Value) : (W.alloc (.cells cs t)).setCell ⟨W.heap.size, k, none⟩ u = W.alloc (.cells (cs.setIfInBounds k u) t) := by
  simp [go_sem]
set_option maxHeartbeats 1000000 in
theorem one_any (n : Net) (p : Int) (vt : Value) (lo hi : Nat) (w : World) (hv : RdT w lo hi vt n.trans) (hp : validB n = true → 0 ≤ p ∧ p < n.places) :
    Calls Try.prog 70 #[netV n vt, .int .i64 p] w (RetI w (oneE n p)) := by
  obtain ⟨A, c, rfl, hc, hm⟩ := hv.form
  have HV := Lib.hid hv
  clear hv
  cases hvb : validB n
  · have HVB := Lib.hid hvb
    clear hvb hp
    refine calls_cps fun R hR => ?_
    have HR := Lib.hid hR
    clear hR
    go_enter Try.func70, Try.ntmps70
    have M : Hid (Mem [Loc.k4 w.heap.size (.int .i64 n.places) (.slice A n.trans.length c) (.int .i64 n.source) (.int .i64 n.sink), Loc.bl w.heap.size w] (w.alloc (.cells #[.int .i64 n.places, .slice A n.trans.length c, .int .i64 n.source, .int .i64 n.sink] 24))) := Lib.hid ⟨K4.new w _ _ _ _ _, ⟨(Below.refl _ _).alloc (Nat.le_refl _) _, by simp⟩, True.intro⟩
    have hk4 := M.out.1
    go_wp2_with (go_at_call 54; refine (valid_is HVB.out _ lo hi _ (HV.out.after M.out.2.1.1)).mono ?_; rintro e w1 ⟨rfl, hb1⟩; replace M := Lib.hid (M.out.below hb1); clear hb1; replace hk4 := M.out.1)
    exact HR.out _ _ (RetI.nil (by rw [oneE, HVB.out]; rfl) M.out.2.1.1)
  · have HVB := Lib.hid hvb
    have hpl := validB_places hvb
    have hpp := hp hvb
    clear hvb hp
    obtain ⟨np, hnp⟩ : ∃ k : Nat, n.places = k := ⟨n.places.toNat, by omega⟩
    obtain ⟨kp, rfl⟩ : ∃ k : Nat, p = k := ⟨p.toNat, by omega⟩
    have hlt : kp < np := by omega
    have hmk := mk_int hnp (by omega)
    have HNP := Lib.hid hnp
    have hn40 : np ≤ 40 := by omega
    clear hnp hpl hpp
    refine calls_cps fun R hR => ?_
    have HR := Lib.hid hR
    clear hR
    go_enter Try.func70, Try.ntmps70
    have M : Hid (Mem [Loc.k4 w.heap.size (.int .i64 n.places) (.slice A n.trans.length c) (.int .i64 n.source) (.int .i64 n.sink), Loc.bl w.heap.size w] (w.alloc (.cells #[.int .i64 n.places, .slice A n.trans.length c, .int .i64 n.source, .int .i64 n.sink] 24))) := Lib.hid ⟨K4.new w _ _ _ _ _, ⟨(Below.refl _ _).alloc (Nat.le_refl _) _, by simp⟩, True.intro⟩
    have hk4 := M.out.1
    go_wp2_with (first
      | (go_at_call 54; refine (valid_is HVB.out _ lo hi _ (HV.out.after M.out.2.1.1)).mono ?_; rintro e w1 ⟨rfl, hb1⟩; replace M := Lib.hid (M.out.below hb1); clear hb1; replace hk4 := M.out.1; have HO := Lib.hid (OwnI.made w1 np (by omega)); have hat := OwnI.at1 HO.out (k := kp) (by simp; omega)))
    refine HR.out _ _ (RetI.mk (l := oneL np kp) (by simp [oneE, HVB.out, HNP.out]) (by simp [oneL]) (Own.rd (set_new w1 _ _ kp _ ▸ OwnI.set HO.out kp 1)) M.out.2.1.2 (by simp) ?_)
    exact (M.out.2.1.1).alloc M.out.2.1.2 _

set_option maxHeartbeats 400000 in
theorem initial_any (n : Net) (vt : Value) (lo hi : Nat) (w : World) (hv : RdT w lo hi vt n.trans) :
    Calls Try.prog 29 #[netV n vt] w (RetI w (oneE n n.source)) := by
  have HV := Lib.hid hv
  have HP := Lib.hid (@validB_ends n)
  obtain ⟨A, c, rfl, hc, hm⟩ := hv.form
  clear hv
  refine calls_cps fun R hR => ?_
  have HR := Lib.hid hR
  clear hR
  go_enter Try.func29, Try.ntmps29
  have M : Hid (Mem [Loc.k4 w.heap.size (.int .i64 n.places) (.slice A n.trans.length c) (.int .i64 n.source) (.int .i64 n.sink), Loc.bl w.heap.size w] (w.alloc (.cells #[.int .i64 n.places, .slice A n.trans.length c, .int .i64 n.source, .int .i64 n.sink] 24))) := Lib.hid ⟨K4.new w _ _ _ _ _, ⟨(Below.refl _ _).alloc (Nat.le_refl _) _, by simp⟩, True.intro⟩
  have hk4 := M.out.1
  go_wp2_with (go_at_call 70; refine (one_any n _ _ lo hi _ (HV.out.after M.out.2.1.1) (fun h => (HP.out h).1)).mono ?_; rintro e w1 ⟨A1, c1, rfl, hr1, hb1⟩; have HR1 := Lib.hid hr1; replace M := Lib.hid (M.out.below hb1); clear hb1 hr1)
  exact HR.out _ _ ⟨_, _, rfl, (HR1.out.mono (by simp) (Nat.le_refl _)), M.out.2.1.1⟩

set_option maxHeartbeats 400000 in
theorem final_any (n : Net) (vt : Value) (lo hi : Nat) (w : World) (hv : RdT w lo hi vt n.trans) :
    Calls Try.prog 42 #[netV n vt] w (RetI w (oneE n n.sink)) := by
  have HV := Lib.hid hv
  have HP := Lib.hid (@validB_ends n)
  obtain ⟨A, c, rfl, hc, hm⟩ := hv.form
  clear hv
  refine calls_cps fun R hR => ?_
  have HR := Lib.hid hR
  clear hR
  go_enter Try.func42, Try.ntmps42
  have M : Hid (Mem [Loc.k4 w.heap.size (.int .i64 n.places) (.slice A n.trans.length c) (.int .i64 n.source) (.int .i64 n.sink), Loc.bl w.heap.size w] (w.alloc (.cells #[.int .i64 n.places, .slice A n.trans.length c, .int .i64 n.source, .int .i64 n.sink] 24))) := Lib.hid ⟨K4.new w _ _ _ _ _, ⟨(Below.refl _ _).alloc (Nat.le_refl _) _, by simp⟩, True.intro⟩
  have hk4 := M.out.1
  go_wp2_with (go_at_call 70; refine (one_any n _ _ lo hi _ (HV.out.after M.out.2.1.1) (fun h => (HP.out h).2)).mono ?_; rintro e w1 ⟨A1, c1, rfl, hr1, hb1⟩; have HR1 := Lib.hid hr1; replace M := Lib.hid (M.out.below hb1); clear hb1 hr1)
  exact HR.out _ _ ⟨_, _, rfl, (HR1.out.mono (by simp) (Nat.le_refl _)), M.out.2.1.1⟩

def markB (n : Net) (m : List Int) : Bool := validB n && mark2B n m
theorem all01_any : ∀ m : List Int, all01 m = !m.any fun k => decide (k < 0) || decide (100 < k)
  | [] => rfl
  | k :: l => by
    simp only [all01, List.any_cons]
    rw [all01_any l]
    grind
theorem ent_marking1 : Ent 96 := ent_of Try.func96 (by kernel_rfl) rfl
set_option maxHeartbeats 400000 in
theorem marking1_any (k : Int) (w : World) : Calls Try.prog 96 #[.int .i64 k] w fun e w' => e = .returned (.bool (decide (k < 0) || decide (100 < k))) ∧ Below w.heap.size w w' := by
  refine calls_cps fun R hR => ?_
  have HR := Lib.hid hR
  clear hR
  go_enter Try.func96, Try.ntmps96
  go_wp2_with fail
  all_goals (refine HR.out _ _ ⟨ret_bool ?_, Below.refl _ _⟩ <;> (go_light; grind))

set_option maxHeartbeats 1000000 in
theorem marking_any (n : Net) (m : List Int) (vt v : Value) (lo hi lo' hi' : Nat) (w : World) (hv : RdT w lo hi vt n.trans) (hm : RdI w lo' hi' v m) :
    Calls Try.prog 62 #[netV n vt, v] w fun e w' => e = .returned (.bool (markB n m)) ∧ Below w.heap.size w w' := by
  have HC := Lib.hid (fun (W : World) (hW : Below w.heap.size w W) => containsFI_any 96 ent_marking1 #[] (fun k => decide (k < 0) || decide (100 < k)) m lo' hi' v W (hm.after hW) (fun a _ W _ => marking1_any a W))
  obtain ⟨A, c, rfl, hc, hmm⟩ := hv.form
  obtain ⟨A2, c2, rfl, hc2, hmm2⟩ := hm.form
  have HV := Lib.hid hv
  clear hv hm
  refine calls_cps fun R hR => ?_
  have HR := Lib.hid hR
  clear hR
  go_enter Try.func62, Try.ntmps62
  have M : Hid (Mem [Loc.k4 w.heap.size (.int .i64 n.places) (.slice A n.trans.length c) (.int .i64 n.source) (.int .i64 n.sink), Loc.bl w.heap.size w] (w.alloc (.cells #[.int .i64 n.places, .slice A n.trans.length c, .int .i64 n.source, .int .i64 n.sink] 24))) := Lib.hid ⟨K4.new w _ _ _ _ _, ⟨(Below.refl _ _).alloc (Nat.le_refl _) _, by simp⟩, True.intro⟩
  have hk4 := M.out.1
  go_wp2_with (first
    | (go_at_call 54; refine (valid_any n _ lo hi _ (HV.out.after M.out.2.1.1)).mono ?_; rintro e w1 ⟨rfl, hb1⟩; replace M := Lib.hid (M.out.below hb1); clear hb1; replace hk4 := M.out.1)
    | (go_at_call 95; refine (HC.out _ M.out.2.1.1).mono ?_; rintro e w1 ⟨rfl, hb1⟩; replace M := Lib.hid (M.out.below hb1); clear hb1; replace hk4 := M.out.1))
  all_goals ((with_reducible refine HR.out _ _ ⟨?_, ?_⟩) <;> first | exact ret_bool (by go_light; simp only [markB, mark2B, all01_any]; grind) | exact M.out.2.1.1)
end Go.Proofs.Ytmhbfoaecebobaa
