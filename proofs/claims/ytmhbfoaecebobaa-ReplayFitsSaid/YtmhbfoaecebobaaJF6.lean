/-
  Texts joined: Fire, SlA, Tst, Fire2, Fire3, WfP, Bool, Cls. Conditions: none.
-/
import Derived.Test.YtmhbfoaecebobaaJF5
import Derived.Lib.SliceRun
import Derived.Test.YtmhbfoaecebobaaJF4
import Derived.StillTailTactics
import Derived.Test.YtmhbfoaecebobaaJF3
section
namespace Go.Proofs.Ytmhbfoaecebobaa
set_option linter.unusedSimpArgs false
set_option linter.unusedVariables false
open Go.RowKit

set_option maxRecDepth 100000 in
set_option maxHeartbeats 1000000 in
theorem clone_any (l : List Int) (v : Value) (lo hi : Nat) (w : World) (hv : RdI w lo hi v l) (hl : l.length ≤ 1000000) :
    Calls Try.prog 46 #[v] w fun e w' => ∃ A c, e = .returned (.slice A l.length c) ∧ OwnI w' w.heap.size w'.heap.size (.slice A l.length c) l ∧ Below w.heap.size w w' := by
  have hq : ∀ (w : World) (a : Option Addr) (n c n' c' : Nat), (binOp .eql 30 (.slice a n c) (.slice none n' c')).run Try.prog w = .ok (.bool a.isNone) w := fun w a n c n' c' => Lib.run_eql_slice_nil w _ _ a n c n' c' Try.underlying30
  obtain ⟨A, c, rfl, hc, hm⟩ := hv.form
  have HV := Lib.hid hv
  have HL := Lib.hid hl
  clear hl
  rcases A with _ | ad
  · have hnil : l = [] := by
      rcases Nat.eq_zero_or_pos l.length with h0 | h0
      · exact List.eq_nil_of_length_eq_zero h0
      · obtain ⟨b, off, h, _⟩ := RdC.cells hv h0
        cases h
    clear hv
    subst hnil
    refine calls_cps fun R hR => ?_
    have HR := Lib.hid hR
    clear hR
    go_enter Try.func46, Try.ntmps46
    go_wp2_with fail
    exact HR.out _ _ ⟨none, 0, rfl, Own.nil _ _ _, Below.refl _ _⟩
  · clear hv
    refine calls_cps fun R hR => ?_
    have HR := Lib.hid hR
    clear hR
    go_enter Try.func46, Try.ntmps46
    have M : Hid (Mem [Loc.owI w.heap.size (w.heap.size + 1) (.slice (some ⟨w.heap.size, 0, none⟩) 0 0) [], Loc.bl w.heap.size w] (w.alloc (.cells #[] 3))) := Lib.hid ⟨Own.lit w 3 w.heap.size [] #[] 0 rfl rfl (Nat.le_refl _) (Nat.zero_le _) (fun _ => rfl), ⟨(Below.refl _ _).alloc (Nat.le_refl _) _, by simp⟩, True.intro⟩
    go_wp2_with (at_builtin; refine wpList_app rfl _ _ rfl ti_int (fun _ => rfl) oneI rfl rfl (M.out) (by (repeat' (first | exact True.intro | refine And.intro (fun k hk e => ?_) ?_)) <;> (first | exact e | ((try dsimp only [Loc.c1, Loc.c2, Loc.k1, Loc.k2, Loc.k3, Loc.k4, Loc.k6, Loc.fr, Loc.bl, Loc.own, Loc.sz, Loc.rd, Loc.rdI, Loc.rdS, Loc.rdM, Loc.rdT, Loc.ow, Loc.owI] at hk e) <;> omega))) (HV.out.after ((Below.refl _ _).alloc (Nat.le_refl _) _)) (by have := HL.out; simp; omega) (by have := HL.out; simp; omega) (by simp) ?_; intro A1 c1 w1 hM1 hs1 hch1; replace M := Lib.hid hM1; clear hM1 hch1)
    refine HR.out _ _ ⟨A1, c1, ?_, ?_, M.out.2.1.1⟩
    · simp
    · have := M.out.1
      simp only [List.length_nil, Nat.zero_add, List.nil_append] at this
      exact this

def maxI : Int → List Int → Int
  | x, [] => x
  | x, y :: l => maxI (max x y) l
theorem maxI_gt (b : Int) : ∀ (l : List Int) (x : Int), decide (b < maxI x l) = (x :: l).any fun y => decide (b < y)
  | [], x => by simp [maxI] <;> rfl
  | y :: l, x => by
    rw [maxI, maxI_gt b l]
    simp only [List.any_cons]
    grind
set_option maxHeartbeats 1000000 in
theorem max_any (x : Int) (l : List Int) (v : Value) (lo hi : Nat) (w : World) (hv : RdI w lo hi v (x :: l)) :
    Calls Try.prog 98 #[v] w fun e w' => e = .returned (.int .i64 (maxI x l)) ∧ Below w.heap.size w w' := by
  have hx0 := hv
  obtain ⟨A, c, rfl, hc, hm⟩ := hv.form
  obtain ⟨b, off, rfl, _, _, hcell0⟩ := RdI.at1 hv (k := 0) (by simp)
  have HV := Lib.hid hv
  simp only [gti, List.getElem?_cons_zero, Option.getD_some, Nat.add_zero] at hcell0
  simp only [List.length_cons] at hc hm
  clear hv hx0
  refine calls_cps fun R hR => ?_
  have HR := Lib.hid hR
  clear hR
  go_enter Try.func98, Try.ntmps98
  go_wp2_with fail
  go_loop [3, 4] (fun v3 v4 => ∃ (k : Nat) (y : Int), k ≤ l.length ∧ v3 = .int .i64 y ∧ v4 = .int .i64 (k + 1 : Nat) ∧ Hid (maxI y (l.drop k) = maxI x l)) (fun _ v4 => l.length + 1 - (intOf v4).toNat)
  case atStart => exact ⟨0, x, by omega, rfl, rfl, Lib.hid rfl⟩
  case round =>
    obtain ⟨k, y, hk, rfl, rfl, HI⟩ := hrel
    by_cases hlt : k < l.length
    · obtain ⟨_, _, e, _, _, hcell⟩ := RdI.at1 HV.out (k := k + 1) (by simp; omega)
      injection e with e
      injection e with e1 e2
      subst e1 e2
      have HD := Lib.hid (drop_gti hlt)
      have e3 : gti (x :: l) (k + 1) = gti l k := by simp [gti]
      rw [e3] at hcell
      clear e3
      generalize gti l k = z at *
      go_wp2_with fail
      refine ⟨⟨k + 1, _, by omega, rfl, by go_num, Lib.hid ?_⟩, by simp [intOf]; omega⟩
      have h := HI.out
      rw [HD.out, maxI] at h
      rw [← h]
      congr 1
      omega
    · obtain rfl : k = l.length := by omega
      have HE := HI.out
      simp only [List.drop_length, maxI] at HE
      have HE := Lib.hid HE
      go_wp2_with fail
      exact HR.out _ _ ⟨ret_int (by first | exact HE.out | rfl), Below.refl _ _⟩

def enB (t : Tr) (m : List Int) : Bool := !t.inn.any fun p => decide (gti m p.toNat = 0)
theorem ent_enabled1 : Ent 111 := ent_of Try.func111 (by kernel_rfl) rfl
set_option maxHeartbeats 400000 in
theorem enabled1_any (m : List Int) (v : Value) (lo hi g : Nat) (p : Int) (w : World) (hg : C1 w g 0 v) (hv : RdI w lo hi v m) (h0 : 0 ≤ p) (h1 : p < m.length) :
    Calls Try.prog 111 #[.int .i64 p, .pointer (some ⟨g, 0, none⟩)] w fun e w' => e = .returned (.bool (decide (gti m p.toNat = 0))) ∧ Below w.heap.size w w' := by
  obtain ⟨k, rfl⟩ : ∃ k : Nat, p = k := ⟨p.toNat, by omega⟩
  have hlt : k < m.length := by omega
  clear h0 h1
  obtain ⟨A, c, rfl, hc, hm⟩ := hv.form
  obtain ⟨b, off, rfl, _, _, hcell⟩ := RdI.at1 hv hlt
  have HV := Lib.hid hv
  clear hv
  simp only [Int.toNat_natCast]
  refine calls_cps fun R hR => ?_
  have HR := Lib.hid hR
  clear hR
  go_enter Try.func111, Try.ntmps111
  go_wp2_with fail
  all_goals (refine HR.out _ _ ⟨ret_bool ?_, Below.refl _ _⟩ <;> (go_light; grind))

abbrev trV (t : Tr) (vi vo : Value) : Value := .agg #[.string t.label, vi, vo]
set_option maxRecDepth 100000 in
set_option maxHeartbeats 400000 in
theorem enabled_any (t : Tr) (vi vo : Value) (m : List Int) (v : Value) (lo hi lo' hi' : Nat) (w : World) (hi1 : RdI w lo hi vi t.inn) (hv : RdI w lo' hi' v m) (hin : ∀ p ∈ t.inn, 0 ≤ p ∧ p < m.length) :
    Calls Try.prog 97 #[trV t vi vo, v] w fun e w' => e = .returned (.bool (enB t m)) ∧ Below w.heap.size w w' := by
  obtain ⟨A, c, rfl, hc, hm⟩ := hv.form
  obtain ⟨A2, c2, rfl, hc2, hm2⟩ := hi1.form
  have HV := Lib.hid hv
  have HI := Lib.hid hi1
  have HN := Lib.hid hin
  clear hv hi1 hin
  have HC : Hid (∀ W, Mem [Loc.c1 (w.heap.size + 1) 0 (.slice A m.length c), Loc.bl w.heap.size w] W → Calls Try.prog 95 #[.slice A2 t.inn.length c2, .func (.func 111) #[] #[.pointer (some ⟨w.heap.size + 1, 0, none⟩)]] W fun e w' => e = .returned (.bool (t.inn.any fun p => decide (gti m p.toNat = 0))) ∧ Below W.heap.size W w') :=
    Lib.hid (fun W hM => containsFI_any 111 ent_enabled1 #[.pointer (some ⟨w.heap.size + 1, 0, none⟩)] (fun p => decide (gti m p.toNat = 0)) t.inn lo hi _ W (HI.out.after hM.2.1.1) (fun a ha W' hW' => enabled1_any m _ lo' hi' _ a W' (hM.below hW').1 ((HV.out.after hM.2.1.1).after hW') (HN.out a ha).1 (HN.out a ha).2))
  refine calls_cps fun R hR => ?_
  have HR := Lib.hid hR
  clear hR
  go_enter Try.func97, Try.ntmps97
  have M : Hid (Mem [Loc.c1 (w.heap.size + 1) 0 (.slice A m.length c), Loc.bl w.heap.size w] ((w.alloc (Obj.cells #[Value.string t.label, Value.slice A2 t.inn.length c2, vo] 46)).alloc (Obj.cells #[Value.slice A m.length c] 30))) := Lib.hid ⟨by simp [C1, go_sem], ⟨((Below.refl _ _).alloc (Nat.le_refl _) _).alloc (by simp) _, by simp; omega⟩, True.intro⟩
  go_wp2_with (go_at_call 95; refine (HC.out _ M.out).mono ?_; rintro e w1 ⟨rfl, hb1⟩; replace M := Lib.hid (M.out.below hb1); clear hb1; skip)
  exact HR.out _ _ ⟨rfl, M.out.2.1.1⟩

/-- a list of places, read: each is one; they ascend; there are not too many -/
theorem placesB_at {n : Int} {l : List Int} (h : placesB n l = true) {k : Nat} (hk : k < l.length) : 0 ≤ gti l k ∧ gti l k < n ∧ (k : Int) ≤ gti l k := by
  have hall : ∀ j, j < l.length → ¬ badP n l j := by
    intro j hj hb
    rw [placesB_false hj hb] at h
    cases h
  have h1 := hall k hk
  unfold badP at h1
  refine ⟨by omega, by omega, ?_⟩
  induction k with
  | zero => omega
  | succ k ih =>
    have h2 := hall k (by omega)
    unfold badP at h2
    have := ih (by omega) h2
    simp only [Nat.add_sub_cancel] at h1
    omega
theorem placesB_len {n : Int} {l : List Int} (h : placesB n l = true) : (l.length : Int) ≤ n ∨ l.length = 0 := by
  rcases Nat.eq_zero_or_pos l.length with h0 | h0
  · exact .inr h0
  · have := placesB_at h (k := l.length - 1) (by omega)
    omega
theorem mem_gti {α : Type} [Inhabited α] {l : List α} {a : α} (h : a ∈ l) : ∃ k, k < l.length ∧ gti l k = a := by
  obtain ⟨k, hk, rfl⟩ := List.mem_iff_getElem.1 h
  exact ⟨k, hk, by unfold gti; rw [List.getElem?_eq_getElem hk]; rfl⟩
theorem placesB_mem {n : Int} {l : List Int} (h : placesB n l = true) {p : Int} (hp : p ∈ l) : 0 ≤ p ∧ p < n := by
  obtain ⟨k, hk, rfl⟩ := mem_gti hp
  have := placesB_at h hk
  exact ⟨this.1, this.2.1⟩
theorem validL_tr {n : Net} : ∀ {l : List Tr}, validL n l = true → ∀ t ∈ l, trB n.places t = true
  | [], _, t, ht => by cases ht
  | x :: l, h, t, ht => by
    simp only [validL] at h
    split at h
    · rcases List.mem_cons.1 ht with rfl | ht
      · assumption
      · exact validL_tr h t ht
    · cases h
theorem validB_tr {n : Net} (h : validB n = true) {t : Tr} (ht : t ∈ n.trans) : (t.label.toList.isEmpty || nameB t.label) = true ∧ placesB n.places t.inn = true ∧ placesB n.places t.out = true := by
  unfold validB at h
  split at h
  · cases h
  · have := validL_tr h t ht
    unfold trB at this
    simp only [Bool.and_eq_true] at this
    exact ⟨this.1.1, this.1.2, this.2⟩
theorem gti_mem {α : Type} [Inhabited α] {l : List α} {k : Nat} (h : k < l.length) : gti l k ∈ l := List.mem_of_getElem? (gti_get h)
theorem mark2B_len {n : Net} {m : List Int} (h : mark2B n m = true) : (m.length : Int) = n.places := by
  unfold mark2B at h
  split at h
  · cases h
  · omega
theorem all01_at : ∀ {m : List Int}, all01 m = true → ∀ k, 0 ≤ gti m k ∧ gti m k ≤ 100
  | [], _, k => by simp [gti]
  | x :: m, h, k => by
    simp only [all01] at h
    split at h
    · cases h
    · cases k with
      | zero => simp [gti]; omega
      | succ k =>
        have := all01_at h k
        simpa [gti] using this
theorem mark2B_at {n : Net} {m : List Int} (h : mark2B n m = true) (k : Nat) : 0 ≤ gti m k ∧ gti m k ≤ 100 := by
  unfold mark2B at h
  split at h
  · cases h
  · exact all01_at h k

theorem marking_is {n : Net} {m : List Int} {b : Bool} (hb : markB n m = b) (vt v : Value) (lo hi lo' hi' : Nat) (w : World) (hv : RdT w lo hi vt n.trans) (hm : RdI w lo' hi' v m) :
    Calls Try.prog 62 #[netV n vt, v] w fun e w' => e = .returned (.bool b) ∧ Below w.heap.size w w' := hb ▸ marking_any n m vt v lo hi lo' hi' w hv hm

def decL : List Int → List Int → List Int
  | [], m => m
  | p :: ps, m => decL ps (m.set p.toNat (gti m p.toNat - 1))
def incL : List Int → List Int → List Int
  | [], m => m
  | p :: ps, m => incL ps (m.set p.toNat (gti m p.toNat + 1))
theorem decL_len : ∀ ps m, (decL ps m).length = m.length
  | [], m => rfl
  | p :: ps, m => by rw [decL, decL_len ps, List.length_set]
theorem incL_len : ∀ ps m, (incL ps m).length = m.length
  | [], m => rfl
  | p :: ps, m => by rw [incL, incL_len ps, List.length_set]
def fireE (n : Net) (m : List Int) (t : Int) : List Int × Int :=
  if t < 0 ∨ n.trans.length ≤ t then ([], 2) else
  if enB (gti n.trans t.toNat) m then
    if (incL (gti n.trans t.toNat).out (decL (gti n.trans t.toNat).inn m)).any (fun y => decide (100 < y)) then ([], 5)
    else (incL (gti n.trans t.toNat).out (decL (gti n.trans t.toNat).inn m), 0)
  else ([], 12)
/-- all numbers of a list lie between -B and B -/
def Bnd (B : Int) (l : List Int) : Prop := ∀ i, -B ≤ gti l i ∧ gti l i ≤ B
theorem gti_set (l : List Int) (i j : Nat) (x : Int) : gti (l.set i x) j = if i = j ∧ j < l.length then x else gti l j := by
  unfold gti
  rw [List.getElem?_set]
  by_cases h : i = j
  · subst h
    by_cases h2 : i < l.length
    · simp [h2]
    · simp [h2]
  · simp [h]
theorem Bnd.dec {B : Int} {l : List Int} (h : Bnd B l) (i : Nat) : Bnd (B + 1) (l.set i (gti l i - 1)) := fun j => by
  rw [gti_set]
  have := h i
  have := h j
  split <;> omega
theorem Bnd.inc {B : Int} {l : List Int} (h : Bnd B l) (i : Nat) : Bnd (B + 1) (l.set i (gti l i + 1)) := fun j => by
  rw [gti_set]
  have := h i
  have := h j
  split <;> omega

theorem C3.aft {w W : World} {b o : Nat} {x y z : Value} (hb : Below w.heap.size w W) (h : C3 w b o x y z) : C3 W b o x y z := by
  have hbs := World.block_lt_of_cell? _ _ h.1
  exact ⟨(hb.cell (p := ⟨b, o, none⟩) hbs).trans h.1, (hb.cell (p := ⟨b, o + 1, none⟩) hbs).trans h.2.1, (hb.cell (p := ⟨b, o + 2, none⟩) hbs).trans h.2.2⟩
def maxL (l : List Int) : Int := maxI (gti l 0) l.tail
theorem maxL_gt (b : Int) {l : List Int} (h : 0 < l.length) : decide (b < maxL l) = l.any fun y => decide (b < y) := by
  cases l with
  | nil => simp at h
  | cons x l => exact maxI_gt b l x
theorem maxL_any (l : List Int) (v : Value) (lo hi : Nat) (w : World) (hv : RdI w lo hi v l) (hl : 0 < l.length) :
    Calls Try.prog 98 #[v] w fun e w' => e = .returned (.int .i64 (maxL l)) ∧ Below w.heap.size w w' := by
  cases l with
  | nil => simp at hl
  | cons x l => exact max_any x l v lo hi w hv

set_option maxRecDepth 100000 in
set_option maxHeartbeats 2000000 in
theorem fire_any (n : Net) (m : List Int) (t : Int) (vt v : Value) (lo hi lo' hi' : Nat) (w : World) (hv : RdT w lo hi vt n.trans) (hm : RdI w lo' hi' v m) (hmk : markB n m = true) :
    Calls Try.prog 63 #[netV n vt, v, .int .i64 t] w (RetI w (fireE n m t)) := by
  obtain ⟨A, c, rfl, hc, hmm⟩ := hv.form
  obtain ⟨A2, c2, rfl, hc2, hmm2⟩ := hm.form
  have HV := Lib.hid hv
  have HW := Lib.hid hm
  have hval : validB n = true := by unfold markB at hmk; simp at hmk; exact hmk.1
  have hmk2 : mark2B n m = true := by unfold markB at hmk; simp at hmk; exact hmk.2
  have HVAL := Lib.hid hval
  have HMK := Lib.hid hmk2
  have hpl := validB_places hval
  have hlen := mark2B_len hmk2
  obtain ⟨np, hnp⟩ : ∃ k : Nat, n.places = k := ⟨n.places.toNat, by omega⟩
  have hml : m.length = np := by omega
  have hnp1 : 1 ≤ np := by omega
  have hnp40 : np ≤ 40 := by omega
  have HNP := Lib.hid hnp
  have HML := Lib.hid hml
  clear hv hm hmk hval hmk2 hpl hlen hnp hml
  by_cases ht : t < 0 ∨ n.trans.length ≤ t
  · have HT := Lib.hid ht
    refine calls_cps fun R hR => ?_
    have HR := Lib.hid hR
    clear hR
    go_enter Try.func63, Try.ntmps63
    have M : Hid (Mem [Loc.k4 w.heap.size (.int .i64 n.places) (.slice A n.trans.length c) (.int .i64 n.source) (.int .i64 n.sink), Loc.bl w.heap.size w] (w.alloc (.cells #[.int .i64 n.places, .slice A n.trans.length c, .int .i64 n.source, .int .i64 n.sink] 24))) := Lib.hid ⟨K4.new w _ _ _ _ _, ⟨(Below.refl _ _).alloc (Nat.le_refl _) _, by simp⟩, True.intro⟩
    have hk4 := M.out.1
    go_wp2_with fail
    all_goals first
      | exact HR.out _ _ (RetI.nil (by rw [fireE, if_pos HT.out]) M.out.2.1.1)
      | (exfalso; go_light; omega)
  · have HT := Lib.hid ht
    obtain ⟨kt, rfl⟩ : ∃ k : Nat, t = k := ⟨t.toNat, by omega⟩
    have hlt : kt < n.trans.length := by omega
    clear ht
    obtain ⟨b, off, vi, vo, rfl, hbl, hbh, hcell, hri, hro⟩ := RdT.at3 HV.out hlt
    have HTR := Lib.hid (validB_tr HVAL.out (gti_mem hlt))
    obtain ⟨Ai, ci, rfl, hci, hmi⟩ := hri.form
    obtain ⟨Ao, co, rfl, hco, hmo⟩ := hro.form
    have HFE : Hid (fireE n m kt = if enB (gti n.trans kt) m then
        if (incL (gti n.trans kt).out (decL (gti n.trans kt).inn m)).any (fun y => decide (100 < y)) then ([], 5)
        else (incL (gti n.trans kt).out (decL (gti n.trans kt).inn m), 0)
      else ([], 12)) := Lib.hid (by rw [fireE, if_neg HT.out, Int.toNat_natCast])
    generalize gti n.trans kt = x at *
    have HRI := Lib.hid hri
    have HRO := Lib.hid hro
    have hil : x.inn.length ≤ 40 := by have := placesB_len HTR.out.2.1; have := HNP.out; omega
    have hol : x.out.length ≤ 40 := by have := placesB_len HTR.out.2.2; have := HNP.out; omega
    have hx1 : ((kt : Int) < 0) = False := by simp
    have hx2 : ((n.trans.length : Int) ≤ (kt : Int)) = False := by simp; omega
    clear hri hro HT
    refine calls_cps fun R hR => ?_
    have HR := Lib.hid hR
    clear hR
    go_enter Try.func63, Try.ntmps63
    have hcell' : C3 (w.alloc (.cells #[.int .i64 n.places, .slice (some ⟨b, off, none⟩) n.trans.length c, .int .i64 n.source, .int .i64 n.sink] 24)) b (off + kt * 3) (.string x.label) (.slice Ai x.inn.length ci) (.slice Ao x.out.length co) := C3.aft ((Below.refl w.heap.size w).alloc (Nat.le_refl _) _) hcell
    have M : Hid (Mem [Loc.k4 w.heap.size (.int .i64 n.places) (.slice (some ⟨b, off, none⟩) n.trans.length c) (.int .i64 n.source) (.int .i64 n.sink), Loc.bl w.heap.size w, Loc.k3 (w.heap.size + 1) (.string x.label) (.slice Ai x.inn.length ci) (.slice Ao x.out.length co)] ((w.alloc (.cells #[.int .i64 n.places, .slice (some ⟨b, off, none⟩) n.trans.length c, .int .i64 n.source, .int .i64 n.sink] 24)).alloc (.cells #[.string x.label, .slice Ai x.inn.length ci, .slice Ao x.out.length co] 46))) :=
      Lib.hid ⟨K4.aft ((Below.refl _ _).alloc (Nat.le_refl _) _) (K4.new w _ _ _ _ _), ⟨((Below.refl _ _).alloc (Nat.le_refl _) _).alloc (by simp) _, by simp; omega⟩, by have := K3.new (w.alloc (.cells #[.int .i64 n.places, .slice (some ⟨b, off, none⟩) n.trans.length c, .int .i64 n.source, .int .i64 n.sink] 24)) (.string x.label) (.slice Ai x.inn.length ci) (.slice Ao x.out.length co) 46; rw [World.size_alloc] at this; exact this, True.intro⟩
    have hk4 := K4.new w (.int .i64 n.places) (.slice (some ⟨b, off, none⟩) n.trans.length c) (.int .i64 n.source) (.int .i64 n.sink) 24
    have hk3 := M.out.2.2.1
    clear hcell
    go_wp2_with (first
      | (go_at_call 97; refine (enabled_any x _ _ m _ lo hi lo' hi' _ (HRI.out.after M.out.2.1.1) (HW.out.after M.out.2.1.1) (fun p hp => by have := placesB_mem HTR.out.2.1 hp; have := HNP.out; have := HML.out; omega)).mono ?_; rintro e w1 ⟨rfl, hb1⟩; replace M := Lib.hid (M.out.below hb1); clear hb1; replace hk4 := M.out.1; replace hk3 := M.out.2.2.1)
      | (go_at_call 46; refine (clone_any m _ lo' hi' _ (HW.out.after M.out.2.1.1) (by have := HML.out; omega)).mono ?_; rintro e w2 ⟨A1, c1, rfl, ho1, hb1⟩; have HO := Lib.hid ho1; have hsz2 := hb1.size; have hsz1 := M.out.2.2.1.2.2.2; replace M := Lib.hid (M.out.below hb1); clear hb1 ho1; replace hk4 := M.out.1; replace hk3 := M.out.2.2.1))
    · exact HR.out _ _ (RetI.nil (by have hfe := HFE.out; clear HFE; go_light; grind) M.out.2.1.1)
    · obtain ⟨g, cap, hA1, hgl, hgh, hgs⟩ := HO.out.blk (by have := HML.out; omega)
      injection hA1 with e1 _ e3
      subst e1 e3
      go_loopw [37, 11] (fun v37 _ wr => ∃ (k : Nat) (cur : List Int), k ≤ x.inn.length ∧ v37 = .int .i64 k ∧ Hid (decL (x.inn.drop k) cur = decL x.inn m) ∧ Hid (Bnd (100 + k) cur) ∧ Hid (cur.length = m.length) ∧ Hid (Mem [Loc.owI w1.heap.size w2.heap.size (.slice (some ⟨g, 0, none⟩) m.length c1) cur, Loc.k4 w.heap.size (.int .i64 n.places) (.slice (some ⟨b, off, none⟩) n.trans.length c) (.int .i64 n.source) (.int .i64 n.sink), Loc.bl w.heap.size w, Loc.k3 (w.heap.size + 1) (.string x.label) (.slice Ai x.inn.length ci) (.slice Ao x.out.length co), Loc.sz w2.heap.size] wr)) (fun v37 _ _ => x.inn.length - (intOf v37).toNat)
      case atStart => exact ⟨0, m, by omega, rfl, Lib.hid rfl, Lib.hid (fun i => by have := mark2B_at HMK.out i; omega), Lib.hid rfl, Lib.hid ⟨HO.out, M.out.1, M.out.2.1, M.out.2.2.1, Nat.le_refl _, True.intro⟩⟩
      case round =>
        obtain ⟨k, cur, hk, rfl, HI, HBD, HCL, HM⟩ := hrel
        by_cases hltk : k < x.inn.length
        · obtain ⟨bb, oo, rfl, _, _, hce⟩ := RdI.at1 (HRI.out.after HM.out.2.2.1.1) hltk
          have HD := Lib.hid (drop_gti hltk)
          have hpr := placesB_at HTR.out.2.1 hltk
          generalize gti x.inn k = p at *
          obtain ⟨kp, rfl⟩ : ∃ j : Nat, p = j := ⟨p.toNat, by omega⟩
          have hkp : kp < m.length := by have := HNP.out; have := HML.out; omega
          have hkc : kp < cur.length := by rw [HCL.out]; exact hkp
          have hat := OwnI.at1 HM.out.1 hkc
          have hbd := HBD.out kp
          have HO2 := Lib.hid (OwnI.set HM.out.1 kp (gti cur kp - 1))
          clear hpr hkc
          go_wp2_with fail
          refine ⟨⟨k + 1, cur.set kp (gti cur kp - 1), by omega, by go_num, Lib.hid ?_, Lib.hid ?_, Lib.hid (by rw [List.length_set]; exact HCL.out), Lib.hid ⟨HO2.out, HM.out.2.set (by (repeat' (first | exact True.intro | refine And.intro (fun k hk e => ?_) ?_)) <;> (first | exact e | ((try dsimp only [Loc.c1, Loc.c2, Loc.k1, Loc.k2, Loc.k3, Loc.k4, Loc.k6, Loc.fr, Loc.bl, Loc.own, Loc.sz, Loc.rd, Loc.rdI, Loc.rdS, Loc.rdM, Loc.rdT, Loc.ow, Loc.owI] at hk e) <;> omega)))⟩⟩, by simp [intOf]; omega⟩
          · have h := HI.out
            rw [HD.out, decL, Int.toNat_natCast] at h
            exact h
          · have := HBD.out.dec kp
            rw [show (100 + ((k + 1 : Nat) : Int)) = 100 + (k : Int) + 1 by omega]
            exact this
        · obtain rfl : k = x.inn.length := by omega
          have HE : Hid (cur = decL x.inn m) := Lib.hid (by have h := HI.out; simpa [decL] using h)
          have HE0 := HE
          have hk3' := HM.out.2.2.2.1
          clear HI hk3 hk4
          go_wp2_with fail
          clear HE
          go_loopw [51, 13] (fun v51 _ wr => ∃ (k : Nat) (cur : List Int), k ≤ x.out.length ∧ v51 = .int .i64 k ∧ Hid (incL (x.out.drop k) cur = incL x.out (decL x.inn m)) ∧ Hid (Bnd ((100 + x.inn.length) + k) cur) ∧ Hid (cur.length = m.length) ∧ Hid (Mem [Loc.owI w1.heap.size w2.heap.size (.slice (some ⟨g, 0, none⟩) m.length c1) cur, Loc.k4 w.heap.size (.int .i64 n.places) (.slice (some ⟨b, off, none⟩) n.trans.length c) (.int .i64 n.source) (.int .i64 n.sink), Loc.bl w.heap.size w, Loc.k3 (w.heap.size + 1) (.string x.label) (.slice Ai x.inn.length ci) (.slice Ao x.out.length co), Loc.sz w2.heap.size] wr)) (fun v51 _ _ => x.out.length - (intOf v51).toNat)
          case atStart => exact ⟨0, cur, by omega, rfl, Lib.hid (by rw [HE0.out]; rfl), Lib.hid (by simpa using HBD.out), HCL, HM⟩
          case round =>
            clear HE0 HBD HCL HM
            obtain ⟨k, cur, hk, rfl, HI, HBD, HCL, HM⟩ := hrel
            by_cases hltk : k < x.out.length
            · obtain ⟨bb, oo, rfl, _, _, hce⟩ := RdI.at1 (HRO.out.after HM.out.2.2.1.1) hltk
              have HD := Lib.hid (drop_gti hltk)
              have hpr := placesB_at HTR.out.2.2 hltk
              generalize gti x.out k = p at *
              obtain ⟨kp, rfl⟩ : ∃ j : Nat, p = j := ⟨p.toNat, by omega⟩
              have hkp : kp < m.length := by have := HNP.out; have := HML.out; omega
              have hkc : kp < cur.length := by rw [HCL.out]; exact hkp
              have hat := OwnI.at1 HM.out.1 hkc
              have hbd := HBD.out kp
              have HO2 := Lib.hid (OwnI.set HM.out.1 kp (gti cur kp + 1))
              clear hpr hkc
              go_wp2_with fail
              refine ⟨⟨k + 1, cur.set kp (gti cur kp + 1), by omega, by go_num, Lib.hid ?_, Lib.hid ?_, Lib.hid (by rw [List.length_set]; exact HCL.out), Lib.hid ⟨HO2.out, HM.out.2.set (by (repeat' (first | exact True.intro | refine And.intro (fun k hk e => ?_) ?_)) <;> (first | exact e | ((try dsimp only [Loc.c1, Loc.c2, Loc.k1, Loc.k2, Loc.k3, Loc.k4, Loc.k6, Loc.fr, Loc.bl, Loc.own, Loc.sz, Loc.rd, Loc.rdI, Loc.rdS, Loc.rdM, Loc.rdT, Loc.ow, Loc.owI] at hk e) <;> omega)))⟩⟩, by simp [intOf]; omega⟩
              · have h := HI.out
                rw [HD.out, incL, Int.toNat_natCast] at h
                exact h
              · have := HBD.out.inc kp
                rw [show ((100 + x.inn.length) + ((k + 1 : Nat) : Int)) = (100 + x.inn.length) + (k : Int) + 1 by omega]
                exact this
            · obtain rfl : k = x.out.length := by omega
              have HE : Hid (cur = incL x.out (decL x.inn m)) := Lib.hid (by have h := HI.out; simpa [incL] using h)
              clear HI
              have hcp : 0 < cur.length := by rw [HCL.out, HML.out]; omega
              have HMG := Lib.hid (maxL_gt 100 hcp)
              have M := HM
              clear HM
              go_wp2_with (go_at_call 98; refine (maxL_any cur _ w1.heap.size w2.heap.size _ M.out.1.rd hcp).mono ?_; rintro e w1 ⟨rfl, hb1⟩; replace M := Lib.hid (M.out.below hb1); clear hb1; skip)
              all_goals (have hfe := HFE.out; have he := HE.out; have hmg := HMG.out; rw [← he, ← hmg] at hfe)
              · exact HR.out _ _ (RetI.nil (by clear HFE HE HMG he hmg; go_light; grind) M.out.2.2.1.1)
              · exact HR.out _ _ (RetI.mk (l := cur) (by clear HFE HE HMG he hmg; go_light; grind) HCL.out.symm M.out.1.rd (by omega) M.out.2.2.2.2.1 M.out.2.2.1.1)

end Go.Proofs.Ytmhbfoaecebobaa
end
section
namespace Go.Proofs.Ytmhbfoaecebobaa.Aw
set_option linter.unusedSimpArgs false
set_option linter.unusedVariables false
open Go.RowKit Go.Proofs
variable {P : Program} [IsP P]
end Go.Proofs.Ytmhbfoaecebobaa.Aw
end
section
namespace Go.Proofs.Ytmhbfoaecebobaa.Aw
set_option linter.unusedSimpArgs false
set_option linter.unusedVariables false
open Go.RowKit Go.Proofs
variable {P : Program} [IsP P]

theorem take_all {α : Type} [Inhabited α] {a b : List α} (hl : a.length = b.length) (h : ∀ j, j < a.length → gti a j = gti b j) : a = b := by
  apply List.ext_getElem? 
  intro j
  by_cases hj : j < a.length
  · rw [gti_get hj, gti_get (by omega), h j hj]
  · rw [List.getElem?_eq_none (by omega), List.getElem?_eq_none (by omega)]

theorem sameRow_pf (a b : List Int) : Pure P 47 [eL eI a, eL eI b] (eB (decide (a = b))) := by
  refine aw_fn (by rw [IsP.eq (P := P)]; exact Try.func47) rfl rfl rfl rfl rfl (by repeat' (first | exact Lo.s _ | exact Lo.emp | exact Lo.any | exact lo_nil | exact lo_nilE | refine lo_cons ?_ ?_ | refine lo_consE ?_ ?_ | refine lo_map ?_ | refine lo_mapE ?_ | refine Lo.cells ?_ | refine Lo.agg _ ?_ | refine Lo.ref _ ?_ | refine Lo.tup _ ?_ | refine Lo.fn _ _ ?_ | refine Lo.sl _ ?_ | intro _)) (by repeat' (first | exact Lo.s _ | exact Lo.emp | exact Lo.any | exact lo_nil | exact lo_nilE | refine lo_cons ?_ ?_ | refine lo_consE ?_ ?_ | refine lo_map ?_ | refine lo_mapE ?_ | refine Lo.cells ?_ | refine Lo.agg _ ?_ | refine Lo.ref _ ?_ | refine Lo.tup _ ?_ | refine Lo.fn _ _ ?_ | refine Lo.sl _ ?_ | intro _)) (by simp only [argF]; rfl) ?_
  repeat (first | refine aw_seq ?_ | refine ath_n ?_ | refine aw_skip ?_ | refine abl_n ?_ | refine aw_block ?_)
  refine aw_region ?_
  refine ops_op rfl rfl (runs_none rfl) (mv_s (.inr rfl) rfl) ?_
  refine ops_nil ?_
  repeat (first | refine aw_seq ?_ | refine ath_n ?_ | refine aw_skip ?_ | refine abl_n ?_ | refine aw_block ?_)
  refine aw_bdm (d := 0) rfl (fun ha => ?_)
  unfold maxLen at ha
  refine aw_region ?_
  first | refine ops_op rfl rfl (runs_none rfl) (mv_own (.inl rfl) rfl) ?_ | refine ops_op rfl rfl (runs_none rfl) (mv_sl (.inl rfl) rfl) ?_ | refine ops_op rfl rfl (runs_none rfl) (mv_s (.inl rfl) rfl) ?_ | refine ops_op rfl rfl (runs_none rfl) (mv_emp (.inl rfl) rfl) ?_
  first | refine ops_op rfl rfl (runs_none rfl) (does_len_map rfl ts30 rfl) ?_ | refine ops_op rfl rfl (runs_none rfl) (does_len_sl rfl ts30 rfl) ?_ | refine ops_op rfl rfl (runs_none rfl) (does_len_own rfl ts30 rfl) ?_ | refine ops_op rfl rfl (runs_none rfl) (does_len_s rfl ts30 rfl) ?_ | refine ops_op rfl rfl (runs_none rfl) (does_len_emp rfl ts30 rfl) ?_
  first | refine ops_op rfl rfl (runs_none rfl) (mv_own (.inl rfl) rfl) ?_ | refine ops_op rfl rfl (runs_none rfl) (mv_sl (.inl rfl) rfl) ?_ | refine ops_op rfl rfl (runs_none rfl) (mv_s (.inl rfl) rfl) ?_ | refine ops_op rfl rfl (runs_none rfl) (mv_emp (.inl rfl) rfl) ?_
  first | refine ops_op rfl rfl (runs_none rfl) (does_len_map rfl ts30 rfl) ?_ | refine ops_op rfl rfl (runs_none rfl) (does_len_sl rfl ts30 rfl) ?_ | refine ops_op rfl rfl (runs_none rfl) (does_len_own rfl ts30 rfl) ?_ | refine ops_op rfl rfl (runs_none rfl) (does_len_s rfl ts30 rfl) ?_ | refine ops_op rfl rfl (runs_none rfl) (does_len_emp rfl ts30 rfl) ?_
  refine ops_op rfl rfl (runs_none rfl) (does_neq rfl rfl rfl) ?_
  refine ops_nil ?_
  repeat (first | refine aw_seq ?_ | refine ath_n ?_ | refine aw_skip ?_ | refine abl_n ?_ | refine aw_block ?_)
  refine aw_if rfl (fun h => ?_) (fun h => ?_)
  · repeat (first | refine aw_seq ?_ | refine ath_n ?_ | refine aw_skip ?_ | refine abl_n ?_ | refine aw_block ?_)
    refine aw_region ?_
    refine ops_op rfl rfl (runs_none rfl) (mv_s (.inr rfl) rfl) ?_
    refine ops_nil ?_
    repeat (first | refine aw_seq ?_ | refine ath_n ?_ | refine aw_skip ?_ | refine abl_n ?_ | refine aw_block ?_)
    (refine aw_ret ?_; repeat (first | refine ath_r ?_ | refine abl_r ?_))
    refine post1 (.inr rfl) rfl (congrArg eB ?_)
    have : a ≠ b := fun e => by subst e; exact h rfl
    simp [this]
  · repeat (first | refine aw_seq ?_ | refine ath_n ?_ | refine aw_skip ?_ | refine abl_n ?_ | refine aw_block ?_)
    refine aw_region ?_
    refine ops_op rfl rfl (runs_none rfl) (mv_s (.inr rfl) rfl) ?_
    refine ops_nil ?_
    repeat (first | refine aw_seq ?_ | refine ath_n ?_ | refine aw_skip ?_ | refine abl_n ?_ | refine aw_block ?_)
    have hl : a.length = b.length := by omega
    refine aw_loops (S := Nat) (fun k => [(0, eL eI a), (1, eL eI b), (5, eI k)]) (fun _ => []) (fun k => k ≤ a.length ∧ ∀ j, j < k → gti a j = gti b j) (fun k => a.length - k) 0 (wk_sub _ ⟨rfl, rfl, rfl, trivial⟩) ⟨by omega, fun j hj => by omega⟩ (fun k hk => ?_)
    repeat (first | refine aw_seq ?_ | refine ath_n ?_ | refine aw_skip ?_ | refine abl_n ?_ | refine aw_block ?_)
    refine aw_region ?_
    refine ops_op rfl rfl (runs_none rfl) (mv_s (.inl rfl) rfl) ?_
    first | refine ops_op rfl rfl (runs_none rfl) (mv_own (.inl rfl) rfl) ?_ | refine ops_op rfl rfl (runs_none rfl) (mv_sl (.inl rfl) rfl) ?_ | refine ops_op rfl rfl (runs_none rfl) (mv_s (.inl rfl) rfl) ?_ | refine ops_op rfl rfl (runs_none rfl) (mv_emp (.inl rfl) rfl) ?_
    first | refine ops_op rfl rfl (runs_none rfl) (does_len_map rfl ts30 rfl) ?_ | refine ops_op rfl rfl (runs_none rfl) (does_len_sl rfl ts30 rfl) ?_ | refine ops_op rfl rfl (runs_none rfl) (does_len_own rfl ts30 rfl) ?_ | refine ops_op rfl rfl (runs_none rfl) (does_len_s rfl ts30 rfl) ?_ | refine ops_op rfl rfl (runs_none rfl) (does_len_emp rfl ts30 rfl) ?_
    refine ops_op rfl rfl (runs_none rfl) (does_lss rfl rfl rfl) ?_
    refine ops_nil ?_
    repeat (first | refine aw_seq ?_ | refine ath_n ?_ | refine aw_skip ?_ | refine abl_n ?_ | refine aw_block ?_)
    refine aw_if rfl (fun h => ?_) (fun h => ?_)
    · have hlt : k < a.length := by omega
      repeat (first | refine aw_seq ?_ | refine ath_n ?_ | refine aw_skip ?_ | refine abl_n ?_ | refine aw_block ?_)
      refine aw_draw hmix ?_
      refine adraw_quiet (by kernel_rfl) ?_
      first | refine qx_op rfl rfl (runs_none rfl) (mv_own (.inl rfl) rfl) ?_ | refine qx_op rfl rfl (runs_none rfl) (mv_sl (.inl rfl) rfl) ?_ | refine qx_op rfl rfl (runs_none rfl) (mv_s (.inl rfl) rfl) ?_ | refine qx_op rfl rfl (runs_none rfl) (mv_emp (.inl rfl) rfl) ?_
      refine qx_op rfl rfl (runs_none rfl) (mv_s (.inl rfl) rfl) ?_
      first | refine qx_op rfl rfl (runs_none rfl) (does_index_sl rfl ts30 ti3 rfl rfl rfl (ix_map (by omega)) rfl) ?_ | refine qx_op rfl rfl (runs_none rfl) (does_index_own rfl ts30 ti3 rfl rfl rfl (by omega)) ?_
      first | refine qx_op rfl rfl (runs_none rfl) (does_load_ref rfl ta3 rfl) ?_ | refine qx_op rfl rfl (runs_none rfl) (does_load_ptr rfl ta3 rfl rfl rfl rfl rfl) ?_
      first | refine qx_op rfl rfl (runs_none rfl) (mv_own (.inl rfl) rfl) ?_ | refine qx_op rfl rfl (runs_none rfl) (mv_sl (.inl rfl) rfl) ?_ | refine qx_op rfl rfl (runs_none rfl) (mv_s (.inl rfl) rfl) ?_ | refine qx_op rfl rfl (runs_none rfl) (mv_emp (.inl rfl) rfl) ?_
      refine qx_op rfl rfl (runs_none rfl) (mv_s (.inl rfl) rfl) ?_
      first | refine qx_op rfl rfl (runs_none rfl) (does_index_sl rfl ts30 ti3 rfl rfl rfl (ix_map (by omega)) rfl) ?_ | refine qx_op rfl rfl (runs_none rfl) (does_index_own rfl ts30 ti3 rfl rfl rfl (by omega)) ?_
      first | refine qx_op rfl rfl (runs_none rfl) (does_load_ref rfl ta3 rfl) ?_ | refine qx_op rfl rfl (runs_none rfl) (does_load_ptr rfl ta3 rfl rfl rfl rfl rfl) ?_
      refine qx_op rfl rfl (runs_none rfl) (does_neq rfl rfl rfl) ?_
      refine qx_nil ?_
      repeat (first | refine aw_seq ?_ | refine ath_n ?_ | refine aw_skip ?_ | refine abl_n ?_ | refine aw_block ?_)
      refine aw_if rfl (fun h => ?_) (fun h => ?_)
      · repeat (first | refine aw_seq ?_ | refine ath_n ?_ | refine aw_skip ?_ | refine abl_n ?_ | refine aw_block ?_)
        refine aw_region ?_
        refine ops_op rfl rfl (runs_none rfl) (mv_s (.inr rfl) rfl) ?_
        refine ops_nil ?_
        repeat (first | refine aw_seq ?_ | refine ath_n ?_ | refine aw_skip ?_ | refine abl_n ?_ | refine aw_block ?_)
        (refine aw_ret ?_; repeat (first | refine ath_r ?_ | refine abl_r ?_))
        refine post1 (.inr rfl) rfl (congrArg eB ?_)
        have : a ≠ b := fun e => by subst e; exact h rfl
        simp [this]
      · repeat (first | refine aw_seq ?_ | refine ath_n ?_ | refine aw_skip ?_ | refine abl_n ?_ | refine aw_block ?_)
        refine aw_region ?_
        refine ops_op rfl rfl (runs_none rfl) (mv_s (.inl rfl) rfl) ?_
        refine ops_op rfl rfl (runs_none rfl) (does_add rfl rfl rfl (IntWalk.i64_in _ (by omega))) ?_
        refine ops_op rfl rfl (runs_none rfl) (mv_s (.inr rfl) rfl) ?_
        refine ops_nil ?_
        repeat (first | refine aw_seq ?_ | refine ath_n ?_ | refine aw_skip ?_ | refine abl_n ?_ | refine aw_block ?_)
        refine ⟨k + 1, ⟨by omega, fun j hj => ?_⟩, by omega, wk_sub _ ⟨rfl, rfl, rfl, trivial⟩⟩
        by_cases e : j = k
        · subst e; simpa using h
        · exact hk.2 j (by omega)
    · (refine aw_exit ?_; repeat (first | refine ath_x ?_ | refine abl_hit ?_ | refine abl_miss rfl ?_ | refine abl_n ?_ | refine ath_n ?_ | refine aw_seq ?_ | refine aw_skip ?_ | refine aw_block ?_))
      refine aw_region ?_
      refine ops_op rfl rfl (runs_none rfl) (mv_s (.inr rfl) rfl) ?_
      refine ops_nil ?_
      repeat (first | refine aw_seq ?_ | refine ath_n ?_ | refine aw_skip ?_ | refine abl_n ?_ | refine aw_block ?_)
      (refine aw_ret ?_; repeat (first | refine ath_r ?_ | refine abl_r ?_))
      refine post1 (.inr rfl) rfl (congrArg eB ?_)
      have : a = b := take_all hl (fun j hj => hk.2 j (by omega))
      simp [this]
end Go.Proofs.Ytmhbfoaecebobaa.Aw
end
section
namespace Go.Proofs.Ytmhbfoaecebobaa
set_option linter.unusedSimpArgs false
set_option linter.unusedVariables false
open Go.RowKit

theorem placesB_lt {n : Int} {l : List Int} (h : placesB n l = true) : ∀ (j i : Nat), i < j → j < l.length → gti l i < gti l j
  | 0, i, hij, _ => by omega
  | j + 1, i, hij, hj => by
    have hb : ¬ badP n l (j + 1) := fun hb => by rw [placesB_false hj hb] at h; cases h
    unfold badP at hb
    simp only [Nat.add_sub_cancel] at hb
    by_cases hji : i = j
    · subst hji; omega
    · have := placesB_lt h j i (by omega) (by omega)
      omega
theorem placesB_tail {n : Int} {p : Int} {ps : List Int} (h : placesB n (p :: ps) = true) : placesB n ps = true := by
  apply placesB_true
  intro k hk
  have hb : ¬ badP n (p :: ps) (k + 1) := fun hb => by rw [placesB_false (by simp; omega) hb] at h; cases h
  unfold badP at hb ⊢
  have e1 : gti (p :: ps) (k + 1) = gti ps k := by simp [gti]
  rw [e1] at hb
  rcases Nat.eq_zero_or_pos k with rfl | hk0
  · omega
  · obtain ⟨j, rfl⟩ : ∃ j, k = j + 1 := ⟨k - 1, by omega⟩
    have e2 : gti (p :: ps) (j + 1) = gti ps j := by simp [gti]
    simp only [Nat.add_sub_cancel] at hb ⊢
    rw [e2] at hb
    omega
theorem placesB_head {n : Int} {p : Int} {ps : List Int} (h : placesB n (p :: ps) = true) : 0 ≤ p ∧ p < n ∧ ∀ q ∈ ps, q.toNat ≠ p.toNat := by
  have h0 := placesB_at h (k := 0) (by simp)
  have e : gti (p :: ps) 0 = p := by simp [gti]
  rw [e] at h0
  refine ⟨h0.1, h0.2.1, fun q hq => ?_⟩
  obtain ⟨k, hk, rfl⟩ := mem_gti hq
  have := placesB_lt h (k + 1) 0 (by omega) (by simp; omega)
  have e1 : gti (p :: ps) (k + 1) = gti ps k := by simp [gti]
  rw [e, e1] at this
  omega
theorem decL_nonneg {n : Int} : ∀ {ps m : List Int}, placesB n ps = true → (∀ i, 0 ≤ gti m i) → (∀ p ∈ ps, 1 ≤ gti m p.toNat) → ∀ i, 0 ≤ gti (decL ps m) i
  | [], m, _, h, _, i => h i
  | p :: ps, m, hp, h, h1, i => by
    obtain ⟨hp0, hp1, hpn⟩ := placesB_head hp
    refine decL_nonneg (placesB_tail hp) (fun j => ?_) (fun q hq => ?_) i
    · rw [gti_set]
      have := h j
      have := h1 p (List.mem_cons_self ..)
      split <;> omega
    · rw [gti_set, if_neg (fun e => hpn q hq e.1.symm)]
      exact h1 q (List.mem_cons_of_mem _ hq)
theorem incL_nonneg : ∀ {ps m : List Int}, (∀ i, 0 ≤ gti m i) → ∀ i, 0 ≤ gti (incL ps m) i
  | [], m, h, i => h i
  | p :: ps, m, h, i => by
    rw [incL]
    refine incL_nonneg (fun j => ?_) i
    rw [gti_set]
    have := h j
    have := h p.toNat
    split <;> omega
theorem enB_at {t : Tr} {m : List Int} (h : enB t m = true) {p : Int} (hp : p ∈ t.inn) : gti m p.toNat ≠ 0 := by
  unfold enB at h
  simp only [Bool.not_eq_true', List.any_eq_false, decide_eq_true_eq] at h
  exact h p hp
theorem all01_iff : ∀ {m : List Int}, (∀ i, 0 ≤ gti m i) → all01 m = !m.any fun y => decide (100 < y)
  | [], _ => rfl
  | x :: m, h => by
    have h0 : 0 ≤ x := by have := h 0; simpa [gti] using this
    have := all01_iff (m := m) (fun i => by have := h (i + 1); simpa [gti] using this)
    simp only [all01, List.any_cons]
    rw [this]
    grind
/-- the marking after a transition that is enabled: too many tokens, or a marking -/
theorem fire_mark {n : Net} {m : List Int} {t : Tr} (hm : mark2B n m = true) (ht : placesB n.places t.inn = true) (he : enB t m = true) :
    mark2B n (incL t.out (decL t.inn m)) = !(incL t.out (decL t.inn m)).any fun y => decide (100 < y) := by
  have hnn : ∀ i, 0 ≤ gti (incL t.out (decL t.inn m)) i := incL_nonneg (decL_nonneg ht (fun i => (mark2B_at hm i).1) (fun p hp => by
    have := enB_at he hp
    have := (mark2B_at hm p.toNat).1
    omega))
  unfold mark2B
  rw [if_neg (by rw [incL_len, decL_len]; have := mark2B_len hm; omega), all01_iff hnn]
theorem fireE_mark {n : Net} {m : List Int} {t : Int} (hm : markB n m = true) (h : (fireE n m t).2 = 0) : markB n (fireE n m t).1 = true := by
  unfold markB at hm ⊢
  simp only [Bool.and_eq_true] at hm ⊢
  refine ⟨hm.1, ?_⟩
  unfold fireE at h ⊢
  split
  · rename_i h1; rw [if_pos h1] at h; simp at h
  · rename_i h1
    rw [if_neg h1] at h
    split
    · rename_i h2
      rw [if_pos h2] at h
      split
      · rename_i h3; rw [if_pos h3] at h; simp at h
      · rename_i h3
        have htr := validB_tr hm.1 (gti_mem (l := n.trans) (k := t.toNat) (by omega))
        rw [fire_mark hm.2 htr.2.1 h2]
        simpa using h3
    · rename_i h2; rw [if_neg h2] at h; simp at h

def FireE (n : Net) (m : List Int) (t : Int) : List Int × Int := if markB n m then fireE n m t else ([], 1)
set_option maxHeartbeats 1000000 in
theorem Fire_any (n : Net) (m : List Int) (t : Int) (vt v : Value) (lo hi lo' hi' : Nat) (w : World) (hv : RdT w lo hi vt n.trans) (hm : RdI w lo' hi' v m) :
    Calls Try.prog 45 #[netV n vt, v, .int .i64 t] w (RetI w (FireE n m t)) := by
  obtain ⟨A, c, rfl, hc, hmm⟩ := hv.form
  obtain ⟨A2, c2, rfl, hc2, hmm2⟩ := hm.form
  have HV := Lib.hid hv
  have HW := Lib.hid hm
  clear hv hm
  cases hvb : markB n m <;> have HVB := Lib.hid hvb <;> clear hvb
  all_goals
    refine calls_cps fun R hR => ?_
    have HR := Lib.hid hR
    clear hR
    go_enter Try.func45, Try.ntmps45
    have M : Hid (Mem [Loc.k4 w.heap.size (.int .i64 n.places) (.slice A n.trans.length c) (.int .i64 n.source) (.int .i64 n.sink), Loc.bl w.heap.size w] (w.alloc (.cells #[.int .i64 n.places, .slice A n.trans.length c, .int .i64 n.source, .int .i64 n.sink] 24))) := Lib.hid ⟨K4.new w _ _ _ _ _, ⟨(Below.refl _ _).alloc (Nat.le_refl _) _, by simp⟩, True.intro⟩
    have hk4 := M.out.1
    go_wp2_with (first
      | (go_at_call 62; refine (marking_is HVB.out _ _ lo hi lo' hi' _ (HV.out.after M.out.2.1.1) (HW.out.after M.out.2.1.1)).mono ?_; rintro e w1 ⟨rfl, hb1⟩; replace M := Lib.hid (M.out.below hb1); clear hb1; replace hk4 := M.out.1)
      | (go_at_call 63; refine (fire_any n m t _ _ lo hi lo' hi' _ (HV.out.after M.out.2.1.1) (HW.out.after M.out.2.1.1) HVB.out).mono ?_; rintro e w2 ⟨A1, c1, rfl, hr1, hb1⟩; have HR1 := Lib.hid hr1; have hws := M.out.2.1.2; replace M := Lib.hid (M.out.below hb1); clear hb1 hr1))
  · exact HR.out _ _ (RetI.nil (by rw [FireE, HVB.out]; rfl) M.out.2.1.1)
  · exact HR.out _ _ (RetI.mk (by rw [FireE, HVB.out]; rfl) rfl HR1.out hws (Nat.le_refl _) M.out.2.1.1)

def canL (m : List Int) : List Int → Bool
  | [] => true
  | p :: ps => if gti m p.toNat < 1 then false else canL m ps
theorem canL_en {m : List Int} (hm : ∀ i, 0 ≤ gti m i) : ∀ ps : List Int, canL m ps = !ps.any fun p => decide (gti m p.toNat = 0)
  | [] => rfl
  | p :: ps => by
    have := hm p.toNat
    rw [canL, canL_en hm ps, List.any_cons]
    grind
set_option maxHeartbeats 1000000 in
theorem can_any (n : Net) (m : List Int) (t : Nat) (vt v : Value) (lo hi lo' hi' : Nat) (w : World) (hv : RdT w lo hi vt n.trans) (hm : RdI w lo' hi' v m) (ht : t < n.trans.length) (hin : ∀ k, k < (gti n.trans t).inn.length → 0 ≤ gti (gti n.trans t).inn k ∧ gti (gti n.trans t).inn k < m.length) :
    Calls Try.prog 80 #[netV n vt, v, .int .i64 t] w fun e w' => e = .returned (.bool (canL m (gti n.trans t).inn)) ∧ Below w.heap.size w w' := by
  obtain ⟨A, c, rfl, hc, hmm⟩ := hv.form
  obtain ⟨A2, c2, rfl, hc2, hmm2⟩ := hm.form
  obtain ⟨b, off, vi, vo, rfl, hbl, hbh, hcell, hri, hro⟩ := RdT.at3 hv ht
  obtain ⟨Ai, ci, rfl, hci, hmi⟩ := hri.form
  have HV := Lib.hid hv
  have HW := Lib.hid hm
  have HRI := Lib.hid hri
  have HN := Lib.hid hin
  clear hv hm hri hro hin
  generalize gti n.trans t = x at *
  refine calls_cps fun R hR => ?_
  have HR := Lib.hid hR
  clear hR
  go_enter Try.func80, Try.ntmps80
  have M : Hid (Mem [Loc.k4 w.heap.size (.int .i64 n.places) (.slice (some ⟨b, off, none⟩) n.trans.length c) (.int .i64 n.source) (.int .i64 n.sink), Loc.bl w.heap.size w] (w.alloc (.cells #[.int .i64 n.places, .slice (some ⟨b, off, none⟩) n.trans.length c, .int .i64 n.source, .int .i64 n.sink] 24))) := Lib.hid ⟨K4.new w _ _ _ _ _, ⟨(Below.refl _ _).alloc (Nat.le_refl _) _, by simp⟩, True.intro⟩
  have hk4 := M.out.1
  replace hcell := C3.aft ((Below.refl w.heap.size w).alloc (Nat.le_refl _) (.cells #[.int .i64 n.places, .slice (some ⟨b, off, none⟩) n.trans.length c, .int .i64 n.source, .int .i64 n.sink] 24)) hcell
  go_wp2_with fail
  generalize w.alloc (.cells #[.int .i64 n.places, .slice (some ⟨b, off, none⟩) n.trans.length c, .int .i64 n.source, .int .i64 n.sink] 24) = W at *
  go_loop [7] (fun v7 => ∃ k : Nat, k ≤ x.inn.length ∧ v7 = .int .i64 k ∧ Hid (canL m (x.inn.drop k) = canL m x.inn)) (fun v7 => x.inn.length - (intOf v7).toNat)
  case atStart => exact ⟨0, by omega, rfl, Lib.hid rfl⟩
  case round =>
    obtain ⟨k, hk, rfl, HI⟩ := hrel
    by_cases hlt : k < x.inn.length
    · have hpr := HN.out k hlt
      obtain ⟨bb, oo, rfl, _, _, hce⟩ := RdI.at1 (HRI.out.after M.out.2.1.1) hlt
      have HD := Lib.hid (drop_gti hlt)
      generalize gti x.inn k = p at *
      obtain ⟨kp, rfl⟩ : ∃ j : Nat, p = j := ⟨p.toNat, by omega⟩
      have hkp : kp < m.length := by omega
      clear hpr
      obtain ⟨b2, o2, rfl, _, _, hce2⟩ := RdI.at1 (HW.out.after M.out.2.1.1) hkp
      have HJ : Hid (canL m x.inn = if gti m kp < 1 then false else canL m (x.inn.drop (k + 1))) := Lib.hid (by rw [← HI.out, HD.out, canL, Int.toNat_natCast])
      generalize gti m kp = y at *
      go_wp2_with fail
      all_goals have hj := HJ.out
      all_goals first
        | ((with_reducible refine HR.out _ _ ⟨?_, ?_⟩) <;> first | exact ret_bool (by clear HJ; go_light; grind) | exact M.out.2.1.1)
        | (refine ⟨⟨k + 1, by omega, by go_num, Lib.hid (by clear HJ; go_light; grind)⟩, by simp [intOf]; omega⟩)
    · obtain rfl : k = x.inn.length := by omega
      have HE : Hid (canL m x.inn = true) := Lib.hid (by rw [← HI.out]; simp [canL])
      clear HI
      go_wp2_with fail
      all_goals ((with_reducible refine HR.out _ _ ⟨?_, ?_⟩) <;> first | exact ret_bool (by rw [HE.out]) | exact M.out.2.1.1)
end Go.Proofs.Ytmhbfoaecebobaa
end
section
namespace Go.Proofs.Ytmhbfoaecebobaa
set_option linter.unusedSimpArgs false
set_option linter.unusedVariables false
open Go.RowKit

theorem rmarking_is {n : Net} {m : List Int} {b : Bool} (hb : mark2B n m = b) (vt v : Value) (lo hi : Nat) (w : World) (hv : RdI w lo hi v m) :
    Calls Try.prog 86 #[netV n vt, v] w fun e w' => e = .returned (.bool b) ∧ Below w.heap.size w w' := hb ▸ rmarking_any n vt m v lo hi w hv
theorem Mem.lit0 {L : List Loc} {w : World} (hM : Mem L w) : Mem (Loc.owI w.heap.size (w.heap.size + 1) (.slice (some ⟨w.heap.size, 0, none⟩) 0 0) [] :: L) (w.alloc (.cells #[] 3)) :=
  ⟨Own.lit w 3 w.heap.size [] #[] 0 rfl rfl (Nat.le_refl _) (Nat.zero_le _) (fun _ => rfl), hM.alloc _⟩
theorem Mem.lit1 {L : List Loc} {w : World} (hM : Mem L w) (x : Int) : Mem (Loc.owI w.heap.size (w.heap.size + 1) (.slice (some ⟨w.heap.size, 0, none⟩) 1 1) [x] :: L) (w.alloc (.cells #[.int .i64 x] 3)) :=
  ⟨Own.lit w 3 w.heap.size [x] #[.int .i64 x] 1 rfl rfl (Nat.le_refl _) (by decide) (fun _ => rfl), hM.alloc _⟩
theorem Mem.app0 {w : World} {L : List Loc} {lo hi : Nat} {A : Option Addr} {c : Nat} {m : List Int} (h : Mem (Loc.owI lo hi (.slice A (([] : List Int).length + m.length) c) ([] ++ m) :: L) w) : Mem (Loc.owI lo hi (.slice A m.length c) m :: L) w := by
  simpa only [List.length_nil, Nat.zero_add, List.nil_append] using h

set_option maxRecDepth 100000 in
set_option maxHeartbeats 4000000 in
theorem rFire_any (n : Net) (m : List Int) (t : Int) (vt v : Value) (lo hi lo' hi' : Nat) (w : World) (hv : RdT w lo hi vt n.trans) (hm : RdI w lo' hi' v m) :
    Calls Try.prog 48 #[netV n vt, v, .int .i64 t] w (RetI w (FireE n m t)) := by
  obtain ⟨A, c, rfl, hc, hmm⟩ := hv.form
  obtain ⟨A2, c2, rfl, hc2, hmm2⟩ := hm.form
  have HV := Lib.hid hv
  have HW := Lib.hid hm
  clear hv hm
  cases hvb : validB n with
  | false =>
    have HVB := Lib.hid hvb
    clear hvb
    refine calls_cps fun R hR => ?_
    have HR := Lib.hid hR
    clear hR
    go_enter Try.func48, Try.ntmps48
    have M : Hid (Mem [Loc.k4 w.heap.size (.int .i64 n.places) (.slice A n.trans.length c) (.int .i64 n.source) (.int .i64 n.sink), Loc.bl w.heap.size w] (w.alloc (.cells #[.int .i64 n.places, .slice A n.trans.length c, .int .i64 n.source, .int .i64 n.sink] 24))) := Lib.hid ⟨K4.new w _ _ _ _ _, ⟨(Below.refl _ _).alloc (Nat.le_refl _) _, by simp⟩, True.intro⟩
    have hk4 := M.out.1
    go_wp2_with (go_at_call 49; refine (rvalid_is HVB.out _ lo hi _ (HV.out.after M.out.2.1.1)).mono ?_; rintro e w1 ⟨rfl, hb1⟩; replace M := Lib.hid (M.out.below hb1); clear hb1; replace hk4 := M.out.1)
    exact HR.out _ _ (RetI.nil (by rw [FireE, markB, HVB.out]; rfl) M.out.2.1.1)
  | true =>
  cases hmb : mark2B n m with
  | false =>
    have HVB := Lib.hid hvb
    have HMB := Lib.hid hmb
    clear hvb hmb
    refine calls_cps fun R hR => ?_
    have HR := Lib.hid hR
    clear hR
    go_enter Try.func48, Try.ntmps48
    have M : Hid (Mem [Loc.k4 w.heap.size (.int .i64 n.places) (.slice A n.trans.length c) (.int .i64 n.source) (.int .i64 n.sink), Loc.bl w.heap.size w] (w.alloc (.cells #[.int .i64 n.places, .slice A n.trans.length c, .int .i64 n.source, .int .i64 n.sink] 24))) := Lib.hid ⟨K4.new w _ _ _ _ _, ⟨(Below.refl _ _).alloc (Nat.le_refl _) _, by simp⟩, True.intro⟩
    have hk4 := M.out.1
    go_wp2_with (first
      | (go_at_call 49; refine (rvalid_is HVB.out _ lo hi _ (HV.out.after M.out.2.1.1)).mono ?_; rintro e w1 ⟨rfl, hb1⟩; replace M := Lib.hid (M.out.below hb1); clear hb1; replace hk4 := M.out.1)
      | (go_at_call 86; refine (rmarking_is HMB.out _ _ lo' hi' _ (HW.out.after M.out.2.1.1)).mono ?_; rintro e w1 ⟨rfl, hb1⟩; replace M := Lib.hid (M.out.below hb1); clear hb1; replace hk4 := M.out.1))
    exact HR.out _ _ (RetI.nil (by rw [FireE, markB, HVB.out, HMB.out]; rfl) M.out.2.1.1)
  | true =>
  have HVB := Lib.hid hvb
  have HMB := Lib.hid hmb
  have hpl := validB_places hvb
  have hlen := mark2B_len hmb
  have HFF : Hid (FireE n m t = fireE n m t) := Lib.hid (by rw [FireE, markB, hvb, hmb]; rfl)
  obtain ⟨np, hnp⟩ : ∃ k : Nat, n.places = k := ⟨n.places.toNat, by omega⟩
  have hml : m.length = np := by omega
  have hnp1 : 1 ≤ np := by omega
  have hnp40 : np ≤ 40 := by omega
  have HNP := Lib.hid hnp
  have HML := Lib.hid hml
  clear hpl hlen hnp hml hvb hmb
  by_cases ht : t < 0 ∨ n.trans.length ≤ t
  · have HT := Lib.hid ht
    refine calls_cps fun R hR => ?_
    have HR := Lib.hid hR
    clear hR
    go_enter Try.func48, Try.ntmps48
    have M : Hid (Mem [Loc.k4 w.heap.size (.int .i64 n.places) (.slice A n.trans.length c) (.int .i64 n.source) (.int .i64 n.sink), Loc.bl w.heap.size w] (w.alloc (.cells #[.int .i64 n.places, .slice A n.trans.length c, .int .i64 n.source, .int .i64 n.sink] 24))) := Lib.hid ⟨K4.new w _ _ _ _ _, ⟨(Below.refl _ _).alloc (Nat.le_refl _) _, by simp⟩, True.intro⟩
    have hk4 := M.out.1
    go_wp2_with (first
      | (go_at_call 49; refine (rvalid_is HVB.out _ lo hi _ (HV.out.after M.out.2.1.1)).mono ?_; rintro e w1 ⟨rfl, hb1⟩; replace M := Lib.hid (M.out.below hb1); clear hb1; replace hk4 := M.out.1)
      | (go_at_call 86; refine (rmarking_is HMB.out _ _ lo' hi' _ (HW.out.after M.out.2.1.1)).mono ?_; rintro e w1 ⟨rfl, hb1⟩; replace M := Lib.hid (M.out.below hb1); clear hb1; replace hk4 := M.out.1))
    all_goals first
      | exact HR.out _ _ (RetI.nil (by rw [HFF.out, fireE, if_pos HT.out]) M.out.2.1.1)
      | (exfalso; go_light; omega)
  · have HT := Lib.hid ht
    obtain ⟨kt, rfl⟩ : ∃ k : Nat, t = k := ⟨t.toNat, by omega⟩
    have hlt : kt < n.trans.length := by omega
    clear ht
    obtain ⟨b, off, vi, vo, rfl, hbl, hbh, hcell, hri, hro⟩ := RdT.at3 HV.out hlt
    have HTR := Lib.hid (validB_tr HVB.out (gti_mem hlt))
    obtain ⟨Ai, ci, rfl, hci, hmi⟩ := hri.form
    obtain ⟨Ao, co, rfl, hco, hmo⟩ := hro.form
    have HFE : Hid (FireE n m kt = if enB (gti n.trans kt) m then
        if (incL (gti n.trans kt).out (decL (gti n.trans kt).inn m)).any (fun y => decide (100 < y)) then ([], 5)
        else (incL (gti n.trans kt).out (decL (gti n.trans kt).inn m), 0)
      else ([], 12)) := Lib.hid (by rw [HFF.out, fireE, if_neg HT.out, Int.toNat_natCast])
    have HCAN : Hid (∀ W, Below w.heap.size w W → Calls Try.prog 80 #[netV n (.slice (some ⟨b, off, none⟩) n.trans.length c), .slice A2 m.length c2, .int .i64 kt] W fun e w' => e = .returned (.bool (enB (gti n.trans kt) m)) ∧ Below W.heap.size W w') :=
      Lib.hid (fun W hW => by
        have h := can_any n m kt _ _ lo hi lo' hi' W (HV.out.after hW) (HW.out.after hW) hlt (fun k hk => by
          have := placesB_at HTR.out.2.1 hk
          have := HNP.out
          have := HML.out
          omega)
        rw [canL_en (fun i => (mark2B_at HMB.out i).1)] at h
        exact h)
    have HFM : Hid (enB (gti n.trans kt) m = true → mark2B n (incL (gti n.trans kt).out (decL (gti n.trans kt).inn m)) = !(incL (gti n.trans kt).out (decL (gti n.trans kt).inn m)).any fun y => decide (100 < y)) := Lib.hid (fun h => fire_mark HMB.out HTR.out.2.1 h)
    generalize gti n.trans kt = x at *
    have HRI := Lib.hid hri
    have HRO := Lib.hid hro
    have hil : x.inn.length ≤ 40 := by have := placesB_len HTR.out.2.1; have := HNP.out; omega
    have hol : x.out.length ≤ 40 := by have := placesB_len HTR.out.2.2; have := HNP.out; omega
    have hx1 : ((kt : Int) < 0) = False := by simp
    have hx2 : ((n.trans.length : Int) ≤ (kt : Int)) = False := by simp; omega
    have HC := Lib.hid hcell
    clear hri hro HT HFF hcell
    refine calls_cps fun R hR => ?_
    have HR := Lib.hid hR
    clear hR
    go_enter Try.func48, Try.ntmps48
    have M : Hid (Mem [Loc.k4 w.heap.size (.int .i64 n.places) (.slice (some ⟨b, off, none⟩) n.trans.length c) (.int .i64 n.source) (.int .i64 n.sink), Loc.bl w.heap.size w] (w.alloc (.cells #[.int .i64 n.places, .slice (some ⟨b, off, none⟩) n.trans.length c, .int .i64 n.source, .int .i64 n.sink] 24))) := Lib.hid ⟨K4.new w _ _ _ _ _, ⟨(Below.refl _ _).alloc (Nat.le_refl _) _, by simp⟩, True.intro⟩
    have hk4 := M.out.1
    go_wp2_with (first
      | (go_at_call 49; refine (rvalid_is HVB.out _ lo hi _ (HV.out.after M.out.2.1.1)).mono ?_; rintro e w1 ⟨rfl, hb1⟩; replace M := Lib.hid (M.out.below hb1); clear hb1; replace hk4 := M.out.1)
      | (go_at_call 86; refine (rmarking_is HMB.out _ _ lo' hi' _ (HW.out.after M.out.2.1.1)).mono ?_; rintro e w1 ⟨rfl, hb1⟩; replace M := Lib.hid (M.out.below hb1); clear hb1; replace hk4 := M.out.1)
      | (go_at_call 80; refine (HCAN.out _ M.out.2.1.1).mono ?_; rintro e w3 ⟨rfl, hb1⟩; replace M := Lib.hid (M.out.below hb1); clear hb1; replace hk4 := M.out.1; have hz3 := M.out.1.2.2.2.2)
      | (at_builtin; refine wpList_app rfl _ _ rfl ti_int (fun _ => rfl) oneI rfl rfl (Mem.lit0 M.out) (by (repeat' (first | exact True.intro | refine And.intro (fun k hk e => ?_) ?_)) <;> (first | exact e | ((try dsimp only [Loc.c1, Loc.c2, Loc.k1, Loc.k2, Loc.k3, Loc.k4, Loc.k6, Loc.fr, Loc.bl, Loc.own, Loc.sz, Loc.rd, Loc.rdI, Loc.rdS, Loc.rdM, Loc.rdT, Loc.ow, Loc.owI] at hk e) <;> omega))) (HW.out.after (M.out.2.1.1.alloc M.out.2.1.2 _)) (by have := HML.out; simp; omega) (by have := HML.out; simp; omega) (by simp) ?_; intro A1 c1 w4 hM1 hs1 hch1; replace M := Lib.hid (Mem.app0 hM1); clear hM1 hch1; (try simp only [World.size_alloc] at hs1)))
    · exact HR.out _ _ (RetI.nil (by have hfe := HFE.out; clear HFE; go_light; grind) M.out.2.1.1)
    · have hEN : enB x m = true := by go_light; grind
      have HEN := Lib.hid hEN
      clear hEN
      obtain ⟨g, cap, hA1, hgl, hgh, hgs⟩ := M.out.1.blk (by have := HML.out; omega)
      injection hA1 with e1 _ e3
      subst e1 e3
      go_loopw [9] (fun v9 wr => ∃ (k : Nat) (cur : List Int), k ≤ x.inn.length ∧ v9 = .int .i64 k ∧ Hid (decL (x.inn.drop k) cur = decL x.inn m) ∧ Hid (Bnd (100 + k) cur) ∧ Hid (cur.length = m.length) ∧ Hid (Mem [Loc.owI w3.heap.size w4.heap.size (.slice (some ⟨g, 0, none⟩) m.length c1) cur, Loc.k4 w.heap.size (.int .i64 n.places) (.slice (some ⟨b, off, none⟩) n.trans.length c) (.int .i64 n.source) (.int .i64 n.sink), Loc.bl w.heap.size w, Loc.sz w4.heap.size] wr)) (fun v9 _ => x.inn.length - (intOf v9).toNat)
      case atStart => exact ⟨0, m, by omega, rfl, Lib.hid rfl, Lib.hid (fun i => by have := mark2B_at HMB.out i; omega), Lib.hid rfl, Lib.hid ⟨M.out.1, M.out.2.1, M.out.2.2.1, Nat.le_refl _, True.intro⟩⟩
      case round =>
        obtain ⟨k, cur, hk, rfl, HI, HBD, HCL, HM⟩ := hrel
        replace hk4 := HM.out.2.1
        have hcr := C3.aft HM.out.2.2.1.1 HC.out
        by_cases hltk : k < x.inn.length
        · obtain ⟨bb, oo, rfl, _, _, hce⟩ := RdI.at1 (HRI.out.after HM.out.2.2.1.1) hltk
          have HD := Lib.hid (drop_gti hltk)
          have hpr := placesB_at HTR.out.2.1 hltk
          generalize gti x.inn k = p at *
          obtain ⟨kp, rfl⟩ : ∃ j : Nat, p = j := ⟨p.toNat, by omega⟩
          have hkp : kp < m.length := by have := HNP.out; have := HML.out; omega
          have hkc : kp < cur.length := by rw [HCL.out]; exact hkp
          have hat := OwnI.at1 HM.out.1 hkc
          have hbd := HBD.out kp
          have HO2 := Lib.hid (OwnI.set (HM.out.drew).1 kp (gti cur kp - 1))
          clear hpr hkc
          go_wp2_with fail
          go_still_tail 24, (by kernel_rfl)
          change wpList _ _ _ _ _ wr.drew
          go_wp2_with fail
          have hA : Hid (decL (x.inn.drop (k + 1)) (cur.set kp (gti cur kp - 1)) = decL x.inn m) := Lib.hid (by
            have h := HI.out
            rw [HD.out, decL, Int.toNat_natCast] at h
            exact h)
          have hB : Hid (Bnd (100 + ((k + 1 : Nat) : Int)) (cur.set kp (gti cur kp - 1))) := Lib.hid (by
            have := HBD.out.dec kp
            rw [show (100 + ((k + 1 : Nat) : Int)) = 100 + (k : Int) + 1 by omega]
            exact this)
          have hC : Hid ((cur.set kp (gti cur kp - 1)).length = m.length) := Lib.hid (by rw [List.length_set]; exact HCL.out)
          have hk1 : k + 1 ≤ x.inn.length := by omega
          have hMr := HM.out.drew.2.set (g := g) (i := kp) (u := .int .i64 (gti cur kp - 1)) (by (repeat' (first | exact True.intro | refine And.intro (fun k hk e => ?_) ?_)) <;> (first | exact e | ((try dsimp only [Loc.c1, Loc.c2, Loc.k1, Loc.k2, Loc.k3, Loc.k4, Loc.k6, Loc.fr, Loc.bl, Loc.own, Loc.sz, Loc.rd, Loc.rdI, Loc.rdS, Loc.rdM, Loc.rdT, Loc.ow, Loc.owI] at hk e) <;> omega)))
          go_roundw
          case rel => (first | exact ⟨k + 1, cur.set kp (gti cur kp - 1), hk1, rfl, hA, hB, hC, Lib.hid ⟨HO2.out, hMr⟩⟩ | ((repeat apply Exists.intro); exact ⟨⟨k + 1, cur.set kp (gti cur kp - 1), hk1, rfl, hA, hB, hC, Lib.hid ⟨HO2.out, hMr⟩⟩, rfl⟩))
          case measure => simp [intOf]; omega
        · obtain rfl : k = x.inn.length := by omega
          have HE : Hid (cur = decL x.inn m) := Lib.hid (by have h := HI.out; simpa [decL] using h)
          clear HI
          go_wp2_with fail
          go_loopw [10] (fun v10 wr => ∃ (k : Nat) (cur : List Int), k ≤ x.out.length ∧ v10 = .int .i64 k ∧ Hid (incL (x.out.drop k) cur = incL x.out (decL x.inn m)) ∧ Hid (Bnd ((100 + x.inn.length) + k) cur) ∧ Hid (cur.length = m.length) ∧ Hid (Mem [Loc.owI w3.heap.size w4.heap.size (.slice (some ⟨g, 0, none⟩) m.length c1) cur, Loc.k4 w.heap.size (.int .i64 n.places) (.slice (some ⟨b, off, none⟩) n.trans.length c) (.int .i64 n.source) (.int .i64 n.sink), Loc.bl w.heap.size w, Loc.sz w4.heap.size] wr)) (fun v10 _ => x.out.length - (intOf v10).toNat)
          case atStart => exact ⟨0, cur, by omega, rfl, Lib.hid (by rw [HE.out]; rfl), Lib.hid (by simpa using HBD.out), HCL, HM⟩
          case round =>
            clear HE HBD HCL HM hk4 hcr
            obtain ⟨k, cur, hk, rfl, HI, HBD, HCL, HM⟩ := hrel
            have hk4 := HM.out.2.1
            have hcr := C3.aft HM.out.2.2.1.1 HC.out
            by_cases hltk : k < x.out.length
            · obtain ⟨bb, oo, rfl, _, _, hce⟩ := RdI.at1 (HRO.out.after HM.out.2.2.1.1) hltk
              have HD := Lib.hid (drop_gti hltk)
              have hpr := placesB_at HTR.out.2.2 hltk
              generalize gti x.out k = p at *
              obtain ⟨kp, rfl⟩ : ∃ j : Nat, p = j := ⟨p.toNat, by omega⟩
              have hkp : kp < m.length := by have := HNP.out; have := HML.out; omega
              have hkc : kp < cur.length := by rw [HCL.out]; exact hkp
              have hat := OwnI.at1 HM.out.1 hkc
              have hbd := HBD.out kp
              have HO2 := Lib.hid (OwnI.set (HM.out.drew).1 kp (gti cur kp + 1))
              clear hpr hkc
              go_wp2_with fail
              go_still_tail 24, (by kernel_rfl)
              change wpList _ _ _ _ _ wr.drew
              go_wp2_with fail
              have hA : Hid (incL (x.out.drop (k + 1)) (cur.set kp (gti cur kp + 1)) = incL x.out (decL x.inn m)) := Lib.hid (by
                have h := HI.out
                rw [HD.out, incL, Int.toNat_natCast] at h
                exact h)
              have hB : Hid (Bnd ((100 + x.inn.length) + ((k + 1 : Nat) : Int)) (cur.set kp (gti cur kp + 1))) := Lib.hid (by
                have := HBD.out.inc kp
                rw [show ((100 + x.inn.length) + ((k + 1 : Nat) : Int)) = (100 + x.inn.length) + (k : Int) + 1 by omega]
                exact this)
              have hC : Hid ((cur.set kp (gti cur kp + 1)).length = m.length) := Lib.hid (by rw [List.length_set]; exact HCL.out)
              have hk1 : k + 1 ≤ x.out.length := by omega
              have hMr := HM.out.drew.2.set (g := g) (i := kp) (u := .int .i64 (gti cur kp + 1)) (by (repeat' (first | exact True.intro | refine And.intro (fun k hk e => ?_) ?_)) <;> (first | exact e | ((try dsimp only [Loc.c1, Loc.c2, Loc.k1, Loc.k2, Loc.k3, Loc.k4, Loc.k6, Loc.fr, Loc.bl, Loc.own, Loc.sz, Loc.rd, Loc.rdI, Loc.rdS, Loc.rdM, Loc.rdT, Loc.ow, Loc.owI] at hk e) <;> omega)))
              go_roundw
              case rel => (first | exact ⟨k + 1, cur.set kp (gti cur kp + 1), hk1, rfl, hA, hB, hC, Lib.hid ⟨HO2.out, hMr⟩⟩ | ((repeat apply Exists.intro); exact ⟨⟨k + 1, cur.set kp (gti cur kp + 1), hk1, rfl, hA, hB, hC, Lib.hid ⟨HO2.out, hMr⟩⟩, rfl⟩))
              case measure => simp [intOf]; omega
            · obtain rfl : k = x.out.length := by omega
              have HE : Hid (cur = incL x.out (decL x.inn m)) := Lib.hid (by have h := HI.out; simpa [incL] using h)
              clear HI
              have M := HM
              clear HM
              go_wp2_with (go_at_call 86; refine (rmarking_any n _ cur _ w3.heap.size w4.heap.size _ M.out.1.rd).mono ?_; rintro e w1 ⟨rfl, hb1⟩; replace M := Lib.hid (M.out.below hb1); clear hb1; skip)
              all_goals (have hfe := HFE.out; have he := HE.out; have hmg := HFM.out HEN.out; rw [← he] at hfe hmg; rw [if_pos HEN.out] at hfe)
              all_goals first
                | exact HR.out _ _ (RetI.nil (by clear HFE HE HFM he; go_light; grind) M.out.2.2.1.1)
                | exact HR.out _ _ (RetI.mk (l := cur) (by clear HFE HE HFM he; go_light; grind) HCL.out.symm M.out.1.rd (by omega) M.out.2.2.2.1 M.out.2.2.1.1)
end Go.Proofs.Ytmhbfoaecebobaa
end
section
namespace Go.Proofs.Ytmhbfoaecebobaa
set_option linter.unusedSimpArgs false
set_option linter.unusedVariables false
open Go.RowKit

def insB (back : Bool) (t : Tr) : List Int := if back then t.out else t.inn
def outsB (back : Bool) (t : Tr) : List Int := if back then t.inn else t.out
/-- the places on a path from a place -/
inductive Rch (n : Net) (back : Bool) (s : Int) : Int → Prop
  | start : Rch n back s s
  | step {i : Nat} {p q : Int} : i < n.trans.length → p ∈ insB back (gti n.trans i) → Rch n back s p → q ∈ outsB back (gti n.trans i) → Rch n back s q
def RchT (n : Net) (back : Bool) (s : Int) (i : Nat) : Prop := ∃ p ∈ insB back (gti n.trans i), Rch n back s p
def endOf (n : Net) (back : Bool) : Int := if back then n.sink else n.source
structure Wf (n : Net) : Prop where
  valid : validB n = true
  ne : n.source ≠ n.sink
  no : ∀ i, i < n.trans.length → n.source ∉ (gti n.trans i).out ∧ n.sink ∉ (gti n.trans i).inn
  places : ∀ back, ∀ p : Nat, p < n.places.toNat → Rch n back (endOf n back) p
  trans : ∀ back, ∀ i, i < n.trans.length → RchT n back (endOf n back) i
open Classical in
noncomputable def wfB (n : Net) : Bool := decide (Wf n)
open Classical in
theorem wfB_true {n : Net} (h : Wf n) : wfB n = true := by unfold wfB; exact decide_eq_true h
open Classical in
theorem wfB_false {n : Net} (h : ¬ Wf n) : wfB n = false := by unfold wfB; exact decide_eq_false h
open Classical in
theorem wfB_wf {n : Net} (h : wfB n = true) : Wf n := by unfold wfB at h; exact of_decide_eq_true h

/-- the places of a valid transition are places -/
theorem placesB_memW {n : Int} {l : List Int} (h : placesB n l = true) {p : Int} (hp : p ∈ l) : 0 ≤ p ∧ p < n := by
  unfold placesB at h
  simp only [List.all_eq_true, List.mem_range] at h
  obtain ⟨k, hk, rfl⟩ := List.getElem_of_mem hp
  have h2 := h k hk
  have this : ¬ badP n l k := by simpa using h2
  unfold badP at this
  have e : gti l k = l[k] := by unfold gti; rw [List.getElem?_eq_getElem hk]; rfl
  rw [e] at this
  omega
theorem validL_at {n : Net} : ∀ {l : List Tr} {i : Nat}, validL n l = true → i < l.length → trB n.places (gti l i) = true
  | [], i, _, h => by simp at h
  | t :: ts, i, hv, h => by
    rw [validL] at hv
    cases i with
    | zero => simp only [gti, List.getElem?_cons_zero, Option.getD_some]; revert hv; split <;> simp_all
    | succ i =>
      have h2 : validL n ts = true := by revert hv; split <;> simp_all
      have := validL_at h2 (i := i) (by simpa using h)
      simpa [gti] using this
def setB (pl : List Bool) : List Int → List Bool
  | [] => pl
  | q :: l => setB (pl.set q.toNat true) l
theorem setB_len : ∀ (l : List Int) (pl : List Bool), (setB pl l).length = pl.length
  | [], pl => rfl
  | q :: l, pl => by rw [setB, setB_len l]; simp
theorem gti_setB (pl : List Bool) (i j : Nat) (x : Bool) : gti (pl.set i x) j = if i = j ∧ j < pl.length then x else gti pl j := by
  unfold gti
  rw [List.getElem?_set]
  by_cases h : i = j
  · subst h
    by_cases h2 : i < pl.length
    · simp [h2]
    · simp [h2, List.getElem?_eq_none (Nat.le_of_not_lt h2)]
  · simp [h]
theorem gti_setB_all : ∀ (l : List Int) (pl : List Bool) (j : Nat), j < pl.length → (gti (setB pl l) j = true ↔ gti pl j = true ∨ ∃ q ∈ l, q.toNat = j)
  | [], pl, j, _ => by simp [setB]
  | q :: l, pl, j, h => by
    rw [setB, gti_setB_all l _ j (by simpa using h), gti_setB]
    by_cases hq : q.toNat = j
    · simp [hq, h]
    · simp [hq]
structure RI (n : Net) (back : Bool) (s : Int) (pl tl : List Bool) : Prop where
  lenp : pl.length = n.places.toNat
  lent : tl.length = n.trans.length
  start : gti pl s.toNat = true
  sp : ∀ p : Nat, p < pl.length → gti pl p = true → Rch n back s p
  st : ∀ i, i < tl.length → gti tl i = true → RchT n back s i ∧ ∀ q ∈ outsB back (gti n.trans i), gti pl q.toNat = true
/-- all places of all transitions are places -/
def Plc (n : Net) : Prop := ∀ i, i < n.trans.length → ∀ back, ∀ q ∈ insB back (gti n.trans i), 0 ≤ q ∧ q < n.places
theorem Plc.out {n : Net} (h : Plc n) {i : Nat} (hi : i < n.trans.length) (back : Bool) : ∀ q ∈ outsB back (gti n.trans i), 0 ≤ q ∧ q < n.places := by
  intro q hq
  refine h i hi (!back) q ?_
  cases back <;> exact hq
theorem Plc.of {n : Net} (h : validB n = true) : Plc n := by
  unfold validB at h
  split at h
  · cases h
  · intro i hi back q hq
    have := validL_at h hi
    unfold trB at this
    simp only [Bool.and_eq_true] at this
    cases back
    · exact placesB_memW this.1.2 hq
    · exact placesB_memW this.2 hq
theorem RI.init {n : Net} {back : Bool} {s : Int} (h0 : 0 ≤ s) (h1 : s < n.places) : RI n back s ((List.replicate n.places.toNat false).set s.toNat true) (List.replicate n.trans.length false) := by
  refine ⟨by simp, by simp, ?_, ?_, ?_⟩
  · rw [gti_setB, if_pos ⟨rfl, by simp; omega⟩]
  · intro p hp hg
    rw [gti_setB] at hg
    split at hg
    · rename_i h
      have : (p : Int) = s := by omega
      rw [this]
      exact .start
    · unfold gti at hg
      rw [List.getElem?_replicate] at hg
      split at hg <;> simp at hg
  · intro i hi hg
    unfold gti at hg
    rw [List.getElem?_replicate] at hg
    split at hg <;> simp at hg
theorem RI.add {n : Net} {back : Bool} {s : Int} {pl tl : List Bool} (h : RI n back s pl tl) (hp : Plc n) {i : Nat} (hi : i < n.trans.length) {p : Int} (hin : p ∈ insB back (gti n.trans i)) (hg : gti pl p.toNat = true) :
    RI n back s (setB pl (outsB back (gti n.trans i))) (tl.set i true) := by
  have hpb := hp i hi back p hin
  have hrp : Rch n back s p := by
    have := h.sp p.toNat (by rw [h.lenp]; omega) hg
    rwa [Int.toNat_of_nonneg hpb.1] at this
  have mono : ∀ j, gti pl j = true → gti (setB pl (outsB back (gti n.trans i))) j = true := by
    intro j hj
    by_cases hl : j < pl.length
    · rw [gti_setB_all _ _ _ hl]; exact .inl hj
    · unfold gti at hj
      rw [List.getElem?_eq_none (by omega)] at hj
      cases hj
  refine ⟨by rw [setB_len]; exact h.lenp, by simpa using h.lent, mono _ h.start, ?_, ?_⟩
  · intro j hj hgj
    rw [setB_len] at hj
    rw [gti_setB_all _ _ _ hj] at hgj
    rcases hgj with hgj | ⟨q, hq, rfl⟩
    · exact h.sp j hj hgj
    · rw [Int.toNat_of_nonneg (hp.out hi back q hq).1]
      exact .step hi hin hrp hq
  · intro j hj hgj
    rw [gti_setB] at hgj
    split at hgj
    · rename_i he
      obtain rfl := he.1
      refine ⟨⟨p, hin, hrp⟩, fun q hq => ?_⟩
      rw [gti_setB_all _ _ _ (by have := hp.out hi back q hq; rw [h.lenp]; omega)]
      exact .inr ⟨q, hq, rfl⟩
    · obtain ⟨h1, h2⟩ := h.st j (by simpa using hj) hgj
      exact ⟨h1, fun q hq => mono _ (h2 q hq)⟩
/-- what 'reached' returns -/
structure RF (n : Net) (back : Bool) (s : Int) (pl tl : List Bool) : Prop where
  lenp : pl.length = n.places.toNat
  lent : tl.length = n.trans.length
  p : ∀ p : Nat, p < n.places.toNat → (gti pl p = true ↔ Rch n back s p)
  t : ∀ i, i < n.trans.length → (gti tl i = true ↔ RchT n back s i)
theorem RI.done {n : Net} {back : Bool} {s : Int} {pl tl : List Bool} (h : RI n back s pl tl) (hp : Plc n) (h0 : 0 ≤ s) (h1 : s < n.places) (hc : ∀ i, i < n.trans.length → gti tl i = false → ∀ p ∈ insB back (gti n.trans i), gti pl p.toNat = false) : RF n back s pl tl := by
  have key : ∀ p, Rch n back s p → 0 ≤ p ∧ gti pl p.toNat = true := by
    intro p hr
    induction hr with
    | start => exact ⟨h0, h.start⟩
    | @step i p q hi hin _ hq ih =>
      refine ⟨(hp.out hi back q hq).1, ?_⟩
      have ht : gti tl i = true := by
        cases hz : gti tl i with
        | true => rfl
        | false => have := hc i hi hz p hin; rw [ih.2] at this; cases this
      exact (h.st i (by rw [h.lent]; exact hi) ht).2 q hq
  refine ⟨h.lenp, h.lent, fun p hpl => ⟨fun hg => h.sp p (by rw [h.lenp]; exact hpl) hg, fun hr => by simpa using (key p hr).2⟩, fun i hi => ⟨fun hg => (h.st i (by rw [h.lent]; exact hi) hg).1, fun ⟨p, hin, hr⟩ => ?_⟩⟩
  cases hz : gti tl i with
  | true => rfl
  | false => have := hc i hi hz p hin; rw [(key p hr).2] at this; cases this
/-- how many are still false -/
def cntF (l : List Bool) : Nat := (l.filter fun x => !x).length
theorem cntF_set : ∀ {l : List Bool} {i : Nat}, i < l.length → gti l i = false → cntF (l.set i true) + 1 = cntF l
  | [], i, h, _ => by simp at h
  | x :: l, i, h, hg => by
    cases i with
    | zero =>
      simp only [gti, List.getElem?_cons_zero, Option.getD_some] at hg
      subst hg
      simp [cntF]
    | succ i =>
      have h1 : i < l.length := by simpa using h
      have h2 : gti l i = false := by simpa [gti] using hg
      have := cntF_set h1 h2
      cases x <;> simp_all [cntF]
theorem any_false {l : List Bool} (h : false ∉ l) {i : Nat} (hi : i < l.length) : gti l i = true := by
  unfold gti
  rw [List.getElem?_eq_getElem hi]
  cases hz : l[i] with
  | true => rfl
  | false => exact absurd (hz ▸ List.getElem_mem hi) h
theorem any_true {l : List Bool} (h : ∀ i, i < l.length → gti l i = true) : false ∉ l := by
  intro hm
  obtain ⟨i, hi, he⟩ := List.getElem_of_mem hm
  have := h i hi
  unfold gti at this
  rw [List.getElem?_eq_getElem hi] at this
  rw [he] at this
  cases this
end Go.Proofs.Ytmhbfoaecebobaa
end
section
namespace Go.Proofs.Ytmhbfoaecebobaa
set_option linter.unusedSimpArgs false
set_option linter.unusedVariables false
open Go.RowKit

abbrev encO (x : Bool) : List Value := [.bool x]
abbrev RdO := Rd 1 encO
abbrev OwnO := Own 4 1 encO
abbrev Loc.owO (lo hi : Nat) (v : Value) (l : List Bool) : Loc := Loc.ow 4 1 encO lo hi v l
theorem ti_bool : TI 109 4 1 1 (.bool false) := TI.mk Try.underlying109 (by kernel_rfl) rfl (by decide)
theorem RdO.at1 {w : World} {lo hi : Nat} {A : Option Addr} {c : Nat} {l : List Bool} (h : RdO w lo hi (.slice A l.length c) l) {k : Nat} (hk : k < l.length) :
    ∃ b off, A = some ⟨b, off, none⟩ ∧ lo ≤ b ∧ b < hi ∧ C1 w b (off + k) (.bool (gti l k)) := by
  obtain ⟨b, off, hA, h1, h2, hc⟩ := Rd.at_ h (fun _ => rfl) (gti_get hk)
  exact ⟨b, off, hA, h1, h2, by have := hc 0 _ rfl; rw [Nat.mul_one] at this; exact this⟩
theorem OwnO.at1 {w : World} {lo hi g n cap : Nat} {l : List Bool} (h : OwnO w lo hi (.slice (some ⟨g, 0, none⟩) n cap) l) {k : Nat} (hk : k < l.length) :
    w.cell? ⟨g, k, none⟩ = some (.bool (gti l k)) ∧ w.frozen? ⟨g, k, none⟩ = false := by
  have := Own.cell h (fun _ => rfl) (gti_get hk) (j := 0) (u := .bool (gti l k)) rfl
  simpa using this
theorem OwnO.set {w : World} {lo hi g n cap : Nat} {l : List Bool} (h : OwnO w lo hi (.slice (some ⟨g, 0, none⟩) n cap) l) (k : Nat) (x : Bool) :
    OwnO (w.setCell ⟨g, k, none⟩ (.bool x)) lo hi (.slice (some ⟨g, 0, none⟩) n cap) (l.set k x) := Own.set1 h (fun _ => rfl) rfl
theorem mk_bool {x : Int} {k : Nat} (h : x = k) (hk : k ≤ 1000000) : ∀ w : World, (Instr.makeSlice 109 (.int .i64 x) (.int .i64 x)).run Try.prog w = .ok (.slice (some ⟨w.heap.size, 0, none⟩) k k) (w.alloc (.cells (madeCells #[.bool false] k) 4)) := by
  intro w
  subst h
  have := run_mk ti_bool w k (by omega) (by omega)
  rw [Nat.mul_one] at this
  exact this
theorem OwnO.made (W : World) (n : Nat) (hn : n ≤ 1000000) : OwnO (W.alloc (.cells (madeCells #[.bool false] n) 4)) W.heap.size (W.heap.size + 1) (.slice (some ⟨W.heap.size, 0, none⟩) n n) (List.replicate n false) := by
  have := Own.made (enc := encO) ti_bool W W.heap.size n false rfl (Nat.le_refl _) (by omega) (fun _ => rfl)
  rw [Nat.mul_one] at this
  exact this
def idxG {α : Type} [DecidableEq α] (x : α) : Nat → List α → Int
  | _, [] => -1
  | k, a :: l => if x = a then (k : Int) else idxG x (k + 1) l
theorem idxG_ge {α : Type} [DecidableEq α] (x : α) : ∀ (l : List α) (k : Nat), decide (0 ≤ idxG x k l) = decide (x ∈ l)
  | [], k => by simp [idxG]
  | a :: l, k => by
    have ih := idxG_ge x l (k + 1)
    rw [idxG]
    by_cases h : x = a
    · rw [if_pos h]
      simp [h]
    · rw [if_neg h, ih]
      simp [h]
theorem dropG {α : Type} [Inhabited α] {l : List α} {k : Nat} (h : k < l.length) : l.drop k = gti l k :: l.drop (k + 1) := by
  rw [List.drop_eq_getElem_cons h]
  congr 1
  unfold gti
  rw [List.getElem?_eq_getElem h]
  rfl
set_option maxHeartbeats 1000000 in
theorem indexI_any (x : Int) (l : List Int) (lo hi : Nat) (v : Value) (w : World) (hv : RdI w lo hi v l) :
    Calls Try.prog 99 #[v, .int .i64 x] w fun e w' => e = .returned (.int .i64 (idxG x 0 l)) ∧ Below w.heap.size w w' := by
  obtain ⟨A, c, rfl, hc, hm⟩ := hv.form
  have HV := Lib.hid hv
  clear hv
  refine calls_cps fun R hR => ?_
  have HR := Lib.hid hR
  clear hR
  go_enter Try.func99, Try.ntmps99
  go_wp2_with fail
  go_loopw [8, 5] (fun v8 _ wr => ∃ (k q : Nat), k ≤ l.length ∧ v8 = .int .i64 k ∧ wr = w.drewN q ∧ Hid (idxG x 0 l = idxG x k (l.drop k))) (fun v8 _ _ => l.length - (intOf v8).toNat)
  case atStart => exact ⟨0, 0, by omega, rfl, rfl, Lib.hid rfl⟩
  case round =>
    obtain ⟨k, q, hk, rfl, rfl, HI⟩ := hrel
    by_cases hlt : k < l.length
    · have hkd : decide ((k : Int) < (l.length : Int)) = true := by simp; omega
      have hkb : (k : Int) < (l.length : Int) := by omega
      obtain ⟨b1, o1, rfl, _, _, f1⟩ := RdI.at1 HV.out hlt
      have HJ : Hid (idxG x 0 l = if x = gti l k then (k : Int) else idxG x (k + 1) (l.drop (k + 1))) := Lib.hid (by rw [HI.out, dropG hlt, idxG])
      generalize gti l k = y at *
      go_wp2
      all_goals have hj := HJ.out
      · refine HR.out _ _ ⟨ret_int ?_, below_drewN (Below.refl _ _) _⟩
        clear HJ HI; go_light; grind
      · refine ⟨⟨k + 1, q, by omega, by go_num, by first | rfl | (rw [World.drewN_drewN]), Lib.hid (by clear HJ HI; go_light; grind)⟩, by simp [intOf]; omega⟩
    · have hkd : decide ((k : Int) < (l.length : Int)) = false := by simp; omega
      have HE : Hid (idxG x 0 l = -1) := Lib.hid (by rw [HI.out, List.drop_eq_nil_of_le (by omega)]; rfl)
      clear HI
      go_wp2
      exact HR.out _ _ ⟨ret_int HE.out.symm, below_drewN (Below.refl _ _) _⟩
set_option maxHeartbeats 400000 in
theorem containsI_any (x : Int) (l : List Int) (lo hi : Nat) (v : Value) (w : World) (hv : RdI w lo hi v l) :
    Calls Try.prog 66 #[v, .int .i64 x] w fun e w' => e = .returned (.bool (decide (x ∈ l))) ∧ Below w.heap.size w w' := by
  have HI := Lib.hid (idxG_ge x l 0)
  have HV := Lib.hid hv
  clear hv
  have M : Hid (Mem [Loc.bl w.heap.size w] w) := Lib.hid ⟨⟨Below.refl _ _, Nat.le_refl _⟩, True.intro⟩
  refine calls_cps fun R hR => ?_
  have HR := Lib.hid hR
  clear hR
  go_enter Try.func66, Try.ntmps66
  go_wp2_with (go_at_call 99; refine (indexI_any x l lo hi _ _ (HV.out.after M.out.1.1)).mono ?_; rintro e w1 ⟨rfl, hb1⟩; replace M := Lib.hid (M.out.below hb1); clear hb1; skip)
  exact HR.out _ _ ⟨ret_bool HI.out, M.out.1.1⟩
set_option maxHeartbeats 1000000 in
theorem indexO_any (x : Bool) (l : List Bool) (lo hi : Nat) (v : Value) (w : World) (hv : RdO w lo hi v l) :
    Calls Try.prog 101 #[v, .bool x] w fun e w' => e = .returned (.int .i64 (idxG x 0 l)) ∧ Below w.heap.size w w' := by
  obtain ⟨A, c, rfl, hc, hm⟩ := hv.form
  have HV := Lib.hid hv
  clear hv
  refine calls_cps fun R hR => ?_
  have HR := Lib.hid hR
  clear hR
  go_enter Try.func101, Try.ntmps101
  go_wp2_with fail
  go_loopw [8, 5] (fun v8 _ wr => ∃ (k q : Nat), k ≤ l.length ∧ v8 = .int .i64 k ∧ wr = w.drewN q ∧ Hid (idxG x 0 l = idxG x k (l.drop k))) (fun v8 _ _ => l.length - (intOf v8).toNat)
  case atStart => exact ⟨0, 0, by omega, rfl, rfl, Lib.hid rfl⟩
  case round =>
    obtain ⟨k, q, hk, rfl, rfl, HI⟩ := hrel
    by_cases hlt : k < l.length
    · have hkd : decide ((k : Int) < (l.length : Int)) = true := by simp; omega
      have hkb : (k : Int) < (l.length : Int) := by omega
      obtain ⟨b1, o1, rfl, _, _, f1⟩ := RdO.at1 HV.out hlt
      have HJ : Hid (idxG x 0 l = if x = gti l k then (k : Int) else idxG x (k + 1) (l.drop (k + 1))) := Lib.hid (by rw [HI.out, dropG hlt, idxG])
      generalize gti l k = y at *
      go_wp2
      all_goals have hj := HJ.out
      · refine HR.out _ _ ⟨ret_int ?_, below_drewN (Below.refl _ _) _⟩
        clear HJ HI; go_light; grind
      · refine ⟨⟨k + 1, q, by omega, by go_num, by first | rfl | (rw [World.drewN_drewN]), Lib.hid (by clear HJ HI; go_light; grind)⟩, by simp [intOf]; omega⟩
    · have hkd : decide ((k : Int) < (l.length : Int)) = false := by simp; omega
      have HE : Hid (idxG x 0 l = -1) := Lib.hid (by rw [HI.out, List.drop_eq_nil_of_le (by omega)]; rfl)
      clear HI
      go_wp2
      exact HR.out _ _ ⟨ret_int HE.out.symm, below_drewN (Below.refl _ _) _⟩
set_option maxHeartbeats 400000 in
theorem containsO_any (x : Bool) (l : List Bool) (lo hi : Nat) (v : Value) (w : World) (hv : RdO w lo hi v l) :
    Calls Try.prog 68 #[v, .bool x] w fun e w' => e = .returned (.bool (decide (x ∈ l))) ∧ Below w.heap.size w w' := by
  have HI := Lib.hid (idxG_ge x l 0)
  have HV := Lib.hid hv
  clear hv
  have M : Hid (Mem [Loc.bl w.heap.size w] w) := Lib.hid ⟨⟨Below.refl _ _, Nat.le_refl _⟩, True.intro⟩
  refine calls_cps fun R hR => ?_
  have HR := Lib.hid hR
  clear hR
  go_enter Try.func68, Try.ntmps68
  go_wp2_with (go_at_call 101; refine (indexO_any x l lo hi _ _ (HV.out.after M.out.1.1)).mono ?_; rintro e w1 ⟨rfl, hb1⟩; replace M := Lib.hid (M.out.below hb1); clear hb1; skip)
  exact HR.out _ _ ⟨ret_bool HI.out, M.out.1.1⟩
end Go.Proofs.Ytmhbfoaecebobaa
end
section
namespace Go.Proofs.Ytmhbfoaecebobaa
set_option linter.unusedSimpArgs false
set_option linter.unusedVariables false
open Go.RowKit

section
variable {P : Program} {C : World → Prop} {Q : Exit → Act → World → Prop} {a : Act} {o : Oper}
end
end Go.Proofs.Ytmhbfoaecebobaa
end
