/-
  Walks of product's at, isState, Start, End, of casebookref02's Names, of casebookref42's IsWord, IsState, Start, End. Conditions: none.
-/
import Derived.Test.YtamhbmaimiifmaaEq
namespace Go.Proofs.Ytamhbmaimiifmaa
set_option linter.unusedSimpArgs false
set_option linter.unusedVariables false
open Go.RowKit

theorem run_slice_lo {t e size bytes : Nat} {z : Value} (ti : TI t e size bytes z) (w : World) (A : Option Addr) (n c k : Nat) (hk : k ≤ n) :
    (Instr.slice t (.slice A n c) (some (.int .i64 (k : Int))) none none).run Try.prog w = .ok (.slice (if c = k then A else A.map (·.add (k * size))) (n - k) (c - k)) w := by
  obtain ⟨i, ht, hi0, hz, hsize, hby, hzs, hsz⟩ := ti
  simp [Instr.slice, run_underlying ht, Instr.sliceBounds, Instr.sliceBound, asIntOf, sizeOf, typeInfo, hi0, hsize, hk]
theorem Rd.dropped {α : Type} {size : Nat} {enc : α → List Value} {w : World} {lo hi : Nat} {A : Option Addr} {c : Nat} {l : List α} (h : Rd size enc w lo hi (.slice A l.length c) l) (he : ∀ a, (enc a).length = size) (k : Nat) (hk : k ≤ l.length) (hc : l.length ≤ c) :
    Rd size enc w lo hi (.slice (if c = k then A else A.map (·.add (k * size))) (l.drop k).length (c - k)) (l.drop k) := by
  have hlen := h.form
  obtain ⟨A', c', e, _, h63⟩ := hlen
  refine ⟨flatMap_len he _, _, _, rfl, by simp; omega, by simp [maxLen]; omega, fun hn => ?_⟩
  obtain ⟨b, off, rfl, h1, h2, hcell⟩ := RdC.cells h (by simp at hn; omega)
  have hck : ¬ c = k := by simp at hn; omega
  refine ⟨b, off + k * size, by rw [if_neg hck]; simp [add_off], h1, h2, fun j u hu => ?_⟩
  have := hcell (k * size + j) u (by
    have hsplit : l.flatMap enc = (l.take k).flatMap enc ++ (l.drop k).flatMap enc := by rw [← List.flatMap_append, List.take_append_drop]
    have hlt : (l.take k).length = k := by simp; omega
    rw [hsplit, List.getElem?_append_right (by rw [flatMap_len he, hlt]; omega), flatMap_len he, hlt]
    simpa using hu)
  rw [Nat.add_assoc]
  exact this
/-- the tail of a list of numbers, as s[1:] gives it -/
theorem RdI.tail1 {w : World} {lo hi : Nat} {A : Option Addr} {c : Nat} {l : List Int} (h : RdI w lo hi (.slice A l.length c) l) (hl : 1 ≤ l.length) (hc : l.length ≤ c) :
    ∃ A' c', (∀ W : World, (Instr.slice 44 (.slice A l.length c) (some (.int .i64 1)) none none).run Try.prog W = .ok (.slice A' (l.drop 1).length c') W) ∧ RdI w lo hi (.slice A' (l.drop 1).length c') (l.drop 1) := by
  refine ⟨_, _, fun W => ?_, Rd.dropped h (fun _ => rfl) 1 hl hc⟩
  have := run_slice_lo ti_int W A l.length c 1 hl
  rw [List.length_drop]
  exact this

theorem toList_inj {x a : ByteArray} : x.toList = a.toList ↔ x = a := by
  rw [ByteArray.toList_eq, ByteArray.toList_eq]
  constructor
  · intro h
    exact ByteArray.ext (Array.toList_inj.1 h)
  · intro h; rw [h]
theorem toList_beq (x a : ByteArray) : (x.toList == a.toList) = decide (x = a) := by
  rw [Bool.eq_iff_iff]; simp [toList_inj]
theorem toList_dec (x a : ByteArray) : decide (x.toList = a.toList) = decide (x = a) := by simp [toList_inj]
def atB (w : List ByteArray) (k : Int) (a : ByteArray) : Bool := decide (k < w.length) && decide (gti w k.toNat = a)
set_option maxHeartbeats 400000 in
theorem at_any (l : List ByteArray) (k : Int) (a : ByteArray) (lo hi : Nat) (v : Value) (w : World) (hv : RdS w lo hi v l) (hk : 0 ≤ k) :
    Calls Try.prog 77 #[v, .int .i64 k, .string a] w fun e w' => e = .returned (.bool (atB l k a)) ∧ Below w.heap.size w w' := by
  obtain ⟨A, c, rfl, hc, hm⟩ := hv.form
  obtain ⟨j, rfl⟩ : ∃ j : Nat, k = j := ⟨k.toNat, by omega⟩
  by_cases hlt : j < l.length
  · obtain ⟨b, off, rfl, _, _, hcell⟩ := RdS.at1 hv hlt
    have HV := Lib.hid hv
    clear hv hk
    have hlt' : (j : Int) < l.length := by omega
    have HE : Hid (atB l j a = decide (gti l j = a)) := Lib.hid (by simp [atB, hlt])
    generalize gti l j = x at *
    refine calls_cps fun R hR => ?_
    have HR := Lib.hid hR
    clear hR
    go_enter Try.func77, Try.ntmps77
    go_wp2_with fail
    all_goals (refine HR.out _ _ ⟨ret_bool ?_, Below.refl _ _⟩ <;> (first | exact HE.out.symm | (rw [HE.out]; go_light; first | rfl | exact toList_beq _ _ | exact toList_dec _ _ | grind [toList_inj])))
  · have hlt' : ¬ (j : Int) < l.length := by omega
    have HE : Hid (atB l j a = false) := Lib.hid (by simp [atB, hlt])
    clear hv hk
    refine calls_cps fun R hR => ?_
    have HR := Lib.hid hR
    clear hR
    go_enter Try.func77, Try.ntmps77
    go_wp2_with fail
    all_goals (refine HR.out _ _ ⟨ret_bool ?_, Below.refl _ _⟩ <;> (first | exact HE.out.symm | (rw [HE.out]; go_light; first | rfl | exact toList_beq _ _ | exact toList_dec _ _ | grind [toList_inj])))

def allN : List ByteArray → Bool
  | [] => true
  | a :: l => if nameB a then allN l else false
theorem allN_eq : ∀ l, allN l = l.all nameB
  | [] => rfl
  | a :: l => by rw [allN, allN_eq l, List.all_cons]; cases nameB a <;> rfl
set_option maxHeartbeats 1000000 in
theorem names_any (l : List ByteArray) (lo hi : Nat) (v : Value) (w : World) (hv : RdS w lo hi v l) :
    Calls Try.prog 88 #[v] w fun e w' => e = .returned (.bool (allN l)) ∧ Below w.heap.size w w' := by
  obtain ⟨A, c, rfl, hc, hm⟩ := hv.form
  have HV := Lib.hid hv
  clear hv
  have M : Hid (Mem [Loc.bl w.heap.size w] w) := Lib.hid ⟨⟨Below.refl _ _, Nat.le_refl _⟩, True.intro⟩
  refine calls_cps fun R hR => ?_
  have HR := Lib.hid hR
  clear hR
  go_enter Try.func88, Try.ntmps88
  go_wp2_with fail
  go_loopw [3] (fun v3 wr => ∃ k : Nat, k ≤ l.length ∧ v3 = .int .i64 k ∧ Hid (allN l = allN (l.drop k)) ∧ Hid (Mem [Loc.bl w.heap.size w] wr)) (fun v3 _ => l.length - (intOf v3).toNat)
  case atStart => exact ⟨0, by omega, rfl, Lib.hid rfl, M⟩
  case round =>
    clear M
    obtain ⟨k, hk, rfl, HI, M⟩ := hrel
    by_cases hlt : k < l.length
    · obtain ⟨b, off, rfl, _, _, hcell⟩ := RdS.at1 (HV.out.after M.out.1.1) hlt
      have HJ : Hid (allN l = if nameB (gti l k) then allN (l.drop (k + 1)) else false) := Lib.hid (by rw [HI.out, drop_gti hlt, allN])
      generalize gti l k = x at *
      go_wp2_with (go_at_call 75; refine (isName2_any _ _).mono ?_; rintro e w1 ⟨rfl, hb1⟩; replace M := Lib.hid (M.out.below hb1); clear hb1; skip)
      all_goals have hj := HJ.out
      all_goals first
        | ((with_reducible refine HR.out _ _ ⟨?_, ?_⟩) <;> first | exact ret_bool (by clear HJ HI; go_light; grind) | exact M.out.1.1)
        | (refine ⟨⟨k + 1, by omega, by go_num, Lib.hid (by clear HJ HI; go_light; grind), M⟩, by simp [intOf]; omega⟩)
    · obtain rfl : k = l.length := by omega
      have HE : Hid (allN l = true) := Lib.hid (by rw [HI.out]; simp [allN])
      clear HI
      go_wp2_with fail
      all_goals ((with_reducible refine HR.out _ _ ⟨?_, ?_⟩) <;> first | exact ret_bool (by rw [HE.out]) | exact M.out.1.1)
set_option maxHeartbeats 400000 in
theorem rIsWord_any (l : List ByteArray) (lo hi : Nat) (v : Value) (w : World) (hv : RdS w lo hi v l) :
    Calls Try.prog 51 #[v] w fun e w' => e = .returned (.bool (wordB l)) ∧ Below w.heap.size w w' := by
  obtain ⟨A, c, rfl, hc, hm⟩ := hv.form
  have HV := Lib.hid hv
  clear hv
  have HE : Hid (wordB l = (decide ((l.length : Int) ≤ 200) && allN l)) := Lib.hid (by rw [wordB, allN_eq]; congr 1; simp; omega)
  have M : Hid (Mem [Loc.bl w.heap.size w] w) := Lib.hid ⟨⟨Below.refl _ _, Nat.le_refl _⟩, True.intro⟩
  refine calls_cps fun R hR => ?_
  have HR := Lib.hid hR
  clear hR
  go_enter Try.func51, Try.ntmps51
  go_wp2_with (go_at_call 88; refine (names_any l lo hi _ _ (HV.out.after M.out.1.1)).mono ?_; rintro e w1 ⟨rfl, hb1⟩; replace M := Lib.hid (M.out.below hb1); clear hb1; skip)
  all_goals ((with_reducible refine HR.out _ _ ⟨?_, ?_⟩) <;> first | exact ret_bool (by rw [HE.out]; go_light; grind) | exact M.out.1.1)
theorem isWord_is {l : List ByteArray} {b : Bool} (hb : wordB l = b) (lo hi : Nat) (v : Value) (w : World) (hv : RdS w lo hi v l) :
    Calls Try.prog 69 #[v] w fun e w' => e = .returned (.bool b) ∧ Below w.heap.size w w' := hb ▸ isWord_any l lo hi v w hv
theorem rIsWord_is {l : List ByteArray} {b : Bool} (hb : wordB l = b) (lo hi : Nat) (v : Value) (w : World) (hv : RdS w lo hi v l) :
    Calls Try.prog 51 #[v] w fun e w' => e = .returned (.bool b) ∧ Below w.heap.size w w' := hb ▸ rIsWord_any l lo hi v w hv

def startE (n : Net) (w : List ByteArray) : List Int × Int := if validB n && wordB w then (0 :: oneL n.places.toNat n.source, 0) else ([], 1)
def endE (n : Net) (w : List ByteArray) : List Int × Int := if validB n && wordB w then (w.length :: oneL n.places.toNat n.sink, 0) else ([], 1)
theorem oneL_len (k : Nat) (p : Int) : (oneL k p).length = k := by simp [oneL]
theorem oneE_true {n : Net} (h : validB n = true) (p : Int) : oneE n p = (oneL n.places.toNat p, 0) := by rw [oneE, h]; rfl
theorem oneE_false {n : Net} (h : validB n = false) (p : Int) : oneE n p = ([], 1) := by rw [oneE, h]; rfl
theorem RetI.of {w : World} {r r' : List Int × Int} {e : Ending} {w' : World} (h : RetI w r e w') (hr : r = r') : RetI w r' e w' := hr ▸ h

set_option maxHeartbeats 1000000 in
theorem Start_any (n : Net) (l : List ByteArray) (vt v : Value) (lo hi lo' hi' : Nat) (w : World) (hv : RdT w lo hi vt n.trans) (hw : RdS w lo' hi' v l) :
    Calls Try.prog 28 #[netV n vt, v] w (RetI w (startE n l)) := by
  obtain ⟨A, c, rfl, hc, hmm⟩ := hv.form
  obtain ⟨A2, c2, rfl, hc2, hmm2⟩ := hw.form
  have HV := Lib.hid hv
  have HW := Lib.hid hw
  clear hv hw
  cases hvb : validB n with
  | false =>
    have HVB := Lib.hid hvb
    have HO := Lib.hid (oneE_false hvb n.source)
    clear hvb
    refine calls_cps fun R hR => ?_
    have HR := Lib.hid hR
    clear hR
    go_enter Try.func28, Try.ntmps28
    have M : Hid (Mem [Loc.k4 w.heap.size (.int .i64 n.places) (.slice A n.trans.length c) (.int .i64 n.source) (.int .i64 n.sink), Loc.bl w.heap.size w] (w.alloc (.cells #[.int .i64 n.places, .slice A n.trans.length c, .int .i64 n.source, .int .i64 n.sink] 24))) := Lib.hid ⟨K4.new w _ _ _ _ _, ⟨(Below.refl _ _).alloc (Nat.le_refl _) _, by simp⟩, True.intro⟩
    have hk4 := M.out.1
    go_wp2_with (first
      | (go_at_call 25; refine (initial_any n _ lo hi _ (HV.out.after M.out.2.1.1)).mono ?_; rintro e w1 hret; replace hret := hret.of HO.out; obtain ⟨A1, c1, rfl, hr1, hb1⟩ := hret; replace M := Lib.hid (M.out.below hb1); replace hk4 := M.out.1; clear hb1 hr1))
    exact HR.out _ _ (RetI.nil (by rw [startE, HVB.out]; rfl) M.out.2.1.1)
  | true =>
    have HVB := Lib.hid hvb
    have HO := Lib.hid (oneE_true hvb n.source)
    have hpl := validB_places hvb
    have HPL := Lib.hid hpl
    clear hvb hpl
    cases hwb : wordB l with
    | false =>
      have HWB := Lib.hid hwb
      clear hwb
      refine calls_cps fun R hR => ?_
      have HR := Lib.hid hR
      clear hR
      go_enter Try.func28, Try.ntmps28
      have M : Hid (Mem [Loc.k4 w.heap.size (.int .i64 n.places) (.slice A n.trans.length c) (.int .i64 n.source) (.int .i64 n.sink), Loc.bl w.heap.size w] (w.alloc (.cells #[.int .i64 n.places, .slice A n.trans.length c, .int .i64 n.source, .int .i64 n.sink] 24))) := Lib.hid ⟨K4.new w _ _ _ _ _, ⟨(Below.refl _ _).alloc (Nat.le_refl _) _, by simp⟩, True.intro⟩
      have hk4 := M.out.1
      go_wp2_with (first
        | (go_at_call 25; refine (initial_any n _ lo hi _ (HV.out.after M.out.2.1.1)).mono ?_; rintro e w1 hret; replace hret := hret.of HO.out; obtain ⟨A1, c1, rfl, hr1, hb1⟩ := hret; replace M := Lib.hid (M.out.below hb1); replace hk4 := M.out.1; clear hb1 hr1)
        | (go_at_call 69; refine (isWord_is HWB.out lo' hi' _ _ (HW.out.after M.out.2.1.1)).mono ?_; rintro e w1 ⟨rfl, hb1⟩; replace M := Lib.hid (M.out.below hb1); clear hb1; skip))
      exact HR.out _ _ (RetI.nil (by rw [startE, HVB.out, HWB.out]; rfl) M.out.2.1.1)
    | true =>
      have HWB := Lib.hid hwb
      clear hwb
      refine calls_cps fun R hR => ?_
      have HR := Lib.hid hR
      clear hR
      go_enter Try.func28, Try.ntmps28
      have M : Hid (Mem [Loc.k4 w.heap.size (.int .i64 n.places) (.slice A n.trans.length c) (.int .i64 n.source) (.int .i64 n.sink), Loc.bl w.heap.size w] (w.alloc (.cells #[.int .i64 n.places, .slice A n.trans.length c, .int .i64 n.source, .int .i64 n.sink] 24))) := Lib.hid ⟨K4.new w _ _ _ _ _, ⟨(Below.refl _ _).alloc (Nat.le_refl _) _, by simp⟩, True.intro⟩
      have hk4 := M.out.1
      go_wp2_with (first
        | (go_at_call 25; refine (initial_any n _ lo hi _ (HV.out.after M.out.2.1.1)).mono ?_; rintro e w1 hret; replace hret := hret.of HO.out; obtain ⟨A1, c1, rfl, hr1, hb1⟩ := hret; have HR1 := Lib.hid hr1; have hz1 := M.out.2.1.2; replace M := Lib.hid (Mem.cons (a := Loc.rdI _ _ _ _) hr1 (M.out.below hb1)); replace hk4 := M.out.2.1; clear hb1 hr1)
        | (go_at_call 69; refine (isWord_is HWB.out lo' hi' _ _ (HW.out.after M.out.2.2.1.1)).mono ?_; rintro e w1 ⟨rfl, hb1⟩; replace M := Lib.hid (M.out.below hb1); clear hb1; have hz2 := M.out.2.2.1.2)
        | (at_builtin; refine wpList_app rfl _ _ rfl ti_int (fun _ => rfl) oneI rfl rfl (Mem.lit1 M.out.2.2 0) (by (repeat' (first | exact True.intro | refine And.intro (fun k hk e => ?_) ?_)) <;> (first | exact e | ((try dsimp only [Loc.c1, Loc.c2, Loc.k1, Loc.k2, Loc.k3, Loc.k4, Loc.k6, Loc.fr, Loc.bl, Loc.own, Loc.sz, Loc.rd, Loc.rdI, Loc.rdS, Loc.rdM, Loc.rdT, Loc.ow, Loc.owI] at hk e) <;> omega))) (M.out.1.after ((Below.refl _ _).alloc (Nat.le_refl _) _)) (by have := HPL.out; simp [oneL_len]; omega) (by have := HPL.out; simp [oneL_len]; omega) (by simp) ?_; intro A1 c1 w9 hM1 hs1 hch1; replace M := Lib.hid hM1; clear hM1 hch1))
      exact HR.out _ _ (RetI.mk (l := 0 :: oneL n.places.toNat n.source) (by rw [startE, HVB.out, HWB.out]; rfl) (by simp; omega) M.out.1.rd hz2 (Nat.le_refl _) M.out.2.1.1)
set_option maxHeartbeats 1000000 in
theorem End_any (n : Net) (l : List ByteArray) (vt v : Value) (lo hi lo' hi' : Nat) (w : World) (hv : RdT w lo hi vt n.trans) (hw : RdS w lo' hi' v l) :
    Calls Try.prog 30 #[netV n vt, v] w (RetI w (endE n l)) := by
  obtain ⟨A, c, rfl, hc, hmm⟩ := hv.form
  obtain ⟨A2, c2, rfl, hc2, hmm2⟩ := hw.form
  have HV := Lib.hid hv
  have HW := Lib.hid hw
  clear hv hw
  cases hvb : validB n with
  | false =>
    have HVB := Lib.hid hvb
    have HO := Lib.hid (oneE_false hvb n.sink)
    clear hvb
    refine calls_cps fun R hR => ?_
    have HR := Lib.hid hR
    clear hR
    go_enter Try.func30, Try.ntmps30
    have M : Hid (Mem [Loc.k4 w.heap.size (.int .i64 n.places) (.slice A n.trans.length c) (.int .i64 n.source) (.int .i64 n.sink), Loc.bl w.heap.size w] (w.alloc (.cells #[.int .i64 n.places, .slice A n.trans.length c, .int .i64 n.source, .int .i64 n.sink] 24))) := Lib.hid ⟨K4.new w _ _ _ _ _, ⟨(Below.refl _ _).alloc (Nat.le_refl _) _, by simp⟩, True.intro⟩
    have hk4 := M.out.1
    go_wp2_with (first
      | (go_at_call 26; refine (final_any n _ lo hi _ (HV.out.after M.out.2.1.1)).mono ?_; rintro e w1 hret; replace hret := hret.of HO.out; obtain ⟨A1, c1, rfl, hr1, hb1⟩ := hret; replace M := Lib.hid (M.out.below hb1); replace hk4 := M.out.1; clear hb1 hr1))
    exact HR.out _ _ (RetI.nil (by rw [endE, HVB.out]; rfl) M.out.2.1.1)
  | true =>
    have HVB := Lib.hid hvb
    have HO := Lib.hid (oneE_true hvb n.sink)
    have hpl := validB_places hvb
    have HPL := Lib.hid hpl
    clear hvb hpl
    cases hwb : wordB l with
    | false =>
      have HWB := Lib.hid hwb
      clear hwb
      refine calls_cps fun R hR => ?_
      have HR := Lib.hid hR
      clear hR
      go_enter Try.func30, Try.ntmps30
      have M : Hid (Mem [Loc.k4 w.heap.size (.int .i64 n.places) (.slice A n.trans.length c) (.int .i64 n.source) (.int .i64 n.sink), Loc.bl w.heap.size w] (w.alloc (.cells #[.int .i64 n.places, .slice A n.trans.length c, .int .i64 n.source, .int .i64 n.sink] 24))) := Lib.hid ⟨K4.new w _ _ _ _ _, ⟨(Below.refl _ _).alloc (Nat.le_refl _) _, by simp⟩, True.intro⟩
      have hk4 := M.out.1
      go_wp2_with (first
        | (go_at_call 26; refine (final_any n _ lo hi _ (HV.out.after M.out.2.1.1)).mono ?_; rintro e w1 hret; replace hret := hret.of HO.out; obtain ⟨A1, c1, rfl, hr1, hb1⟩ := hret; replace M := Lib.hid (M.out.below hb1); replace hk4 := M.out.1; clear hb1 hr1)
        | (go_at_call 69; refine (isWord_is HWB.out lo' hi' _ _ (HW.out.after M.out.2.1.1)).mono ?_; rintro e w1 ⟨rfl, hb1⟩; replace M := Lib.hid (M.out.below hb1); clear hb1; skip))
      exact HR.out _ _ (RetI.nil (by rw [endE, HVB.out, HWB.out]; rfl) M.out.2.1.1)
    | true =>
      have HWB := Lib.hid hwb
      clear hwb
      refine calls_cps fun R hR => ?_
      have HR := Lib.hid hR
      clear hR
      go_enter Try.func30, Try.ntmps30
      have M : Hid (Mem [Loc.k4 w.heap.size (.int .i64 n.places) (.slice A n.trans.length c) (.int .i64 n.source) (.int .i64 n.sink), Loc.bl w.heap.size w] (w.alloc (.cells #[.int .i64 n.places, .slice A n.trans.length c, .int .i64 n.source, .int .i64 n.sink] 24))) := Lib.hid ⟨K4.new w _ _ _ _ _, ⟨(Below.refl _ _).alloc (Nat.le_refl _) _, by simp⟩, True.intro⟩
      have hk4 := M.out.1
      go_wp2_with (first
        | (go_at_call 26; refine (final_any n _ lo hi _ (HV.out.after M.out.2.1.1)).mono ?_; rintro e w1 hret; replace hret := hret.of HO.out; obtain ⟨A1, c1, rfl, hr1, hb1⟩ := hret; have HR1 := Lib.hid hr1; have hz1 := M.out.2.1.2; replace M := Lib.hid (Mem.cons (a := Loc.rdI _ _ _ _) hr1 (M.out.below hb1)); replace hk4 := M.out.2.1; clear hb1 hr1)
        | (go_at_call 69; refine (isWord_is HWB.out lo' hi' _ _ (HW.out.after M.out.2.2.1.1)).mono ?_; rintro e w1 ⟨rfl, hb1⟩; replace M := Lib.hid (M.out.below hb1); clear hb1; have hz2 := M.out.2.2.1.2)
        | (at_builtin; refine wpList_app rfl _ _ rfl ti_int (fun _ => rfl) oneI rfl rfl (Mem.lit1 M.out.2.2 (l.length : Int)) (by (repeat' (first | exact True.intro | refine And.intro (fun k hk e => ?_) ?_)) <;> (first | exact e | ((try dsimp only [Loc.c1, Loc.c2, Loc.k1, Loc.k2, Loc.k3, Loc.k4, Loc.k6, Loc.fr, Loc.bl, Loc.own, Loc.sz, Loc.rd, Loc.rdI, Loc.rdS, Loc.rdM, Loc.rdT, Loc.ow, Loc.owI] at hk e) <;> omega))) (M.out.1.after ((Below.refl _ _).alloc (Nat.le_refl _) _)) (by have := HPL.out; simp [oneL_len]; omega) (by have := HPL.out; simp [oneL_len]; omega) (by simp) ?_; intro A1 c1 w9 hM1 hs1 hch1; replace M := Lib.hid hM1; clear hM1 hch1))
      exact HR.out _ _ (RetI.mk (l := (l.length : Int) :: oneL n.places.toNat n.sink) (by rw [endE, HVB.out, HWB.out]; rfl) (by simp; omega) M.out.1.rd hz2 (Nat.le_refl _) M.out.2.1.1)

set_option maxHeartbeats 1000000 in
theorem rStart_any (n : Net) (l : List ByteArray) (vt v : Value) (lo hi lo' hi' : Nat) (w : World) (hv : RdT w lo hi vt n.trans) (hw : RdS w lo' hi' v l) :
    Calls Try.prog 29 #[netV n vt, v] w (RetI w (startE n l)) := by
  obtain ⟨A, c, rfl, hc, hmm⟩ := hv.form
  obtain ⟨A2, c2, rfl, hc2, hmm2⟩ := hw.form
  have HV := Lib.hid hv
  have HW := Lib.hid hw
  clear hv hw
  cases hvb : validB n with
  | false =>
    have HVB := Lib.hid hvb
    clear hvb
    refine calls_cps fun R hR => ?_
    have HR := Lib.hid hR
    clear hR
    go_enter Try.func29, Try.ntmps29
    have M : Hid (Mem [Loc.k4 w.heap.size (.int .i64 n.places) (.slice A n.trans.length c) (.int .i64 n.source) (.int .i64 n.sink), Loc.bl w.heap.size w] (w.alloc (.cells #[.int .i64 n.places, .slice A n.trans.length c, .int .i64 n.source, .int .i64 n.sink] 24))) := Lib.hid ⟨K4.new w _ _ _ _ _, ⟨(Below.refl _ _).alloc (Nat.le_refl _) _, by simp⟩, True.intro⟩
    have hk4 := M.out.1
    go_wp2_with (go_at_call 50; refine (rvalid_is HVB.out _ lo hi _ (HV.out.after M.out.2.1.1)).mono ?_; rintro e w1 ⟨rfl, hb1⟩; replace M := Lib.hid (M.out.below hb1); clear hb1; replace hk4 := M.out.1)
    exact HR.out _ _ (RetI.nil (by rw [startE, HVB.out]; rfl) M.out.2.1.1)
  | true =>
    have HVB := Lib.hid hvb
    have hpl := validB_places hvb
    have HPL := Lib.hid hpl
    have HIN := Lib.hid (fun W => rInitial_any n n.places.toNat (.slice A n.trans.length c) W (by omega) (by omega) (validB_ends hvb).1.1)
    clear hvb hpl
    cases hwb : wordB l with
    | false =>
      have HWB := Lib.hid hwb
      clear hwb
      refine calls_cps fun R hR => ?_
      have HR := Lib.hid hR
      clear hR
      go_enter Try.func29, Try.ntmps29
      have M : Hid (Mem [Loc.k4 w.heap.size (.int .i64 n.places) (.slice A n.trans.length c) (.int .i64 n.source) (.int .i64 n.sink), Loc.bl w.heap.size w] (w.alloc (.cells #[.int .i64 n.places, .slice A n.trans.length c, .int .i64 n.source, .int .i64 n.sink] 24))) := Lib.hid ⟨K4.new w _ _ _ _ _, ⟨(Below.refl _ _).alloc (Nat.le_refl _) _, by simp⟩, True.intro⟩
      have hk4 := M.out.1
      go_wp2_with (first
        | (go_at_call 50; refine (rvalid_is HVB.out _ lo hi _ (HV.out.after M.out.2.1.1)).mono ?_; rintro e w1 ⟨rfl, hb1⟩; replace M := Lib.hid (M.out.below hb1); clear hb1; replace hk4 := M.out.1)
        | (go_at_call 51; refine (rIsWord_is HWB.out lo' hi' _ _ (HW.out.after M.out.2.1.1)).mono ?_; rintro e w1 ⟨rfl, hb1⟩; replace M := Lib.hid (M.out.below hb1); clear hb1; replace hk4 := M.out.1))
      exact HR.out _ _ (RetI.nil (by rw [startE, HVB.out, HWB.out]; rfl) M.out.2.1.1)
    | true =>
      have HWB := Lib.hid hwb
      clear hwb
      refine calls_cps fun R hR => ?_
      have HR := Lib.hid hR
      clear hR
      go_enter Try.func29, Try.ntmps29
      have M : Hid (Mem [Loc.k4 w.heap.size (.int .i64 n.places) (.slice A n.trans.length c) (.int .i64 n.source) (.int .i64 n.sink), Loc.bl w.heap.size w] (w.alloc (.cells #[.int .i64 n.places, .slice A n.trans.length c, .int .i64 n.source, .int .i64 n.sink] 24))) := Lib.hid ⟨K4.new w _ _ _ _ _, ⟨(Below.refl _ _).alloc (Nat.le_refl _) _, by simp⟩, True.intro⟩
      have hk4 := M.out.1
      go_wp2_with (first
        | (go_at_call 50; refine (rvalid_is HVB.out _ lo hi _ (HV.out.after M.out.2.1.1)).mono ?_; rintro e w1 ⟨rfl, hb1⟩; replace M := Lib.hid (M.out.below hb1); clear hb1; replace hk4 := M.out.1)
        | (go_at_call 51; refine (rIsWord_is HWB.out lo' hi' _ _ (HW.out.after M.out.2.1.1)).mono ?_; rintro e w1 ⟨rfl, hb1⟩; replace M := Lib.hid (M.out.below hb1); clear hb1; replace hk4 := M.out.1)
        | (go_at_call 71; refine (HIN.out _).mono ?_; rintro e w5 ⟨A5, c5, rfl, hr5, hb5⟩; have HR5 := Lib.hid hr5; replace M := Lib.hid (M.out.below hb5); have hz5 := M.out.2.1.2; clear hb5 hr5)
        | (go_at_call 70; refine (rstate_any _ _ _ _ _ _ HR5.out (by have := HPL.out; rw [oneL_len]; omega)).mono ?_; rintro e w6 ⟨A6, c6, rfl, hr6, hb6⟩; have HR6 := Lib.hid hr6; replace M := Lib.hid (M.out.below hb6); clear hb6 hr6))
      exact HR.out _ _ (RetI.mk (l := 0 :: oneL n.places.toNat n.source) (by rw [startE, HVB.out, HWB.out]; rfl) rfl HR6.out hz5 (Nat.le_refl _) M.out.2.1.1)

set_option maxHeartbeats 1000000 in
theorem rEnd_any (n : Net) (l : List ByteArray) (vt v : Value) (lo hi lo' hi' : Nat) (w : World) (hv : RdT w lo hi vt n.trans) (hw : RdS w lo' hi' v l) :
    Calls Try.prog 31 #[netV n vt, v] w (RetI w (endE n l)) := by
  obtain ⟨A, c, rfl, hc, hmm⟩ := hv.form
  obtain ⟨A2, c2, rfl, hc2, hmm2⟩ := hw.form
  have HV := Lib.hid hv
  have HW := Lib.hid hw
  clear hv hw
  cases hvb : validB n with
  | false =>
    have HVB := Lib.hid hvb
    clear hvb
    refine calls_cps fun R hR => ?_
    have HR := Lib.hid hR
    clear hR
    go_enter Try.func31, Try.ntmps31
    have M : Hid (Mem [Loc.k4 w.heap.size (.int .i64 n.places) (.slice A n.trans.length c) (.int .i64 n.source) (.int .i64 n.sink), Loc.bl w.heap.size w] (w.alloc (.cells #[.int .i64 n.places, .slice A n.trans.length c, .int .i64 n.source, .int .i64 n.sink] 24))) := Lib.hid ⟨K4.new w _ _ _ _ _, ⟨(Below.refl _ _).alloc (Nat.le_refl _) _, by simp⟩, True.intro⟩
    have hk4 := M.out.1
    go_wp2_with (go_at_call 50; refine (rvalid_is HVB.out _ lo hi _ (HV.out.after M.out.2.1.1)).mono ?_; rintro e w1 ⟨rfl, hb1⟩; replace M := Lib.hid (M.out.below hb1); clear hb1; replace hk4 := M.out.1)
    exact HR.out _ _ (RetI.nil (by rw [endE, HVB.out]; rfl) M.out.2.1.1)
  | true =>
    have HVB := Lib.hid hvb
    have hpl := validB_places hvb
    have HPL := Lib.hid hpl
    have HIN := Lib.hid (fun W => rFinal_any n n.places.toNat (.slice A n.trans.length c) W (by omega) (by omega) (validB_ends hvb).2.1)
    clear hvb hpl
    cases hwb : wordB l with
    | false =>
      have HWB := Lib.hid hwb
      clear hwb
      refine calls_cps fun R hR => ?_
      have HR := Lib.hid hR
      clear hR
      go_enter Try.func31, Try.ntmps31
      have M : Hid (Mem [Loc.k4 w.heap.size (.int .i64 n.places) (.slice A n.trans.length c) (.int .i64 n.source) (.int .i64 n.sink), Loc.bl w.heap.size w] (w.alloc (.cells #[.int .i64 n.places, .slice A n.trans.length c, .int .i64 n.source, .int .i64 n.sink] 24))) := Lib.hid ⟨K4.new w _ _ _ _ _, ⟨(Below.refl _ _).alloc (Nat.le_refl _) _, by simp⟩, True.intro⟩
      have hk4 := M.out.1
      go_wp2_with (first
        | (go_at_call 50; refine (rvalid_is HVB.out _ lo hi _ (HV.out.after M.out.2.1.1)).mono ?_; rintro e w1 ⟨rfl, hb1⟩; replace M := Lib.hid (M.out.below hb1); clear hb1; replace hk4 := M.out.1)
        | (go_at_call 51; refine (rIsWord_is HWB.out lo' hi' _ _ (HW.out.after M.out.2.1.1)).mono ?_; rintro e w1 ⟨rfl, hb1⟩; replace M := Lib.hid (M.out.below hb1); clear hb1; replace hk4 := M.out.1))
      exact HR.out _ _ (RetI.nil (by rw [endE, HVB.out, HWB.out]; rfl) M.out.2.1.1)
    | true =>
      have HWB := Lib.hid hwb
      clear hwb
      refine calls_cps fun R hR => ?_
      have HR := Lib.hid hR
      clear hR
      go_enter Try.func31, Try.ntmps31
      have M : Hid (Mem [Loc.k4 w.heap.size (.int .i64 n.places) (.slice A n.trans.length c) (.int .i64 n.source) (.int .i64 n.sink), Loc.bl w.heap.size w] (w.alloc (.cells #[.int .i64 n.places, .slice A n.trans.length c, .int .i64 n.source, .int .i64 n.sink] 24))) := Lib.hid ⟨K4.new w _ _ _ _ _, ⟨(Below.refl _ _).alloc (Nat.le_refl _) _, by simp⟩, True.intro⟩
      have hk4 := M.out.1
      go_wp2_with (first
        | (go_at_call 50; refine (rvalid_is HVB.out _ lo hi _ (HV.out.after M.out.2.1.1)).mono ?_; rintro e w1 ⟨rfl, hb1⟩; replace M := Lib.hid (M.out.below hb1); clear hb1; replace hk4 := M.out.1)
        | (go_at_call 51; refine (rIsWord_is HWB.out lo' hi' _ _ (HW.out.after M.out.2.1.1)).mono ?_; rintro e w1 ⟨rfl, hb1⟩; replace M := Lib.hid (M.out.below hb1); clear hb1; replace hk4 := M.out.1)
        | (go_at_call 72; refine (HIN.out _).mono ?_; rintro e w5 ⟨A5, c5, rfl, hr5, hb5⟩; have HR5 := Lib.hid hr5; replace M := Lib.hid (M.out.below hb5); have hz5 := M.out.2.1.2; clear hb5 hr5)
        | (go_at_call 70; refine (rstate_any _ _ _ _ _ _ HR5.out (by have := HPL.out; rw [oneL_len]; omega)).mono ?_; rintro e w6 ⟨A6, c6, rfl, hr6, hb6⟩; have HR6 := Lib.hid hr6; replace M := Lib.hid (M.out.below hb6); clear hb6 hr6))
      exact HR.out _ _ (RetI.mk (l := (l.length : Int) :: oneL n.places.toNat n.sink) (by rw [endE, HVB.out, HWB.out]; rfl) rfl HR6.out hz5 (Nat.le_refl _) M.out.2.1.1)
end Go.Proofs.Ytamhbmaimiifmaa
