/-
  Walks of petri's Valid. Conditions: none.
-/
import Derived.Test.YtmhbfoaecebobaaPlaces2
import Derived.Test.YtmhbfoaecebobaaOwn
namespace Go.Proofs.Ytmhbfoaecebobaa
set_option linter.unusedSimpArgs false
set_option linter.unusedVariables false
open Go.RowKit

abbrev K3 (w : World) (g : Nat) (a b c : Value) : Prop := w.cell? ⟨g, 0, none⟩ = some a ∧ w.cell? ⟨g, 1, none⟩ = some b ∧ w.cell? ⟨g, 2, none⟩ = some c ∧ g < w.heap.size
theorem K3.of_block {W W' : World} {g : Nat} {a b c : Value} (h : K3 W g a b c) (he : W'.heap[g]? = W.heap[g]?) (hs : W.heap.size ≤ W'.heap.size) : K3 W' g a b c := by
  obtain ⟨h1, h2, h3, h7⟩ := h
  exact ⟨(World.cell?_of_block (w := W) he).trans h1, (World.cell?_of_block (w := W) he).trans h2, (World.cell?_of_block (w := W) he).trans h3, Nat.lt_of_lt_of_le h7 hs⟩
theorem K3.aft {W w1 : World} {g : Nat} {a b c : Value} (hb : Below W.heap.size W w1) (h : K3 W g a b c) : K3 w1 g a b c := K3.of_block h (hb.block g h.2.2.2) hb.size
theorem K3.new (W : World) (a b c : Value) (t : TypeId) : K3 (W.alloc (.cells #[a, b, c] t)) W.heap.size a b c := by simp [K3, go_sem]
abbrev Loc.k3 (g : Nat) (a b c : Value) : Loc := ⟨fun w => K3 w g a b c, fun k => k = g, fun h hd hp => K3.of_block hp (h.block g hp.2.2.2 (hd g rfl)) h.size⟩

theorem isEmpty_ne {s : ByteArray} (h : ¬ s = ByteArray.empty) : s.toList.isEmpty = false := by
  rw [ByteArray.toList_eq]
  rw [Bool.eq_false_iff]
  intro e
  apply h
  obtain ⟨d⟩ := s
  simp at e
  subst e
  rfl

def trB (n : Int) (t : Tr) : Bool := (t.label.toList.isEmpty || nameB t.label) && placesB n t.inn && placesB n t.out
def validL (n : Net) : List Tr → Bool
  | [] => placesB n.places [n.source] && placesB n.places [n.sink]
  | t :: ts => if trB n.places t then validL n ts else false
def validB (n : Net) : Bool := if n.places < 1 ∨ 40 < n.places ∨ 60 < n.trans.length then false else validL n n.trans
theorem drop_gti {α : Type} [Inhabited α] {l : List α} {k : Nat} (h : k < l.length) : l.drop k = gti l k :: l.drop (k + 1) := by
  rw [List.drop_eq_getElem_cons h]
  unfold gti
  rw [List.getElem?_eq_getElem h]
  rfl

theorem ret_bool {a b : Bool} (h : a = b) : Ending.returned (.bool a) = .returned (.bool b) := by rw [h]

set_option maxHeartbeats 2000000 in
theorem valid_any (n : Net) (vt : Value) (lo hi : Nat) (w : World) (hv : RdT w lo hi vt n.trans) :
    Calls Try.prog 54 #[netV n vt] w fun e w' => e = .returned (.bool (validB n)) ∧ Below w.heap.size w w' := by
  obtain ⟨A, c, rfl, hc, hm⟩ := hv.form
  have HV := Lib.hid hv
  clear hv
  refine calls_cps fun R hR => ?_
  have HR := Lib.hid hR
  clear hR
  go_enter Try.func54, Try.ntmps54
  have M : Mem [Loc.k4 w.heap.size (.int .i64 n.places) (.slice A n.trans.length c) (.int .i64 n.source) (.int .i64 n.sink), Loc.bl w.heap.size w] (w.alloc (.cells #[.int .i64 n.places, .slice A n.trans.length c, .int .i64 n.source, .int .i64 n.sink] 24)) := ⟨K4.new w _ _ _ _ _, ⟨(Below.refl _ _).alloc (Nat.le_refl _) _, by simp⟩, True.intro⟩
  have HM := Lib.hid M
  clear M
  go_wp2_with fail
  all_goals (try ((with_reducible refine HR.out _ _ ⟨?_, ?_⟩) <;> first | exact ret_bool (by grind [validB]) | exact HM.out.2.1.1))
  have HI : Hid (validB n = validL n n.trans) := Lib.hid (by grind [validB])
  generalize w.alloc (.cells #[.int .i64 n.places, .slice A n.trans.length c, .int .i64 n.source, .int .i64 n.sink] 24) = W at *
  go_loopw [22, 4] (fun v22 _ wr => ∃ k : Nat, k ≤ n.trans.length ∧ v22 = .int .i64 k ∧ Hid (validB n = validL n (n.trans.drop k)) ∧ Hid (Mem [Loc.k4 w.heap.size (.int .i64 n.places) (.slice A n.trans.length c) (.int .i64 n.source) (.int .i64 n.sink), Loc.bl w.heap.size w] wr)) (fun v22 _ _ => n.trans.length - (intOf v22).toNat)
  case atStart => exact ⟨0, by omega, rfl, HI, HM⟩
  case round =>
    clear HM HI
    obtain ⟨k, hk, rfl, HI, HM⟩ := hrel
    have hk4 := HM.out.1
    by_cases hlt : k < n.trans.length
    · obtain ⟨b, off, vi, vo, rfl, _, _, hcell, hri, hro⟩ := RdT.at3 (HV.out.after HM.out.2.1.1) hlt
      have HD := Lib.hid (drop_gti hlt)
      obtain ⟨Ai, ci, rfl, hci, hmi⟩ := hri.form
      obtain ⟨Ao, co, rfl, hco, hmo⟩ := hro.form
      generalize gti n.trans k = t at *
      obtain ⟨lab, tin, tout⟩ := t
      simp only at hri hro hcell hci hmi hco hmo
      have M : Mem [Loc.k4 w.heap.size (.int .i64 n.places) (.slice (some ⟨b, off, none⟩) n.trans.length c) (.int .i64 n.source) (.int .i64 n.sink), Loc.bl w.heap.size w, Loc.k3 wr.heap.size (.string lab) (.slice Ai tin.length ci) (.slice Ao tout.length co), Loc.rd 1 encI lo hi (.slice Ai tin.length ci) tin, Loc.rd 1 encI lo hi (.slice Ao tout.length co) tout] (wr.alloc (.cells #[.string lab, .slice Ai tin.length ci, .slice Ao tout.length co] 46)) := 
        ⟨K4.aft ((Below.refl _ _).alloc (Nat.le_refl _) _) hk4, ⟨(HM.out.2.1.1).alloc HM.out.2.1.2 _, by have := HM.out.2.1.2; simp; omega⟩, K3.new wr _ _ _ _, Rd.after hri ((Below.refl _ _).alloc (Nat.le_refl _) _), Rd.after hro ((Below.refl _ _).alloc (Nat.le_refl _) _), True.intro⟩
      clear hri hro
      replace M := Lib.hid M
      have hq4 := M.out.1
      have hq3 := M.out.2.2.1
      go_wp2_with (first
        | (go_at_call 56; refine (isName_any _ _).mono ?_; rintro e w1 ⟨rfl, hb1⟩; replace M := Lib.hid (M.out.below hb1); clear hb1; replace hq4 := M.out.1; replace hq3 := M.out.2.2.1)
        | (go_at_call 89; refine (places_any n _ _ lo hi _ _ (by first | exact M.out.2.2.2.1 | exact M.out.2.2.2.2.1)).mono ?_; rintro e w1 ⟨rfl, hb1⟩; replace M := Lib.hid (M.out.below hb1); clear hb1; replace hq4 := M.out.1; replace hq3 := M.out.2.2.1))
      all_goals (have HJ : validB n = if trB n.places ⟨lab, tin, tout⟩ then validL n (n.trans.drop (k + 1)) else false := by rw [HI.out, HD.out]; rfl)
      all_goals first
        | ((with_reducible refine HR.out _ _ ⟨?_, ?_⟩) <;> first | exact ret_bool (by go_light; grind [trB]) | exact M.out.2.1.1)
        | (refine ⟨⟨k + 1, by omega, by go_num, Lib.hid (by go_light; grind [trB]), Lib.hid ⟨M.out.1, M.out.2.1, True.intro⟩⟩, by simp [intOf]; omega⟩)
    · obtain rfl : k = n.trans.length := by omega
      have HE : Hid (validB n = (placesB n.places [n.source] && placesB n.places [n.sink])) := Lib.hid (by rw [HI.out]; simp [validL])
      clear HI
      have M := HM
      clear HM
      go_wp2_with (go_at_call 89; refine (places_any n _ _ 0 _ _ _ (RdI.lit1 _ _ _)).mono ?_; rintro e w1 ⟨rfl, hb1⟩; replace M := Lib.hid ((M.out.alloc _).below hb1); clear hb1; replace hk4 := M.out.1)
      all_goals ((with_reducible refine HR.out _ _ ⟨?_, ?_⟩) <;> first | exact ret_bool (by rw [HE.out]; go_light; grind) | exact M.out.2.1.1)
end Go.Proofs.Ytmhbfoaecebobaa
