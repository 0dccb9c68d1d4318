/-
  Walks of name's and casebookref02's IsName. Conditions: none.
-/
import Derived.Test.YtmhbfoaecebobaaCore
namespace Go.Proofs.Ytmhbfoaecebobaa
set_option linter.unusedSimpArgs false
set_option linter.unusedVariables false
open Go.RowKit

def letB (c : Int) : Bool := decide (65 ≤ c) && decide (c ≤ 90) || decide (97 ≤ c) && decide (c ≤ 122)
def partB (c : Int) : Bool := letB c || decide (48 ≤ c) && decide (c ≤ 57) || decide (c = 95) || decide (c = 45) || decide (c = 46)

set_option maxHeartbeats 2000000 in
theorem letter_any (c : Int) (w : World) : Calls Try.prog 90 #[.int .u8 c] w fun e w' => e = .returned (.bool (letB c)) ∧ Below w.heap.size w w' := by
  refine calls_cps fun R hR => ?_
  have HR := Lib.hid hR
  clear hR
  go_enter Try.func90, Try.ntmps90
  by_cases h1 : (65 : Int) ≤ c <;> by_cases h2 : c ≤ 90 <;> by_cases h3 : (97 : Int) ≤ c <;> by_cases h4 : c ≤ 122 <;> first
    | (exfalso; omega)
    | (have d1 := Lib.hid h1; have d2 := Lib.hid h2; have d3 := Lib.hid h3; have d4 := Lib.hid h4
       go_wp2
       refine HR.out _ _ ⟨?_, ?_⟩
       · simp [letB, h1, h2, h3, h4]
       · (repeat (first | exact Below.refl _ _ | assumption | refine Below.setCell ?_ (by first | omega | (simp; done) | (simp; omega)) _ | refine Below.alloc ?_ (by first | omega | (simp; done) | (simp; omega)) _ | refine Below.drew ?_ | refine below_drewN ?_ _)))

set_option maxHeartbeats 2000000 in
theorem letter2_any (c : Int) (w : World) : Calls Try.prog 105 #[.int .u8 c] w fun e w' => e = .returned (.bool (letB c)) ∧ Below w.heap.size w w' := by
  refine calls_cps fun R hR => ?_
  have HR := Lib.hid hR
  clear hR
  go_enter Try.func105, Try.ntmps105
  by_cases h1 : (65 : Int) ≤ c <;> by_cases h2 : c ≤ 90 <;> by_cases h3 : (97 : Int) ≤ c <;> by_cases h4 : c ≤ 122 <;> first
    | (exfalso; omega)
    | (have d1 := Lib.hid h1; have d2 := Lib.hid h2; have d3 := Lib.hid h3; have d4 := Lib.hid h4
       go_wp2
       refine HR.out _ _ ⟨?_, ?_⟩
       · simp [letB, h1, h2, h3, h4]
       · (repeat (first | exact Below.refl _ _ | assumption | refine Below.setCell ?_ (by first | omega | (simp; done) | (simp; omega)) _ | refine Below.alloc ?_ (by first | omega | (simp; done) | (simp; omega)) _ | refine Below.drew ?_ | refine below_drewN ?_ _)))

set_option maxHeartbeats 2000000 in
theorem part_any (c : Int) (w : World) : Calls Try.prog 91 #[.int .u8 c] w fun e w' => e = .returned (.bool (partB c)) ∧ Below w.heap.size w w' := by
  refine calls_cps fun R hR => ?_
  have HR := Lib.hid hR
  clear hR
  go_enter Try.func91, Try.ntmps91
  go_wp2_with fail
  refine (letter_any _ _).mono ?_
  rintro e w1 ⟨rfl, hb⟩
  have HB := Lib.hid hb
  clear hb
  cases hl : letB c
  · have HL := Lib.hid hl
    by_cases h1 : (48 : Int) ≤ c <;> by_cases h2 : c ≤ 57 <;> by_cases h3 : c = 95 <;> by_cases h4 : c = 45 <;> by_cases h5 : c = 46 <;> first
      | (exfalso; omega)
      | (go_wp2
         refine HR.out _ _ ⟨congrArg Ending.returned (congrArg Value.bool ?_), HB.out⟩
         rw [Bool.eq_iff_iff]
         simp [partB, hl]
         try omega)
  · go_wp2
    refine HR.out _ _ ⟨?_, HB.out⟩
    simp [partB, hl]

/-- byte k of a string, as a number -/
def byt (s : ByteArray) (k : Nat) : Int := if h : k < s.size then (s[k].toNat : Int) else 0
theorem byt_lt {s : ByteArray} {k : Nat} (h : k < s.size) : (s[k].toNat : Int) = byt s k := by unfold byt; rw [dif_pos h]
def nameB (s : ByteArray) : Bool := decide (1 ≤ s.size) && decide (s.size ≤ 40) && letB (byt s 0) && (List.range s.size).all fun k => partB (byt s k)
theorem nameB_false {s : ByteArray} (h : s.size < 1 ∨ 40 < s.size ∨ letB (byt s 0) = false ∨ ∃ k, k < s.size ∧ partB (byt s k) = false) : nameB s = false := by
  unfold nameB
  rcases h with h | h | h | ⟨k, h1, h2⟩
  · have : decide (1 ≤ s.size) = false := decide_eq_false (by omega)
    simp [this]
  · have : decide (s.size ≤ 40) = false := decide_eq_false (by omega)
    simp [this]
  · simp [h]
  · have : (List.range s.size).all (fun k => partB (byt s k)) = false := by
      rw [List.all_eq_false]
      exact ⟨k, by simp [h1], by simp [h2]⟩
    simp [this]
theorem nameB_true {s : ByteArray} (h1 : ¬ s.size < 1) (h2 : ¬ 40 < s.size) (h3 : letB (byt s 0) = true) (h4 : ∀ k, k < s.size → partB (byt s k) = true) : nameB s = true := by
  unfold nameB
  have e1 : decide (1 ≤ s.size) = true := decide_eq_true (by omega)
  have e2 : decide (s.size ≤ 40) = true := decide_eq_true (by omega)
  have : (List.range s.size).all (fun k => partB (byt s k)) = true := by
    rw [List.all_eq_true]
    intro k hk
    exact h4 k (by simpa using hk)
  rw [e1, e2, h3, this]
  rfl

set_option maxHeartbeats 2000000 in
theorem isName_any (s : ByteArray) (w : World) : Calls Try.prog 56 #[.string s] w fun e w' => e = .returned (.bool (nameB s)) ∧ Below w.heap.size w w' := by
  refine calls_cps fun R hR => ?_
  have HR := Lib.hid hR
  clear hR
  go_enter Try.func56, Try.ntmps56
  by_cases h1 : s.size < 1
  · have HF := Lib.hid (nameB_false (.inl h1))
    go_wp2
    refine HR.out _ _ ⟨by rw [HF.out], Below.refl _ _⟩
  · by_cases h2 : 40 < s.size
    · have HF := Lib.hid (nameB_false (.inr (.inl h2)))
      go_wp2
      refine HR.out _ _ ⟨by rw [HF.out], Below.refl _ _⟩
    · have d1 : decide ((s.size : Int) < 1) = false := decide_eq_false (by omega)
      have d2 : decide ((40 : Int) < (s.size : Int)) = false := decide_eq_false (by omega)
      have H1 := Lib.hid h1
      have H2 := Lib.hid h2
      have hpos : 0 < s.size := by omega
      have hb0 := byt_lt hpos
      go_wp2_with fail
      refine (letter_any _ _).mono ?_
      rintro e w1 ⟨rfl, hb⟩
      cases hl : letB (byt s 0)
      · have HF := Lib.hid (nameB_false (.inr (.inr (.inl hl))))
        go_wp2
        refine HR.out _ _ ⟨(by first | (rw [HF.out]; done) | (rw [HF.out]; rfl)), hb⟩
      · have HL := Lib.hid hl
        have HB := Lib.hid hb
        clear hb hl
        clear hb0 d1 d2
        go_wp2
        go_loopw [20, 3] (fun v20 v3 wr => ∃ (k : Nat), k ≤ s.size ∧ v20 = .int .i64 k ∧ Hid (∀ j, j < k → partB (byt s j) = true) ∧ Below w.heap.size w wr) (fun v20 _ _ => s.size - (intOf v20).toNat)
        case atStart => exact ⟨0, by omega, rfl, Lib.hid (fun j hj => by omega), HB.out⟩
        case round =>
          obtain ⟨k, hk, rfl, HP, hbr⟩ := hrel
          have HBR := Lib.hid hbr
          clear hbr
          by_cases hlt : k < s.size
          · have hkd : decide ((k : Int) < (s.size : Int)) = true := by simp; omega
            have hbk := byt_lt hlt
            go_wp2_with fail
            refine (part_any _ _).mono ?_
            rintro e w2 ⟨rfl, hb2⟩
            have HB2 := Lib.hid (Ext.trans HBR.out hb2)
            clear hb2
            cases hp : partB (byt s k)
            · have HF := Lib.hid (nameB_false (.inr (.inr (.inr ⟨k, hlt, hp⟩))))
              go_wp2
              refine HR.out _ _ ⟨(by first | (rw [HF.out]; done) | (rw [HF.out]; rfl)), HB2.out⟩
            · have HPk := Lib.hid hp
              clear hp
              go_wp2
              go_roundw
              case rel =>
                refine ⟨k + 1, by omega, by go_num, Lib.hid (fun j hj => ?_), HB2.out⟩
                by_cases hjk : j < k
                · exact HP.out j hjk
                · obtain rfl : j = k := by omega
                  exact HPk.out
              case measure => simp [intOf]; omega
          · have hkd : decide ((k : Int) < (s.size : Int)) = false := by simp; omega
            go_wp2
            refine HR.out _ _ ⟨?_, HBR.out⟩
            have HF := nameB_true H1.out H2.out HL.out (fun j hj => HP.out j (by omega))
            exact (by first | (rw [HF]; done) | (rw [HF]; rfl))

theorem partB_of_let {c : Int} (h : letB c = true) : partB c = true := by simp [partB, h]

set_option maxHeartbeats 4000000 in
theorem isName2_any (s : ByteArray) (w : World) : Calls Try.prog 87 #[.string s] w fun e w' => e = .returned (.bool (nameB s)) ∧ Below w.heap.size w w' := by
  refine calls_cps fun R hR => ?_
  have HR := Lib.hid hR
  clear hR
  go_enter Try.func87, Try.ntmps87
  by_cases h1 : s.size < 1
  · have HF := Lib.hid (nameB_false (.inl h1))
    go_wp2
    refine HR.out _ _ ⟨(by first | (rw [HF.out]; done) | (rw [HF.out]; rfl)), Below.refl _ _⟩
  · by_cases h2 : 40 < s.size
    · have HF := Lib.hid (nameB_false (.inr (.inl h2)))
      go_wp2
      refine HR.out _ _ ⟨(by first | (rw [HF.out]; done) | (rw [HF.out]; rfl)), Below.refl _ _⟩
    · have d1 : decide ((s.size : Int) < 1) = false := decide_eq_false (by omega)
      have d2 : decide ((40 : Int) < (s.size : Int)) = false := decide_eq_false (by omega)
      have H1 := Lib.hid h1
      have H2 := Lib.hid h2
      have hpos : 0 < s.size := by omega
      have hb0 := byt_lt hpos
      go_wp2_with fail
      refine (letter2_any _ _).mono ?_
      rintro e w1 ⟨rfl, hb⟩
      cases hl : letB (byt s 0)
      · have HF := Lib.hid (nameB_false (.inr (.inr (.inl hl))))
        go_wp2
        refine HR.out _ _ ⟨(by first | (rw [HF.out]; done) | (rw [HF.out]; rfl)), hb⟩
      · have HL := Lib.hid hl
        have HB := Lib.hid hb
        clear hb hl
        clear hb0 d1 d2
        go_wp2
        go_loopw [3] (fun v3 wr => ∃ (k : Nat), 1 ≤ k ∧ k ≤ s.size ∧ v3 = .int .i64 k ∧ Hid (∀ j, j < k → partB (byt s j) = true) ∧ Below w.heap.size w wr) (fun v3 _ => s.size - (intOf v3).toNat)
        case atStart => exact ⟨1, by omega, by omega, rfl, Lib.hid (fun j hj => by (obtain rfl : j = 0 := by omega); exact partB_of_let HL.out), HB.out⟩
        case round =>
          obtain ⟨k, hk1, hk, rfl, HP, hbr⟩ := hrel
          have HBR := Lib.hid hbr
          clear hbr
          by_cases hlt : k < s.size
          · have hkd : decide ((k : Int) < (s.size : Int)) = true := by simp; omega
            have hbk := byt_lt hlt
            go_wp2_with fail
            refine (letter2_any _ _).mono ?_
            rintro e w2 ⟨rfl, hb2⟩
            have HB2 := Lib.hid (Ext.trans HBR.out hb2)
            clear hb2
            cases hl : letB (byt s k)
            · have HK := Lib.hid hl
              clear hl
              have HX : partB (byt s k) = true ↔ ((48 ≤ byt s k ∧ byt s k ≤ 57) ∨ byt s k = 95 ∨ byt s k = 45 ∨ byt s k = 46) := by simp [partB, HK.out, or_assoc]
              have HXX := Lib.hid HX
              clear HX
              have HG : partB (byt s k) = true → Hid (∀ j, j < k + 1 → partB (byt s j) = true) := fun h => Lib.hid (fun j hj => by
                by_cases hjk : j < k
                · exact HP.out j hjk
                · (obtain rfl : j = k := by omega)
                  exact h)
              have HF : partB (byt s k) = false → Hid (nameB s = false) := fun hp => Lib.hid (nameB_false (.inr (.inr (.inr ⟨k, hlt, hp⟩))))
              have HGG := Lib.hid HG
              have HFF := Lib.hid HF
              clear HG HF HP
              generalize byt s k = c at *
              by_cases g1 : (48 : Int) ≤ c <;> by_cases g2 : c ≤ 57 <;> by_cases g3 : c = 95 <;> by_cases g4 : c = 45 <;> by_cases g5 : c = 46 <;> first
                | (exfalso; omega)
                | (have HP := HGG.out (HXX.out.2 (by omega))
                   (try subst c)
                   clear HXX HFF HGG
                   go_wp2
                   go_roundw
                   case rel => exact ⟨k + 1, by omega, by omega, by go_num, HP, HB2.out⟩
                   case measure => (simp [intOf]; omega))
                | (have HP := HFF.out (by rw [← Bool.not_eq_true]; intro h; have := HXX.out.1 h; omega)
                   have b1 : (c == 95) = false := beq_false_of_ne g3
                   have b2 : (c == 45) = false := beq_false_of_ne g4
                   have b3 : (c == 46) = false := beq_false_of_ne g5
                   have b4 : (decide (48 ≤ c) && decide (c ≤ 57)) = false := by simp; omega
                   first | have b5 := decide_eq_false g1 | have b5 := decide_eq_true g1
                   first | have b6 := decide_eq_false g2 | have b6 := decide_eq_true g2
                   clear g1 g2
                   go_wp2 <;> first
                     | exact HR.out _ _ ⟨(by first | (rw [HP.out]; done) | (rw [HP.out]; rfl)), HB2.out⟩
                     | (exfalso; clear HXX HGG HFF HP HK HB2 HBR HL HB H1 H2; simp_all; done))
            · have HPk := Lib.hid (partB_of_let hl)
              clear hl
              go_wp2
              go_roundw
              case rel =>
                refine ⟨k + 1, by omega, by omega, by go_num, Lib.hid (fun j hj => ?_), HB2.out⟩
                by_cases hjk : j < k
                · exact HP.out j hjk
                · obtain rfl : j = k := by omega
                  exact HPk.out
              case measure => simp [intOf]; omega
          · have hkd : decide ((k : Int) < (s.size : Int)) = false := by simp; omega
            go_wp2
            refine HR.out _ _ ⟨?_, HBR.out⟩
            have HF := nameB_true H1.out H2.out HL.out (fun j hj => HP.out j (by omega))
            exact (by first | (rw [HF]; done) | (rw [HF]; rfl))
end Go.Proofs.Ytmhbfoaecebobaa
