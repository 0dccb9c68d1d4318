/-
  replay.key: the bytes of numbers. Conditions: none.
-/
import Derived.Test.YtmhbfoaecebobaaKey
namespace Go.Proofs.Ytmhbfoaecebobaa
set_option linter.unusedSimpArgs false
set_option linter.unusedVariables false
open Go.RowKit

theorem heap_newK (w : World) (o : Obj) : (w.alloc o).heap[w.heap.size]? = some o := by
  show (w.heap.push o)[w.heap.size]? = some o
  simp
/-- the bytes of numbers from 0 to 255 -/
def keyL (m : List Int) : List UInt8 := m.flatMap fun n => [UInt8.ofNat n.toNat, 0]
theorem keyL_snoc (m : List Int) (n : Int) : keyL (m ++ [n]) = keyL m ++ [UInt8.ofNat n.toNat] ++ [0] := by simp [keyL]
theorem keyL_len (m : List Int) : (keyL m).length = 2 * m.length := by
  induction m with
  | nil => rfl
  | cons a m ih =>
    have : keyL (a :: m) = [UInt8.ofNat a.toNat, 0] ++ keyL m := rfl
    rw [this, List.length_append, ih]
    simp
    omega
theorem byte_of {n : Int} (h0 : 0 ≤ n) (h1 : n ≤ 255) : ((UInt8.ofNat n.toNat).toNat : Int) = n := by
  rw [UInt8.toNat_ofNat', Nat.mod_eq_of_lt (by omega)]
  omega
set_option maxHeartbeats 2000000 in
set_option maxRecDepth 100000 in
theorem key_any (m : List Int) (lo hi : Nat) (v : Value) (w : World) (hv : RdI w lo hi v m) (hm : ∀ x ∈ m, 0 ≤ x ∧ x ≤ 255) (hl : m.length ≤ 1000) (hne : m ≠ []) :
    Calls Try.prog 44 #[v] w fun e w' => e = .returned (.string ⟨(keyL m).toArray⟩) ∧ Below w.heap.size w w' := by
  obtain ⟨A, c, rfl, hc, hmm⟩ := hv.form
  have HV := Lib.hid hv
  have HM := Lib.hid hm
  clear hv hm
  have HB0 : Hid (Lib.IsBuilder 136 5 w.heap.size w.heap.size (Lib.byteCells (keyL (m.take 0))) (w.alloc (.cells #[.pointer none, .slice none 0 0] 136))) := Lib.hid (.inl ⟨Nat.le_refl _, .slice none 0 0, heap_newK w _, ⟨rfl, .inl ⟨rfl, rfl⟩⟩, by simp [Value.ownBlock]⟩)
  have HE : Hid (Below w.heap.size w (w.alloc (.cells #[.pointer none, .slice none 0 0] 136))) := Lib.hid ((Below.refl _ _).alloc (Nat.le_refl _) _)
  refine calls_cps fun R hR => ?_
  have HR := Lib.hid hR
  clear hR
  go_enter Try.func44, Try.ntmps44
  go_wp2_with fail
  go_loopw [8, 5] (fun v8 _ wr => ∃ k : Nat, k ≤ m.length ∧ v8 = .int .i64 k ∧ Hid (Lib.IsBuilder 136 5 w.heap.size w.heap.size (Lib.byteCells (keyL (m.take k))) wr) ∧ Hid (Below w.heap.size w wr)) (fun v8 _ _ => m.length - (intOf v8).toNat)
  case atStart => exact ⟨0, Nat.zero_le _, rfl, HB0, HE⟩
  case round =>
    clear HB0 HE
    obtain ⟨k, hk, rfl, HB, HE⟩ := hrel
    by_cases hlt : k < m.length
    · obtain ⟨b, off, rfl, _, _, hcell⟩ := RdI.at1 (HV.out.after HE.out) hlt
      obtain ⟨h0, h1⟩ := HM.out _ (List.mem_of_getElem? (gti_get hlt))
      have HBX : Hid (0 ≤ gti m k ∧ gti m k ≤ 255) := Lib.hid ⟨h0, h1⟩
      obtain ⟨x, hx⟩ : ∃ x, gti m k = x := ⟨_, rfl⟩
      have HGX := Lib.hid hx
      rw [hx] at hcell h0 h1
      clear hx
      go_wp2_with fail
      have HL : Hid ((Lib.byteCells (keyL (m.take k))).length ≤ 2000) := Lib.hid (by rw [Lib.byteCells_length, keyL_len, List.length_take]; omega)
      refine (writeByte_any _ _ _ x _ HB.out (by have := HL.out; omega) HE.out.size).mono ?_
      rintro e w1 ⟨rfl, hb1, hw1⟩
      have HB1 := Lib.hid hb1
      have HE1 := Lib.hid (HE.out.trans hw1)
      clear hb1 hw1
      have HX : Hid (x / 256 = 0) := Lib.hid (by omega)
      have HT : Hid (Lib.byteCells (keyL (m.take k)) ++ [.int .u8 x] ++ [.int .u8 0] = Lib.byteCells (keyL (m.take (k + 1)))) := Lib.hid (by
        rw [List.take_add_one, gti_get hlt]
        simp only [Option.toList]
        rw [keyL_snoc, HGX.out]
        simp only [Lib.byteCells, List.map_append, List.map_cons, List.map_nil]
        rw [byte_of h0 h1]
        rfl)
      go_wp2_with fail
      rw [HX.out]
      refine (writeByte_any _ _ _ 0 _ (.inr HB1.out) (by have := HL.out; simp; omega) HE1.out.size).mono ?_
      rintro e w2 ⟨rfl, hb2, hw2⟩
      rw [HT.out] at hb2
      have HB2 := Lib.hid hb2
      have HE2 := Lib.hid (HE1.out.trans hw2)
      clear hb2 hw2
      go_wp2_with fail
      exact ⟨⟨k + 1, by omega, by go_num, Lib.hid (.inr HB2.out), HE2⟩, by simp [intOf]; omega⟩
    · obtain rfl : k = m.length := by omega
      rw [List.take_length] at HB
      go_wp2_with (go_at_call 85; refine (bldString_any _ _ (keyL m) _ HB.out (by intro e; have := keyL_len m; rw [e] at this; simp at this; exact hne (List.eq_nil_of_length_eq_zero (by omega)))).mono ?_; rintro e w1 ⟨rfl, hb⟩; replace HE := Lib.hid (HE.out.trans hb); clear hb)
      exact HR.out _ _ ⟨rfl, HE.out⟩
end Go.Proofs.Ytmhbfoaecebobaa
