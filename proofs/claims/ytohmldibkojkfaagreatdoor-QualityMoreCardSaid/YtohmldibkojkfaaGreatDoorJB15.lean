import Derived.Test.YtohmldibkojkfaaGreatDoorJB11
import Derived.Test.YtohmldibkojkfaaGreatDoorJB10
set_option linter.unusedSimpArgs false
set_option linter.unusedVariables false
set_option linter.unusedSectionVars false
section
namespace Go.Proofs.YtohmldibkojkfaaGreatDoor
open Go.RowKit
theorem heap_newK (w : World) (o : Obj) : (w.alloc o).heap[w.heap.size]? = some o := by
 show (w.heap.push o)[w.heap.size]? = some o
 simp
set_option maxHeartbeats 2000000 in
set_option maxRecDepth 100000 in
theorem z2p (m : List Int) (lo hi : Nat) (v : Value) (w : World) (hv : RdI w lo hi v m) (hm : ∀ x ∈ m, 0 ≤ x ∧ x ≤ 255) (hl : m.length ≤ 1000) (hne : m ≠ []) :
  Calls Tryz.prog 54 #[v] w fun e w' => e = .returned (.string ⟨(keyL m).toArray⟩) ∧ Below w.heap.size w w' := by
 obtain ⟨A, c, rfl, hc, hmm⟩ := hv.form
 have HV := Lib.hid hv
 have HM := Lib.hid hm
 clear hv hm
 have HB0 : Hid (Lib.IsBuilder 125 5 w.heap.size w.heap.size (Lib.byteCells (keyL (m.take 0))) (w.alloc (.cells #[.pointer none, .slice none 0 0] 125))) := Lib.hid (.inl ⟨Nat.le_refl _, .slice none 0 0, heap_newK w _, ⟨rfl, .inl ⟨rfl, rfl⟩⟩, by simp [Value.ownBlock]⟩)
 have HE : Hid (Below w.heap.size w (w.alloc (.cells #[.pointer none, .slice none 0 0] 125))) := Lib.hid ((Below.refl _ _).alloc (Nat.le_refl _) _)
 refine zas fun R hR => ?_
 have HR := Lib.hid hR
 clear hR
 go_enter Tryz.func54, Tryz.ntmps54
 go_wp2_with fail
 go_loopw [8, 5] (fun v8 _ wr => ∃ k : Nat, k ≤ m.length ∧ v8 = .int .i64 k ∧ Hid (Lib.IsBuilder 125 5 w.heap.size w.heap.size (Lib.byteCells (keyL (m.take k))) wr) ∧ Hid (Below w.heap.size w wr)) (fun v8 _ _ => m.length - (intOf v8).toNat)
 case atStart => exact ⟨0, Nat.zero_le _, rfl, HB0, HE⟩
 case round =>
  clear HB0 HE
  obtain ⟨k, hk, rfl, HB, HE⟩ := hrel
  by_cases hlt : k < m.length
  ·
   obtain ⟨b, off, rfl, _, _, hcell⟩ := RdI.at1 (HV.out.after HE.out) hlt
   obtain ⟨h0, h1⟩ := HM.out _ (List.mem_of_getElem? (zbn hlt))
   have HBX : Hid (0 ≤ gti m k ∧ gti m k ≤ 255) := Lib.hid ⟨h0, h1⟩
   obtain ⟨x, hx⟩ : ∃ x, gti m k = x := ⟨_, rfl⟩
   have HGX := Lib.hid hx
   rw [hx] at hcell h0 h1
   clear hx
   go_wp2_with fail
   have HL : Hid ((Lib.byteCells (keyL (m.take k))).length ≤ 2000) := Lib.hid (by rw [Lib.byteCells_length, zn8, List.length_take]; omega)
   refine (zik _ _ _ x _ HB.out (by have := HL.out; omega) HE.out.size).mono ?_
   rintro e w1 ⟨rfl, hb1, hw1⟩
   have HB1 := Lib.hid hb1
   have HE1 := Lib.hid (HE.out.trans hw1)
   clear hb1 hw1
   have HX : Hid (x / 256 = 0) := Lib.hid (by omega)
   have HT : Hid (Lib.byteCells (keyL (m.take k)) ++ [.int .u8 x] ++ [.int .u8 0] = Lib.byteCells (keyL (m.take (k + 1)))) := Lib.hid (by
    rw [List.take_add_one, zbn hlt]
    simp only [Option.toList]
    rw [zxe, HGX.out]
    simp only [Lib.byteCells, List.map_append, List.map_cons, List.map_nil]
    rw [zsg h0 h1]
    rfl)
   go_wp2_with fail
   rw [HX.out]
   refine (zik _ _ _ 0 _ (.inr HB1.out) (by have := HL.out; simp; omega) HE1.out.size).mono ?_
   rintro e w2 ⟨rfl, hb2, hw2⟩
   rw [HT.out] at hb2
   have HB2 := Lib.hid hb2
   have HE2 := Lib.hid (HE1.out.trans hw2)
   clear hb2 hw2
   go_wp2_with fail
   exact ⟨⟨k + 1, by omega, by go_num, Lib.hid (.inr HB2.out), HE2⟩, by simp [intOf]; omega⟩
  ·
   obtain rfl : k = m.length := by omega
   rw [List.take_length] at HB
   go_wp2_with (go_at_call 81; refine (zor _ _ (keyL m) _ HB.out (by intro e; have := zn8 m; rw [e] at this; simp at this; exact hne (List.eq_nil_of_length_eq_zero (by omega)))).mono ?_; rintro e w1 ⟨rfl, hb⟩; replace HE := Lib.hid (HE.out.trans hb); clear hb)
   exact HR.out _ _ ⟨rfl, HE.out⟩
end Go.Proofs.YtohmldibkojkfaaGreatDoor
end
