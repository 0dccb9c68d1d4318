/-
  Walks of slices.Grow and Concat at steps. Conditions: none.
-/
import Derived.Test.YtamhbmaimiifmaaValid2
import Derived.Test.YtamhbmaimiifmaaOwn
import Derived.Lib.AppendZeros
namespace Go.Proofs.Ytamhbmaimiifmaa
set_option linter.unusedSimpArgs false
set_option linter.unusedVariables false
open Go.RowKit

theorem ti_step : TI 28 57 3 32 (.agg #[.int .i64 0, .int .i64 0, .string ByteArray.empty]) := TI.mk Try.underlying28 (by kernel_rfl) rfl (by decide)
theorem oneM : ∀ a : Stp, ∀ u ∈ encM a, u.oneCell' = true := by
  intro a u hu
  simp only [encM, List.mem_cons, List.not_mem_nil, or_false] at hu
  rcases hu with rfl | rfl | rfl <;> rfl
abbrev Loc.owM (lo hi : Nat) (v : Value) (l : List Stp) : Loc := Loc.ow 57 3 encM lo hi v l

/-- append(nil, make([]Step, k)...)[:0]: a row of one's own, empty -/
theorem grow_own (w : World) (k cap : Nat) (cs : Array Value) (hcs : cs.size = cap * 3) (hm : cap ≤ maxLen) : Own 57 3 encM (w.drew.alloc (.cells cs 57)) w.heap.size (w.heap.size + 1) (.slice (some ⟨w.heap.size, 0, none⟩) 0 cap) [] := by
  refine ⟨⟨by simp, .inr ⟨w.heap.size, cap, cs, rfl, Nat.le_refl _, heap_alloc_new w.drew _, Nat.zero_le _, hm, hcs, by simp⟩⟩, fun j hj => ?_⟩
  simp [Value.ownBlock] at hj
  omega
theorem zc_size (z : Array Value) (n : Nat) : (Builtin.zeroCells z n).size = n * z.size := by
  unfold Builtin.zeroCells
  simp

set_option maxHeartbeats 1000000 in
theorem growM_any (k : Nat) (w : World) (hk : k ≤ 100000) :
    Calls Try.prog 98 #[.slice none 0 0, .int .i64 k] w fun e w' => ∃ A c, e = .returned (.slice A 0 c) ∧ Own 57 3 encM w' w.heap.size w'.heap.size (.slice A 0 c) [] ∧ Below w.heap.size w w' := by
  have hs1 : ∀ w : World, (Instr.slice 28 (.slice none 0 0) none (some (.int .i64 0)) none).run Try.prog w = .ok (.slice none 0 0) w := fun w => by
    obtain ⟨i, ht, hi0, hz, hsize, hby, hzs, hsz⟩ := ti_step
    simp [Instr.slice, run_underlying ht, Instr.sliceBounds, Instr.sliceBound, asIntOf, sizeOf, typeInfo, hi0]
  have hs2 : ∀ (w : World) (a : Addr) (n c : Nat), (Instr.slice 28 (.slice (some a) n c) none (some (.int .i64 0)) none).run Try.prog w = .ok (.slice (some a) 0 c) w := fun w a n c => by
    obtain ⟨i, ht, hi0, hz, hsize, hby, hzs, hsz⟩ := ti_step
    simp [Instr.slice, run_underlying ht, Instr.sliceBounds, Instr.sliceBound, asIntOf, sizeOf, typeInfo, hi0, Addr.add]
  rcases Nat.eq_zero_or_pos k with rfl | hpos
  · skip
    refine calls_cps fun R hR => ?_
    have HR := Lib.hid hR
    clear hR
    go_enter Try.func98, Try.ntmps98
    go_wp2_with fail
    exact HR.out _ _ ⟨none, 0, rfl, Own.nil _ _ _, Below.refl _ _⟩
  · have hkp : (0 : Int) < k := by omega
    obtain ⟨i, ht, hi0, hz, hsize, hby, hzs, hsz⟩ := ti_step
    have hrun := fun w ty => Lib.run_append_nil_zeros (P := Try.prog) w 28 3 ty 57 i _ .i64 .i64 ht Try.underlying3 hi0 hz k hpos (by omega) (by omega) (by rw [hby]; omega)
    have HRUN := Lib.hid hrun
    clear hrun
    have hcap := grownCap_ge w k 0 57
    have hcap2 := grownCap_le_maxLen w k 0 57 (by unfold maxLen; omega)
    have HO := Lib.hid (grow_own w k (grownCap w k 0 57) (Builtin.zeroCells (Value.agg #[.int .i64 0, .int .i64 0, .string ByteArray.empty]).cells k ++ Builtin.zeroCells (Value.agg #[.int .i64 0, .int .i64 0, .string ByteArray.empty]).cells (grownCap w k 0 57 - k)) (by rw [Array.size_append, zc_size, zc_size, hzs]; omega) hcap2)
    clear ht hi0 hz hsize hby hzs hsz
    refine calls_cps fun R hR => ?_
    have HR := Lib.hid hR
    clear hR
    go_enter Try.func98, Try.ntmps98
    go_wp2_with (at_builtin; refine Lib.wpList_append_run _ rfl _ _ _ _ rfl _ _ rfl rfl _ _ (HRUN.out _ _) ?_)
    refine HR.out _ _ ⟨_, _, rfl, ?_, ?_⟩
    · have := HO.out
      exact this.mono (Nat.le_refl _) (by simp)
    · exact ((Below.refl _ _).drew).alloc (by simp) _
end Go.Proofs.Ytamhbmaimiifmaa
