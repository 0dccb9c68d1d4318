/-
  Three rows of the call's own, side by side, each appended to. Conditions: none.
-/
import Derived.Test.YtamhbmaimiifmaaConcat
namespace Go.Proofs.Ytamhbmaimiifmaa
set_option linter.unusedSimpArgs false
set_option linter.unusedVariables false
open Go.RowKit

def Dis (u v : Value) : Prop := ∀ k, u.ownBlock = some k → v.ownBlock ≠ some k
theorem Dis.symm {u v : Value} (h : Dis u v) : Dis v u := fun k h1 h2 => h k h2 h1
theorem Dis.nil (v : Value) : Dis (.slice none 0 0) v := fun k h => by cases h
abbrev OwnB (w : World) (lo : Nat) (v : Value) (l : List Stp) : Prop := w.ownsRow lo 57 3 v l.length (l.flatMap encM)
def Low (lo : Nat) : List Loc → Prop
  | [] => True
  | a :: l => (∀ k, a.F k → k < lo) ∧ Low lo l
structure T3 (lo : Nat) (v1 : Value) (l1 : List Stp) (v2 : Value) (l2 : List Stp) (v3 : Value) (l3 : List Stp) (rest : List Loc) (w : World) : Prop where
  o1 : OwnB w lo v1 l1
  o2 : OwnB w lo v2 l2
  o3 : OwnB w lo v3 l3
  d12 : Dis v1 v2
  d13 : Dis v1 v3
  d23 : Dis v2 v3
  low : Low lo rest
  s : lo ≤ w.heap.size
  r : Mem rest w
section
variable {lo : Nat} {v1 v2 v3 : Value} {l1 l2 l3 : List Stp} {rest : List Loc} {w W : World}
theorem T3.rot (h : T3 lo v1 l1 v2 l2 v3 l3 rest w) : T3 lo v2 l2 v3 l3 v1 l1 rest w := ⟨h.o2, h.o3, h.o1, h.d23, h.d12.symm, h.d13.symm, h.low, h.s, h.r⟩
theorem T3.below (h : T3 lo v1 l1 v2 l2 v3 l3 rest w) (hb : Below w.heap.size w W) : T3 lo v1 l1 v2 l2 v3 l3 rest W :=
  ⟨own_below h.o1 hb, own_below h.o2 hb, own_below h.o3 hb, h.d12, h.d13, h.d23, h.low, Nat.le_trans h.s hb.size, h.r.below hb⟩
theorem T3.alloc (h : T3 lo v1 l1 v2 l2 v3 l3 rest w) (o : Obj) : T3 lo v1 l1 v2 l2 v3 l3 rest (w.alloc o) := h.below ((Below.refl _ _).alloc (Nat.le_refl _) o)
theorem T3.drew (h : T3 lo v1 l1 v2 l2 v3 l3 rest w) : T3 lo v1 l1 v2 l2 v3 l3 rest w.drew := h.below ((Below.refl _ _).drew)
theorem T3.drewN (h : T3 lo v1 l1 v2 l2 v3 l3 rest w) (n : Nat) : T3 lo v1 l1 v2 l2 v3 l3 rest (w.drewN n) := h.below (below_drewN (Below.refl _ _) n)
theorem T3.cast {rest' : List Loc} (h : T3 lo v1 l1 v2 l2 v3 l3 rest w) (hl : Low lo rest') (hr : Mem rest' w) : T3 lo v1 l1 v2 l2 v3 l3 rest' w := ⟨h.o1, h.o2, h.o3, h.d12, h.d13, h.d23, hl, h.s, hr⟩
theorem low_apart {u : Value} {l : List Stp} (ho : OwnB w lo u l) : ∀ {rest : List Loc}, Low lo rest → Apart (fun k => u.ownBlock = some k) rest
  | [], _ => True.intro
  | a :: rest, h => ⟨fun k hk he => by have := h.1 k hk; have := (ho.lt k he).1; omega, low_apart ho h.2⟩
theorem OwnB.form (h : OwnB w lo v1 l1) : ∃ A c, v1 = .slice A l1.length c := by
  rcases h.2 with ⟨rfl, h2⟩ | ⟨g, cap, cur, hv, _⟩
  · exact ⟨none, 0, by rw [h2]⟩
  · exact ⟨_, _, hv⟩
theorem OwnB.rd (h : OwnB w lo v1 l1) : RdM w lo w.heap.size v1 l1 := Rd.of_own h
/-- an element more for the first row -/
theorem run_app3 (h : T3 lo v1 l1 v2 l2 v3 l3 rest w) (kd tr : Int) (ac : ByteArray) (ty : TypeId) (b : Nat) (hbb : w.heap.size = b) (hlen : l1.length ≤ 100000) :
    ∃ A c w', (Builtin.append_ #[28, 28] ty #[v1, .slice (some ⟨b, 0, none⟩) 1 1]).run Try.prog (w.alloc (.cells #[.int .i64 kd, .int .i64 tr, .string ac] 57)) = .ok (.slice A (l1 ++ [(⟨kd, tr, ac⟩ : Stp)]).length c) w' ∧
      T3 lo (.slice A (l1 ++ [(⟨kd, tr, ac⟩ : Stp)]).length c) (l1 ++ [(⟨kd, tr, ac⟩ : Stp)]) v2 l2 v3 l3 rest w' ∧ w.heap.size ≤ w'.heap.size ∧ ∀ k, k < w.heap.size → v1.ownBlock ≠ some k → w'.heap[k]? = w.heap[k]? := by
  subst hbb
  obtain ⟨i, ht, hi0, hz, hsize, hby, hzs, hsz⟩ := ti_step
  have ha := h.alloc (.cells #[.int .i64 kd, .int .i64 tr, .string ac] 57)
  have hx : RdM (w.alloc (.cells #[.int .i64 kd, .int .i64 tr, .string ac] 57)) 0 (w.heap.size + 1) (.slice (some ⟨w.heap.size, 0, none⟩) 1 1) [(⟨kd, tr, ac⟩ : Stp)] := Rd.lit w 57 [(⟨kd, tr, ac⟩ : Stp)] _ 1 rfl rfl (by decide) (fun _ => rfl)
  obtain ⟨b, off, hA, _, _, hc⟩ := RdC.cells hx (by decide)
  injection hA with hA
  injection hA with e1 e2
  subst e1 e2
  obtain ⟨v', w', hrun, h2, h3, _, h5⟩ := run_append_own_at (P := Try.prog) _ lo 28 ty 57 i _ 3 32 ht hi0 hz hsize hby hzs hsz v1 l1.length (l1.flatMap encM) ha.o1 ⟨w.heap.size, 0, none⟩ 1 1 ([(⟨kd, tr, ac⟩ : Stp)].flatMap encM) rfl
    (fun j u hu => by rw [add_off]; exact hc j u hu) (fun u hu => by obtain ⟨a, _, ha⟩ := List.mem_flatMap.1 hu; exact oneM a u ha) (by unfold maxLen; omega) (by omega) ha.s
  have hown : OwnB w' lo v' (l1 ++ [(⟨kd, tr, ac⟩ : Stp)]) := by
    unfold OwnB
    rw [List.length_append, List.flatMap_append]
    exact h2
  obtain ⟨A, c, hv⟩ := hown.form
  have hd : ∀ {u : Value} {l : List Stp}, Dis v1 u → OwnB (w.alloc (.cells #[.int .i64 kd, .int .i64 tr, .string ac] 57)) lo u l → Dis v' u := by
    intro u l hd ho k hk he
    rcases h5 with h5 | h5
    · rw [h5] at hk; exact hd k hk he
    · rw [h5] at hk
      injection hk with hk
      have := (ho.lt k he).2
      omega
  have hk : ∀ {u : Value} {l : List Stp}, Dis v1 u → OwnB (w.alloc (.cells #[.int .i64 kd, .int .i64 tr, .string ac] 57)) lo u l → OwnB w' lo u l := by
    intro u l hd ho
    refine ho.kept h3 ?_
    cases hu : u.ownBlock with
    | none => exact .inl rfl
    | some k => exact .inr (fun he => hd k he.symm hu)
  subst hv
  refine ⟨A, c, w', hrun, ⟨hown, hk ha.d12 ha.o2, hk ha.d13 ha.o3, hd ha.d12 ha.o2, hd ha.d13 ha.o3, ha.d23, ha.low, Nat.le_trans ha.s h3.size, ha.r.grown h3 (low_apart ha.o1 ha.low)⟩, ?_, fun k hk hne => ?_⟩
  · have := h3.size
    simp at this
    omega
  · have hb : Below w.heap.size w (w.alloc (.cells #[.int .i64 kd, .int .i64 tr, .string ac] 57)) := (Below.refl _ _).alloc (Nat.le_refl _) _
    exact (h3.block k (Nat.lt_of_lt_of_le hk hb.size) (fun he => hne he.symm)).trans (hb.block k hk)
end
end Go.Proofs.Ytamhbmaimiifmaa
