/-
  Rows of the call's own that read as lists: their laws for append, make, reading, writing. Conditions: none.
-/
import Derived.Test.YtmhbfoaecebobaaRd
import Derived.Maps.AppendAt
import Derived.OwnWalk
import Derived.Deep.Light
namespace Go.Proofs.Ytmhbfoaecebobaa
set_option linter.unusedSimpArgs false
set_option linter.unusedVariables false
open Go.RowKit

/-- what is known of a slice type: its elements' type, their cells and bytes, their zero -/
def TI (t e size bytes : Nat) (z : Value) : Prop := ∃ i, Try.prog.underlying t = some (.slice e) ∧ Try.prog.info? e = some i ∧ i.zero = some z ∧ i.size = size ∧ i.bytes = bytes ∧ z.cells.size = size ∧ 0 < size
theorem TI.mk {t e size bytes : Nat} {z : Value} (h1 : Try.prog.underlying t = some (.slice e)) (h2 : (Try.prog.info? e).map (fun i => (i.zero, i.size, i.bytes)) = some (some z, size, bytes)) (h3 : z.cells.size = size) (h4 : 0 < size) : TI t e size bytes z := by
  obtain ⟨i, hi, a, b, c⟩ := info_parts h2
  exact ⟨i, h1, hi, a, b, c, h3, h4⟩
theorem ti_int : TI 30 3 1 8 (.int .i64 0) := TI.mk Try.underlying30 (by kernel_rfl) rfl (by decide)

/-- a row of the call's own that reads as l: nil, or one block from lo on, below hi -/
def Own {α : Type} (e size : Nat) (enc : α → List Value) (w : World) (lo hi : Nat) (v : Value) (l : List α) : Prop :=
  w.ownsRow lo e size v l.length (l.flatMap enc) ∧ ∀ k, v.ownBlock = some k → k < hi
section
variable {α : Type} {e size : Nat} {enc : α → List Value} {w W : World} {lo hi : Nat} {v : Value} {l : List α}
theorem Own.nil (w : World) (lo hi : Nat) : Own e size enc w lo hi (.slice none 0 0) [] := ⟨⟨by simp, .inl ⟨rfl, rfl⟩⟩, fun k h => by cases h⟩
theorem Own.mono {lo' hi' : Nat} (h : Own e size enc w lo hi v l) (hl : lo' ≤ lo) (hh : hi ≤ hi') : Own e size enc w lo' hi' v l := ⟨own_lower h.1 hl, fun k hk => Nat.lt_of_lt_of_le (h.2 k hk) hh⟩
theorem Own.keep {D : Nat → Prop} (hc : Chg D w W) (hd : ∀ k, lo ≤ k ∧ k < hi → ¬ D k) (h : Own e size enc w lo hi v l) : Own e size enc W lo hi v l := by
  refine ⟨⟨h.1.1, ?_⟩, h.2⟩
  rcases h.1.2 with h2 | ⟨g, cap, cur, hv, hg, hh, r⟩
  · exact Or.inl h2
  · have hvg : v.ownBlock = some g := by rw [hv]; rfl
    exact Or.inr ⟨g, cap, cur, hv, hg, (hc.block g (Array.getElem?_eq_some_iff.1 hh).1 (hd g ⟨hg, h.2 g hvg⟩)).trans hh, r⟩
theorem Own.form (h : Own e size enc w lo hi v l) : ∃ A c, v = .slice A l.length c ∧ l.length ≤ c ∧ l.length ≤ 9223372036854775807 := by
  rcases h.1.2 with ⟨rfl, h2⟩ | ⟨g, cap, cur, hv, hg, hh, h1, h2, _⟩
  · exact ⟨none, 0, by rw [h2], by omega, by omega⟩
  · exact ⟨_, _, hv, h1, by unfold maxLen at h2; omega⟩
theorem Own.rd (h : Own e size enc w lo hi v l) : Rd size enc w lo hi v l := by
  rcases h.1.2 with ⟨rfl, h2⟩ | ⟨g, cap, cur, hv, hg, hh, h1, h2, h3, h4⟩
  · have : l = [] := List.eq_nil_of_length_eq_zero h2
    subst this
    exact Rd.nil w lo hi
  · refine ⟨h.1.1, _, _, hv, h1, Nat.le_trans h1 h2, fun _ => ⟨g, 0, rfl, hg, h.2 g (by rw [hv]; rfl), fun j u hu => ?_⟩⟩
    rw [cell_of_row w g (0 + j) cur e (0, 0) hh, Nat.zero_add]
    rw [← h4, List.getElem?_take] at hu
    split at hu
    · simpa using hu
    · cases hu
/-- the block of a row that is not empty -/
theorem Own.blk (h : Own e size enc w lo hi v l) (hn : 0 < l.length) : ∃ g cap, v = .slice (some ⟨g, 0, none⟩) l.length cap ∧ lo ≤ g ∧ g < hi ∧ g < w.heap.size := by
  rcases h.1.2 with ⟨rfl, h2⟩ | ⟨g, cap, cur, hv, hg, hh, h1, h2, h3, h4⟩
  · omega
  · exact ⟨g, cap, hv, hg, h.2 g (by rw [hv]; rfl), (Array.getElem?_eq_some_iff.1 hh).1⟩
theorem Own.cell {g n cap : Nat} (h : Own e size enc w lo hi (.slice (some ⟨g, 0, none⟩) n cap) l) (he : ∀ a, (enc a).length = size) {k : Nat} {a : α} (hk : l[k]? = some a) {j : Nat} {u : Value} (hu : (enc a)[j]? = some u) :
    w.cell? ⟨g, k * size + j, none⟩ = some u ∧ w.frozen? ⟨g, k * size + j, none⟩ = false := by
  rcases h.1.2 with ⟨h0, _⟩ | ⟨g', c', cur, hv, hb, hg, _, _, hs, ht⟩
  · cases h0
  · injection hv with hA _ _
    injection hA with hA
    injection hA with hA
    subst hA
    refine ⟨?_, by simp [World.frozen?, hg]⟩
    rw [cell_of_row w g _ cur e (0, 0) hg]
    have hf := flatMap_get he l k a j u hk hu
    rw [← ht, List.getElem?_take] at hf
    split at hf
    · simpa using hf
    · cases hf
/-- a store of an element of one cell -/
theorem Own.set1 {enc : α → List Value} {g n cap : Nat} (h : Own e 1 enc w lo hi (.slice (some ⟨g, 0, none⟩) n cap) l) {k : Nat} {a : α} {u : Value} (he : ∀ a, (enc a).length = 1) (hu : enc a = [u]) :
    Own e 1 enc (w.setCell ⟨g, k, none⟩ u) lo hi (.slice (some ⟨g, 0, none⟩) n cap) (l.set k a) := by
  refine ⟨?_, h.2⟩
  rcases h.1.2 with ⟨h0, _⟩ | ⟨g', c', cur, hv, hb, hg, h1, h2, hs, ht⟩
  · cases h0
  · injection hv with hA hn hc
    injection hA with hA
    injection hA with hA
    subst hA hc hn
    have hset : ∀ (l : List α) (k : Nat), (l.set k a).flatMap enc = (l.flatMap enc).set k u := by
      intro l
      induction l with
      | nil => intro k; simp
      | cons b l ih =>
        intro k
        obtain ⟨y, hy⟩ : ∃ y, enc b = [y] := List.length_eq_one_iff.1 (he b)
        cases k with
        | zero => simp [hu, hy]
        | succ k => simp [hy, ih k]
    refine ⟨by rw [flatMap_len he, List.length_set], .inr ⟨g, cap, cur.setIfInBounds k u, by rw [List.length_set], hb, ?_, by rw [List.length_set]; exact h1, h2, by simp [hs], ?_⟩⟩
    · simp [World.setCell, Array.getElem?_modify, hg]
    · rw [hset, ← ht, List.length_set]
      simp only [Array.toList_setIfInBounds]
      rw [List.take_set]
end
abbrev Loc.ow {α : Type} (e size : Nat) (enc : α → List Value) (lo hi : Nat) (v : Value) (l : List α) : Loc :=
  ⟨fun w => Own e size enc w lo hi v l, fun k => lo ≤ k ∧ k < hi, fun h hd hp => Own.keep h hd hp⟩
abbrev OwnI := Own 3 1 encI
abbrev Loc.owI (lo hi : Nat) (v : Value) (l : List Int) : Loc := Loc.ow 3 1 encI lo hi v l
abbrev Loc.rdI (lo hi : Nat) (v : Value) (l : List Int) : Loc := Loc.rd 1 encI lo hi v l
abbrev Loc.rdS (lo hi : Nat) (v : Value) (l : List ByteArray) : Loc := Loc.rd 1 encS lo hi v l
abbrev Loc.rdM (lo hi : Nat) (v : Value) (l : List Stp) : Loc := Loc.rd 3 encM lo hi v l
theorem OwnI.at1 {w : World} {lo hi g n cap : Nat} {l : List Int} (h : OwnI w lo hi (.slice (some ⟨g, 0, none⟩) n cap) l) {k : Nat} (hk : k < l.length) :
    w.cell? ⟨g, k, none⟩ = some (.int .i64 (gti l k)) ∧ w.frozen? ⟨g, k, none⟩ = false := by
  have := Own.cell h (fun _ => rfl) (gti_get hk) (j := 0) (u := .int .i64 (gti l k)) rfl
  simpa using this
theorem OwnI.set {w : World} {lo hi g n cap : Nat} {l : List Int} (h : OwnI w lo hi (.slice (some ⟨g, 0, none⟩) n cap) l) (k : Nat) (x : Int) :
    OwnI (w.setCell ⟨g, k, none⟩ (.int .i64 x)) lo hi (.slice (some ⟨g, 0, none⟩) n cap) (l.set k x) := Own.set1 h (fun _ => rfl) rfl

/-- a new literal of one element, read and owned -/
theorem Own.lit {α : Type} {size : Nat} {enc : α → List Value} (W : World) (t : TypeId) (lo : Nat) (l : List α) (cs : Array Value) (n : Nat) (hn : n = l.length) (hcs : cs.toList = l.flatMap enc) (hl : lo ≤ W.heap.size) (hm : n ≤ maxLen) (he : ∀ a, (enc a).length = size) :
    Own t size enc (W.alloc (.cells cs t)) lo (W.heap.size + 1) (.slice (some ⟨W.heap.size, 0, none⟩) n n) l := by
  subst hn
  have hsz : cs.size = l.length * size := by rw [← Array.length_toList, hcs, flatMap_len he]
  have h := own_lit W cs t lo size l.length hsz hm hl
  rw [hcs] at h
  exact ⟨h, fun k hk => by simp [Value.ownBlock] at hk; omega⟩
theorem Rd.lit {α : Type} {size : Nat} {enc : α → List Value} (W : World) (t : TypeId) (l : List α) (cs : Array Value) (n : Nat) (hn : n = l.length) (hcs : cs.toList = l.flatMap enc) (hm : n ≤ maxLen) (he : ∀ a, (enc a).length = size) :
    Rd size enc (W.alloc (.cells cs t)) 0 (W.heap.size + 1) (.slice (some ⟨W.heap.size, 0, none⟩) n n) l := (Own.lit W t 0 l cs n hn hcs (Nat.zero_le _) hm he).rd
theorem RdI.lit1 (W : World) (x : Int) (t : TypeId) : RdI (W.alloc (.cells #[.int .i64 x] t)) 0 (W.heap.size + 1) (.slice (some ⟨W.heap.size, 0, none⟩) 1 1) [x] := Rd.lit W t [x] _ 1 rfl rfl (by decide) (fun _ => rfl)

theorem add_off (b off j : Nat) : (⟨b, off, none⟩ : Addr).add j = ⟨b, off + j, none⟩ := by unfold Addr.add; split <;> simp_all
/-- the law of append, onto a row of the call's own, whatever the source -/
theorem run_app {α : Type} {t e size bytes : Nat} {z : Value} {enc : α → List Value} (ti : TI t e size bytes z) (he : ∀ a, (enc a).length = size) (h1 : ∀ a, ∀ u ∈ enc a, u.oneCell' = true) (w : World) (ty : TypeId) {lo hi lo' hi' : Nat} {v vx : Value} {l xs : List α} {rest : List Loc}
    (hM : Mem (Loc.ow e size enc lo hi v l :: rest) w) (hA : Apart (fun k => lo ≤ k ∧ k < hi) rest) (hx : Rd size enc w lo' hi' vx xs) (hlen : (l.length + xs.length) * bytes ≤ 140737488355328) (hlen2 : l.length + xs.length ≤ maxLen) (hlo : lo ≤ w.heap.size) :
    ∃ A c w', (Builtin.append_ #[t, t] ty #[v, vx]).run Try.prog w = .ok (.slice A (l.length + xs.length) c) w' ∧ Mem (Loc.ow e size enc lo w'.heap.size (.slice A (l.length + xs.length) c) (l ++ xs) :: rest) w' ∧ w.heap.size ≤ w'.heap.size ∧ Chg (fun k => lo ≤ k ∧ k < hi) w w' := by
  obtain ⟨i, ht, hi0, hz, hsize, hby, hzs, hsz⟩ := ti
  obtain ⟨ho, hr⟩ := hM
  obtain ⟨A, c, rfl, _, _⟩ := hx.form
  have fin : ∀ (v' : Value) (w' : World), w'.ownsRow lo e size v' (l.length + xs.length) (l.flatMap enc ++ xs.flatMap enc) → w.grownBy w' v.ownBlock → (v'.ownBlock = v.ownBlock ∨ v'.ownBlock = some w.heap.size) →
      ∃ A c, v' = .slice A (l.length + xs.length) c ∧ Mem (Loc.ow e size enc lo w'.heap.size (.slice A (l.length + xs.length) c) (l ++ xs) :: rest) w' ∧ w.heap.size ≤ w'.heap.size ∧ Chg (fun k => lo ≤ k ∧ k < hi) w w' := by
    intro v' w' h2 h3 h4
    have hown : Own e size enc w' lo w'.heap.size v' (l ++ xs) := by
      refine ⟨by rw [List.length_append, List.flatMap_append]; exact h2, fun k hk => (h2.lt k hk).2⟩
    obtain ⟨A', c', hv', _, _⟩ := hown.form
    rw [List.length_append] at hv'
    subst hv'
    have hch : Chg (fun k => lo ≤ k ∧ k < hi) w w' := ⟨h3.os, h3.tape, h3.output, h3.size, fun k hk hd => h3.block k hk (fun e => hd ⟨(ho.1.lt k e.symm).1, ho.2 k e.symm⟩)⟩
    exact ⟨A', c', rfl, ⟨hown, hr.chg hch hA⟩, h3.size, hch⟩
  rcases A with _ | ad
  · have hm : xs.length = 0 := by
      rcases Nat.eq_zero_or_pos xs.length with h0 | h0
      · exact h0
      · obtain ⟨b, off, h, _⟩ := RdC.cells hx h0
        cases h
    have hxs : xs = [] := List.eq_nil_of_length_eq_zero hm
    subst hxs
    have hrun : (Builtin.append_ #[t, t] ty #[v, .slice none ([] : List α).length c]).run Try.prog w = .ok v w := by
      rcases ho.1.2 with ⟨rfl, h0⟩ | ⟨g, cap, cur, rfl, _, _, hnc, _⟩
      · simp [Builtin.append_, run_underlying ht, sizeOf, typeInfo, hi0, Builtin.lenOf, Builtin.firstCells]
      · simp [Builtin.append_, run_underlying ht, sizeOf, typeInfo, hi0, Builtin.lenOf, Builtin.firstCells, hnc, storeCells]
    obtain ⟨A', c', hv, hM', h5, h6⟩ := fin v w (by simpa using ho.1) (World.grownBy.refl w _) (.inl rfl)
    exact ⟨A', c', w, hrun.trans (by rw [hv]), hM', h5, h6⟩
  · have hcells : ∀ j u, (xs.flatMap enc)[j]? = some u → w.cell? (ad.add j) = some u := by
      intro j u hu
      rcases Nat.eq_zero_or_pos xs.length with h0 | h0
      · have : xs = [] := List.eq_nil_of_length_eq_zero h0
        subst this
        simp at hu
      · obtain ⟨b, off, h, _, _, hc⟩ := RdC.cells hx h0
        rw [Option.some.inj h, add_off]
        exact hc j u hu
    obtain ⟨v', w', hrun, h2, h3, _, h5⟩ := run_append_own_at (P := Try.prog) w lo t ty e i z size bytes ht hi0 hz hsize hby hzs hsz v l.length (l.flatMap enc) ho.1 ad xs.length c (xs.flatMap enc) (flatMap_len he xs) hcells
      (fun u hu => by obtain ⟨a, _, ha⟩ := List.mem_flatMap.1 hu; exact h1 a u ha) hlen2 hlen hlo
    obtain ⟨A', c', hv, hM', h6, h7⟩ := fin v' w' h2 h3 h5
    exact ⟨A', c', w', hrun.trans (by rw [hv]), hM', h6, h7⟩

section
variable {α : Type} {t e size bytes : Nat} {z : Value} {enc : α → List Value}
theorem wp_app {o : Oper} {a : Act} {K : Act → World → Prop} {Q : Exit → Act → World → Prop} (s x : Operand) (ho : o.op = .call { callee := .builtin .append, args := #[s, x], argTypes := #[t, t] })
    (ti : TI t e size bytes z) (he : ∀ a, (enc a).length = size) (h1 : ∀ a, ∀ u ∈ enc a, u.oneCell' = true) {w : World} {lo hi lo' hi' : Nat} {v vx : Value} {l xs : List α} {rest : List Loc} (hs : a.eval s = v) (hvx : a.eval x = vx)
    (hM : Mem (Loc.ow e size enc lo hi v l :: rest) w) (hA : Apart (fun k => lo ≤ k ∧ k < hi) rest) (hx : Rd size enc w lo' hi' vx xs) (hlen : (l.length + xs.length) * bytes ≤ 140737488355328) (hlen2 : l.length + xs.length ≤ 9223372036854775807) (hlo : lo ≤ w.heap.size)
    (h : ∀ A c w', Mem (Loc.ow e size enc lo w'.heap.size (.slice A (l.length + xs.length) c) (l ++ xs) :: rest) w' → w.heap.size ≤ w'.heap.size → Chg (fun k => lo ≤ k ∧ k < hi) w w' → K (a.put o.dst (.slice A (l.length + xs.length) c)) w') : o.wp Try.prog a w K Q := by
  obtain ⟨A, c, w', hrun, h2, h3, h4⟩ := run_app ti he h1 w o.type hM hA hx hlen (by unfold maxLen; omega) hlo
  unfold Oper.wp execOp
  simp only [ho, resolve, invoke, builtin, Sem.run_bind, Sem.run_pure, Result.andThen_ok, List.map_toArray, List.map_cons, List.map_nil, hs, hvx, hrun]
  exact h A c w' h2 h3 h4
theorem wpList_app {ops : Array Oper} {restO : List Oper} {o : Oper} {a : Act} {Q : Exit → Act → World → Prop} (hgd : o.guard = none) (s x : Operand) (ho : o.op = .call { callee := .builtin .append, args := #[s, x], argTypes := #[t, t] })
    (ti : TI t e size bytes z) (he : ∀ a, (enc a).length = size) (h1 : ∀ a, ∀ u ∈ enc a, u.oneCell' = true) {w : World} {lo hi lo' hi' : Nat} {v vx : Value} {l xs : List α} {rest : List Loc} (hs : a.eval s = v) (hvx : a.eval x = vx)
    (hM : Mem (Loc.ow e size enc lo hi v l :: rest) w) (hA : Apart (fun k => lo ≤ k ∧ k < hi) rest) (hx : Rd size enc w lo' hi' vx xs) (hlen : (l.length + xs.length) * bytes ≤ 140737488355328) (hlen2 : l.length + xs.length ≤ 9223372036854775807) (hlo : lo ≤ w.heap.size)
    (h : ∀ A c w', Mem (Loc.ow e size enc lo w'.heap.size (.slice A (l.length + xs.length) c) (l ++ xs) :: rest) w' → w.heap.size ≤ w'.heap.size → Chg (fun k => lo ≤ k ∧ k < hi) w w' → wpList Try.prog ops Q restO (a.put o.dst (.slice A (l.length + xs.length) c)) w') : wpList Try.prog ops Q (o :: restO) a w :=
  wpList_plain hgd fun _ hK => wp_app s x ho ti he h1 hs hvx hM hA hx hlen hlen2 hlo fun A c w' h2 h3 h4 => hK _ _ (h A c w' h2 h3 h4)
theorem step_app {ops : Array Oper} {o : Oper} {a : Act} {K : Act → World → Prop} {Q : Exit → Act → World → Prop} {E : Prop} (hgd : o.guard = none) (s x : Operand) (ho : o.op = .call { callee := .builtin .append, args := #[s, x], argTypes := #[t, t] })
    (ti : TI t e size bytes z) (he : ∀ a, (enc a).length = size) (h1 : ∀ a, ∀ u ∈ enc a, u.oneCell' = true) {w : World} {lo hi lo' hi' : Nat} {v vx : Value} {l xs : List α} {rest : List Loc} (hs : a.eval s = v) (hvx : a.eval x = vx)
    (hM : Mem (Loc.ow e size enc lo hi v l :: rest) w) (hA : Apart (fun k => lo ≤ k ∧ k < hi) rest) (hx : Rd size enc w lo' hi' vx xs) (hlen : (l.length + xs.length) * bytes ≤ 140737488355328) (hlen2 : l.length + xs.length ≤ 9223372036854775807) (hlo : lo ≤ w.heap.size)
    (h : ∀ A c w', Mem (Loc.ow e size enc lo w'.heap.size (.slice A (l.length + xs.length) c) (l ++ xs) :: rest) w' → w.heap.size ≤ w'.heap.size → Chg (fun k => lo ≤ k ∧ k < hi) w w' → K (a.put o.dst (.slice A (l.length + xs.length) c)) w') :
    if Region.wanted o (yielded ops a.tmps) = true then Oper.wp Try.prog o a w K Q else E := by
  have hw : Region.wanted o (yielded ops a.tmps) = true := by simp [Region.wanted, hgd]
  rw [if_pos hw]
  exact wp_app s x ho ti he h1 hs hvx hM hA hx hlen hlen2 hlo h
end

/-- make([]T, n): the run, and the row -/
theorem run_mk {t e size bytes : Nat} {z : Value} (ti : TI t e size bytes z) (w : World) (n : Nat) (hn : bytes * n ≤ 140737488355328) (h63 : n ≤ 9223372036854775807) :
    (Instr.makeSlice t (.int .i64 (n : Int)) (.int .i64 (n : Int))).run Try.prog w = .ok (.slice (some ⟨w.heap.size, 0, none⟩) n n) (w.alloc (.cells (madeCells z.cells (n * size)) e)) := by
  obtain ⟨i, ht, hi0, hz, hsize, hby, hzs, hsz⟩ := ti
  have := run_make (P := Try.prog) w t e i z ht hi0 hz .i64 .i64 (n : Int) (n : Int) (by omega) (by omega) (by rw [hby]; omega) (by omega)
  rw [Int.toNat_natCast, hsize] at this
  exact this
theorem made_rep {α : Type} {size : Nat} {enc : α → List Value} {z : Value} (a : α) (hz : z.cells.toList = enc a) (hs : z.cells.size = size) (hpos : 0 < size) : ∀ n, (madeCells z.cells (n * size)).toList = (List.replicate n a).flatMap enc := by
  intro n
  apply List.ext_getElem?
  intro j
  have hlen : (enc a).length = size := by rw [← hz, Array.length_toList, hs]
  have hL : ((List.replicate n a).flatMap enc).length = n * size := by
    induction n with
    | zero => simp
    | succ n ih => rw [List.replicate_succ, List.flatMap_cons, List.length_append, ih, hlen, Nat.add_mul]; omega
  by_cases hj : j < n * size
  · have hq : j / size < n := (Nat.div_lt_iff_lt_mul hpos).2 hj
    have hmod : j % size < size := Nat.mod_lt _ hpos
    have e1 : (madeCells z.cells (n * size)).toList[j]? = some (z.cells[j % size]!) := by
      simp [madeCells, hj, hs]
    have e2 : (enc a)[j % size]? = some (z.cells[j % size]!) := by
      rw [← hz]
      simp [hs, hmod]
    have e3 : ((List.replicate n a).flatMap enc)[j]? = (enc a)[j % size]? := by
      clear e1 e2 hL
      induction n generalizing j with
      | zero => simp at hj
      | succ n ih =>
        rw [List.replicate_succ, List.flatMap_cons]
        by_cases hjs : j < size
        · rw [List.getElem?_append_left (by omega), Nat.mod_eq_of_lt hjs]
        · rw [List.getElem?_append_right (by omega), hlen]
          have hlt : j - size < n * size := by rw [Nat.add_mul] at hj; omega
          rw [ih (j - size) hlt ((Nat.div_lt_iff_lt_mul hpos).2 hlt) (Nat.mod_lt _ hpos)]
          rw [← Nat.mod_eq_sub_mod (by omega)]
    rw [e1, e3, e2]
  · rw [List.getElem?_eq_none (by simp [size_madeCells]; omega), List.getElem?_eq_none (by omega)]
theorem Own.made {α : Type} {t e size bytes : Nat} {z : Value} {enc : α → List Value} (ti : TI t e size bytes z) (W : World) (lo n : Nat) (a : α) (hz : z.cells.toList = enc a) (hl : lo ≤ W.heap.size) (hn : n ≤ 9223372036854775807) (he : ∀ a, (enc a).length = size) :
    Own e size enc (W.alloc (.cells (madeCells z.cells (n * size)) e)) lo (W.heap.size + 1) (.slice (some ⟨W.heap.size, 0, none⟩) n n) (List.replicate n a) := by
  obtain ⟨i, ht, hi0, hzz, hsize, hby, hzs, hsz⟩ := ti
  exact Own.lit W e lo _ _ n (by simp) (made_rep a hz hzs hsz n) hl (by unfold maxLen; omega) he

end Go.Proofs.Ytmhbfoaecebobaa
