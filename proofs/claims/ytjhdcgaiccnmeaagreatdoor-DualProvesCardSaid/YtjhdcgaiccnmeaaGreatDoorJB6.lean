import Derived.Test.YtjhdcgaiccnmeaaGreatDoorJB5
import Derived.Maps.AppendAt
import Derived.OwnWalk
import Derived.Deep.Light
set_option linter.unusedSimpArgs false
set_option linter.unusedVariables false
set_option linter.unusedSectionVars false
namespace Go.Proofs.YtjhdcgaiccnmeaaGreatDoor
section
open Go.RowKit
def TI (t e size bytes : Nat) (z : Value) : Prop := ∃ i, Tryz.prog.underlying t = some (.slice e) ∧ Tryz.prog.info? e = some i ∧ i.zero = some z ∧ i.size = size ∧ i.bytes = bytes ∧ z.cells.size = size ∧ 0 < size
theorem TI.mk {t e size bytes : Nat} {z : Value} (h1 : Tryz.prog.underlying t = some (.slice e)) (h2 : (Tryz.prog.info? e).map (fun i => (i.zero, i.size, i.bytes)) = some (some z, size, bytes)) (h3 : z.cells.size = size) (h4 : 0 < size) : TI t e size bytes z := by
 obtain ⟨i, hi, a, b, c⟩ := info_parts h2
 exact ⟨i, h1, hi, a, b, c, h3, h4⟩
theorem zhd : TI 29 3 1 8 (.int .i64 0) := TI.mk Tryz.underlying29 (by kernel_rfl) rfl (by decide)
def Own {α : Type} (e size : Nat) (enc : α → List Value) (w : World) (lo hi : Nat) (v : Value) (l : List α) : Prop :=
 w.ownsRow lo e size v l.length (l.flatMap enc) ∧ ∀ k, v.ownBlock = some k → k < hi
section
variable {α : Type} {e size : Nat} {enc : α → List Value} {w W : World} {lo hi : Nat} {v : Value} {l : List α}
theorem Own.nil (w : World) (lo hi : Nat) : Own e size enc w lo hi (.slice none 0 0) [] := ⟨⟨by simp, .inl ⟨rfl, rfl⟩⟩, fun k h => by cases h⟩
theorem Own.mono {lo' hi' : Nat} (h : Own e size enc w lo hi v l) (hl : lo' ≤ lo) (hh : hi ≤ hi') : Own e size enc w lo' hi' v l := ⟨zvl h.1 hl, fun k hk => Nat.lt_of_lt_of_le (h.2 k hk) hh⟩
theorem Own.keep {D : Nat → Prop} (hc : Chg D w W) (hd : ∀ k, lo ≤ k ∧ k < hi → ¬ D k) (h : Own e size enc w lo hi v l) : Own e size enc W lo hi v l := by
 refine ⟨⟨h.1.1, ?_⟩, h.2⟩
 rcases h.1.2 with h2 | ⟨g, cap, cur, hv, hg, hh, r⟩
 ·
  exact Or.inl h2
 ·
  have hvg : v.ownBlock = some g := by rw [hv]; rfl
  exact Or.inr ⟨g, cap, cur, hv, hg, (hc.block g (Array.getElem?_eq_some_iff.1 hh).1 (hd g ⟨hg, h.2 g hvg⟩)).trans hh, r⟩
theorem Own.form (h : Own e size enc w lo hi v l) : ∃ A c, v = .slice A l.length c ∧ l.length ≤ c ∧ l.length ≤ 9223372036854775807 := by
 rcases h.1.2 with ⟨rfl, h2⟩ | ⟨g, cap, cur, hv, hg, hh, h1, h2, _⟩
 ·
  exact ⟨none, 0, by rw [h2], by omega, by omega⟩
 ·
  exact ⟨_, _, hv, h1, by unfold maxLen at h2; omega⟩
theorem Own.rd (h : Own e size enc w lo hi v l) : Rd size enc w lo hi v l := by
 rcases h.1.2 with ⟨rfl, h2⟩ | ⟨g, cap, cur, hv, hg, hh, h1, h2, h3, h4⟩
 ·
  have : l = [] := List.eq_nil_of_length_eq_zero h2
  subst this
  exact Rd.nil w lo hi
 ·
  refine ⟨h.1.1, _, _, hv, h1, Nat.le_trans h1 h2, fun _ => ⟨g, 0, rfl, hg, h.2 g (by rw [hv]; rfl), fun j u hu => ?_⟩⟩
  rw [cell_of_row w g (0 + j) cur e (0, 0) hh, Nat.zero_add]
  rw [← h4, List.getElem?_take] at hu
  split at hu
  ·
   simpa using hu
  ·
   cases hu
theorem Own.blk (h : Own e size enc w lo hi v l) (hn : 0 < l.length) : ∃ g cap, v = .slice (some ⟨g, 0, none⟩) l.length cap ∧ lo ≤ g ∧ g < hi ∧ g < w.heap.size := by
 rcases h.1.2 with ⟨rfl, h2⟩ | ⟨g, cap, cur, hv, hg, hh, h1, h2, h3, h4⟩
 ·
  omega
 ·
  exact ⟨g, cap, hv, hg, h.2 g (by rw [hv]; rfl), (Array.getElem?_eq_some_iff.1 hh).1⟩
theorem Own.cell {g n cap : Nat} (h : Own e size enc w lo hi (.slice (some ⟨g, 0, none⟩) n cap) l) (he : ∀ a, (enc a).length = size) {k : Nat} {a : α} (hk : l[k]? = some a) {j : Nat} {u : Value} (hu : (enc a)[j]? = some u) :
  w.cell? ⟨g, k * size + j, none⟩ = some u ∧ w.frozen? ⟨g, k * size + j, none⟩ = false := by
 rcases h.1.2 with ⟨h0, _⟩ | ⟨g', c', cur, hv, hb, hg, _, _, hs, ht⟩
 ·
  cases h0
 ·
  injection hv with hA _ _
  injection hA with hA
  injection hA with hA
  subst hA
  refine ⟨?_, by simp [World.frozen?, hg]⟩
  rw [cell_of_row w g _ cur e (0, 0) hg]
  have hf := zf2 he l k a j u hk hu
  rw [← ht, List.getElem?_take] at hf
  split at hf
  ·
   simpa using hf
  ·
   cases hf
theorem Own.set1 {enc : α → List Value} {g n cap : Nat} (h : Own e 1 enc w lo hi (.slice (some ⟨g, 0, none⟩) n cap) l) {k : Nat} {a : α} {u : Value} (he : ∀ a, (enc a).length = 1) (hu : enc a = [u]) :
  Own e 1 enc (w.setCell ⟨g, k, none⟩ u) lo hi (.slice (some ⟨g, 0, none⟩) n cap) (l.set k a) := by
 refine ⟨?_, h.2⟩
 rcases h.1.2 with ⟨h0, _⟩ | ⟨g', c', cur, hv, hb, hg, h1, h2, hs, ht⟩
 ·
  cases h0
 ·
  injection hv with hA hn hc
  injection hA with hA
  injection hA with hA
  subst hA hc hn
  have hset : ∀ (l : List α) (k : Nat), (l.set k a).flatMap enc = (l.flatMap enc).set k u := by
   intro l
   induction l with
   | nil => intro k; simp
   | cons b l ih =>
    intro k
    obtain ⟨y, hy⟩ : ∃ y, enc b = [y] := List.length_eq_one_iff.1 (he b)
    cases k with
    | zero => simp [hu, hy]
    | succ k => simp [hy, ih k]
  refine ⟨by rw [zek he, List.length_set], .inr ⟨g, cap, cur.setIfInBounds k u, by rw [List.length_set], hb, ?_, by rw [List.length_set]; exact h1, h2, by simp [hs], ?_⟩⟩
  ·
   simp [World.setCell, Array.getElem?_modify, hg]
  ·
   rw [hset, ← ht, List.length_set]
   simp only [Array.toList_setIfInBounds]
   rw [List.take_set]
end
abbrev Loc.ow {α : Type} (e size : Nat) (enc : α → List Value) (lo hi : Nat) (v : Value) (l : List α) : Loc :=
 ⟨fun w => Own e size enc w lo hi v l, fun k => lo ≤ k ∧ k < hi, fun h hd hp => Own.keep h hd hp⟩
abbrev OwnI := Own 3 1 encI
abbrev Loc.owI (lo hi : Nat) (v : Value) (l : List Int) : Loc := Loc.ow 3 1 encI lo hi v l
abbrev Loc.rdI (lo hi : Nat) (v : Value) (l : List Int) : Loc := Loc.rd 1 encI lo hi v l
abbrev Loc.rdS (lo hi : Nat) (v : Value) (l : List ByteArray) : Loc := Loc.rd 1 encS lo hi v l
abbrev Loc.rdM (lo hi : Nat) (v : Value) (l : List Stp) : Loc := Loc.rd 3 encM lo hi v l
theorem OwnI.at1 {w : World} {lo hi g n cap : Nat} {l : List Int} (h : OwnI w lo hi (.slice (some ⟨g, 0, none⟩) n cap) l) {k : Nat} (hk : k < l.length) :
  w.cell? ⟨g, k, none⟩ = some (.int .i64 (gti l k)) ∧ w.frozen? ⟨g, k, none⟩ = false := by
 have := Own.cell h (fun _ => rfl) (zdh hk) (j := 0) (u := .int .i64 (gti l k)) rfl
 simpa using this
theorem OwnI.set {w : World} {lo hi g n cap : Nat} {l : List Int} (h : OwnI w lo hi (.slice (some ⟨g, 0, none⟩) n cap) l) (k : Nat) (x : Int) :
  OwnI (w.setCell ⟨g, k, none⟩ (.int .i64 x)) lo hi (.slice (some ⟨g, 0, none⟩) n cap) (l.set k x) := Own.set1 h (fun _ => rfl) rfl
theorem Own.lit {α : Type} {size : Nat} {enc : α → List Value} (W : World) (t : TypeId) (lo : Nat) (l : List α) (cs : Array Value) (n : Nat) (hn : n = l.length) (hcs : cs.toList = l.flatMap enc) (hl : lo ≤ W.heap.size) (hm : n ≤ maxLen) (he : ∀ a, (enc a).length = size) :
  Own t size enc (W.alloc (.cells cs t)) lo (W.heap.size + 1) (.slice (some ⟨W.heap.size, 0, none⟩) n n) l := by
 subst hn
 have hsz : cs.size = l.length * size := by rw [← Array.length_toList, hcs, zek he]
 have h := z09 W cs t lo size l.length hsz hm hl
 rw [hcs] at h
 exact ⟨h, fun k hk => by simp [Value.ownBlock] at hk; omega⟩
theorem Rd.lit {α : Type} {size : Nat} {enc : α → List Value} (W : World) (t : TypeId) (l : List α) (cs : Array Value) (n : Nat) (hn : n = l.length) (hcs : cs.toList = l.flatMap enc) (hm : n ≤ maxLen) (he : ∀ a, (enc a).length = size) :
  Rd size enc (W.alloc (.cells cs t)) 0 (W.heap.size + 1) (.slice (some ⟨W.heap.size, 0, none⟩) n n) l := (Own.lit W t 0 l cs n hn hcs (Nat.zero_le _) hm he).rd
theorem RdI.lit1 (W : World) (x : Int) (t : TypeId) : RdI (W.alloc (.cells #[.int .i64 x] t)) 0 (W.heap.size + 1) (.slice (some ⟨W.heap.size, 0, none⟩) 1 1) [x] := Rd.lit W t [x] _ 1 rfl rfl (by decide) (fun _ => rfl)
theorem zrp (b off j : Nat) : (⟨b, off, none⟩ : Addr).add j = ⟨b, off + j, none⟩ := by unfold Addr.add; split <;> simp_all
theorem z0y {α : Type} {t e size bytes : Nat} {z : Value} {enc : α → List Value} (ti : TI t e size bytes z) (he : ∀ a, (enc a).length = size) (h1 : ∀ a, ∀ u ∈ enc a, u.oneCell' = true) (w : World) (ty : TypeId) {lo hi lo' hi' : Nat} {v vx : Value} {l xs : List α} {rest : List Loc}
  (hM : Mem (Loc.ow e size enc lo hi v l :: rest) w) (hA : zh7 (fun k => lo ≤ k ∧ k < hi) rest) (hx : Rd size enc w lo' hi' vx xs) (hlen : (l.length + xs.length) * bytes ≤ 140737488355328) (hlen2 : l.length + xs.length ≤ maxLen) (hlo : lo ≤ w.heap.size) :
  ∃ A c w', (Builtin.append_ #[t, t] ty #[v, vx]).run Tryz.prog w = .ok (.slice A (l.length + xs.length) c) w' ∧ Mem (Loc.ow e size enc lo w'.heap.size (.slice A (l.length + xs.length) c) (l ++ xs) :: rest) w' ∧ w.heap.size ≤ w'.heap.size ∧ Chg (fun k => lo ≤ k ∧ k < hi) w w' := by
 obtain ⟨i, ht, hi0, hz, hsize, hby, hzs, hsz⟩ := ti
 obtain ⟨ho, hr⟩ := hM
 obtain ⟨A, c, rfl, _, _⟩ := hx.form
 have fin : ∀ (v' : Value) (w' : World), w'.ownsRow lo e size v' (l.length + xs.length) (l.flatMap enc ++ xs.flatMap enc) → w.grownBy w' v.ownBlock → (v'.ownBlock = v.ownBlock ∨ v'.ownBlock = some w.heap.size) →
   ∃ A c, v' = .slice A (l.length + xs.length) c ∧ Mem (Loc.ow e size enc lo w'.heap.size (.slice A (l.length + xs.length) c) (l ++ xs) :: rest) w' ∧ w.heap.size ≤ w'.heap.size ∧ Chg (fun k => lo ≤ k ∧ k < hi) w w' := by
  intro v' w' h2 h3 h4
  have hown : Own e size enc w' lo w'.heap.size v' (l ++ xs) := by
   refine ⟨by rw [List.length_append, List.flatMap_append]; exact h2, fun k hk => (h2.lt k hk).2⟩
  obtain ⟨A', c', hv', _, _⟩ := hown.form
  rw [List.length_append] at hv'
  subst hv'
  have hch : Chg (fun k => lo ≤ k ∧ k < hi) w w' := ⟨h3.os, h3.tape, h3.output, h3.size, fun k hk hd => h3.block k hk (fun e => hd ⟨(ho.1.lt k e.symm).1, ho.2 k e.symm⟩)⟩
  exact ⟨A', c', rfl, ⟨hown, hr.chg hch hA⟩, h3.size, hch⟩
 rcases A with _ | ad
 ·
  have hm : xs.length = 0 := by
   rcases Nat.eq_zero_or_pos xs.length with h0 | h0
   ·
    exact h0
   ·
    obtain ⟨b, off, h, _⟩ := RdC.cells hx h0
    cases h
  have hxs : xs = [] := List.eq_nil_of_length_eq_zero hm
  subst hxs
  have hrun : (Builtin.append_ #[t, t] ty #[v, .slice none ([] : List α).length c]).run Tryz.prog w = .ok v w := by
   rcases ho.1.2 with ⟨rfl, h0⟩ | ⟨g, cap, cur, rfl, _, _, hnc, _⟩
   ·
    simp [Builtin.append_, run_underlying ht, sizeOf, typeInfo, hi0, Builtin.lenOf, Builtin.firstCells]
   ·
    simp [Builtin.append_, run_underlying ht, sizeOf, typeInfo, hi0, Builtin.lenOf, Builtin.firstCells, hnc, storeCells]
  obtain ⟨A', c', hv, hM', h5, h6⟩ := fin v w (by simpa using ho.1) (World.grownBy.refl w _) (.inl rfl)
  exact ⟨A', c', w, hrun.trans (by rw [hv]), hM', h5, h6⟩
 ·
  have hcells : ∀ j u, (xs.flatMap enc)[j]? = some u → w.cell? (ad.add j) = some u := by
   intro j u hu
   rcases Nat.eq_zero_or_pos xs.length with h0 | h0
   ·
    have : xs = [] := List.eq_nil_of_length_eq_zero h0
    subst this
    simp at hu
   ·
    obtain ⟨b, off, h, _, _, hc⟩ := RdC.cells hx h0
    rw [Option.some.inj h, zrp]
    exact hc j u hu
  obtain ⟨v', w', hrun, h2, h3, _, h5⟩ := run_append_own_at (P := Tryz.prog) w lo t ty e i z size bytes ht hi0 hz hsize hby hzs hsz v l.length (l.flatMap enc) ho.1 ad xs.length c (xs.flatMap enc) (zek he xs) hcells
   (fun u hu => by obtain ⟨a, _, ha⟩ := List.mem_flatMap.1 hu; exact h1 a u ha) hlen2 hlen hlo
  obtain ⟨A', c', hv, hM', h6, h7⟩ := fin v' w' h2 h3 h5
  exact ⟨A', c', w', hrun.trans (by rw [hv]), hM', h6, h7⟩
section
variable {α : Type} {t e size bytes : Nat} {z : Value} {enc : α → List Value}
theorem wp_app {o : Oper} {a : Act} {K : Act → World → Prop} {Q : Exit → Act → World → Prop} (s x : Operand) (ho : o.op = .call { callee := .builtin .append, args := #[s, x], argTypes := #[t, t] })
  (ti : TI t e size bytes z) (he : ∀ a, (enc a).length = size) (h1 : ∀ a, ∀ u ∈ enc a, u.oneCell' = true) {w : World} {lo hi lo' hi' : Nat} {v vx : Value} {l xs : List α} {rest : List Loc} (hs : a.eval s = v) (hvx : a.eval x = vx)
  (hM : Mem (Loc.ow e size enc lo hi v l :: rest) w) (hA : zh7 (fun k => lo ≤ k ∧ k < hi) rest) (hx : Rd size enc w lo' hi' vx xs) (hlen : (l.length + xs.length) * bytes ≤ 140737488355328) (hlen2 : l.length + xs.length ≤ 9223372036854775807) (hlo : lo ≤ w.heap.size)
  (h : ∀ A c w', Mem (Loc.ow e size enc lo w'.heap.size (.slice A (l.length + xs.length) c) (l ++ xs) :: rest) w' → w.heap.size ≤ w'.heap.size → Chg (fun k => lo ≤ k ∧ k < hi) w w' → K (a.put o.dst (.slice A (l.length + xs.length) c)) w') : o.wp Tryz.prog a w K Q := by
 obtain ⟨A, c, w', hrun, h2, h3, h4⟩ := z0y ti he h1 w o.type hM hA hx hlen (by unfold maxLen; omega) hlo
 unfold Oper.wp execOp
 simp only [ho, resolve, invoke, builtin, Sem.run_bind, Sem.run_pure, Result.andThen_ok, List.map_toArray, List.map_cons, List.map_nil, hs, hvx, hrun]
 exact h A c w' h2 h3 h4
theorem zec {ops : Array Oper} {restO : List Oper} {o : Oper} {a : Act} {Q : Exit → Act → World → Prop} (hgd : o.guard = none) (s x : Operand) (ho : o.op = .call { callee := .builtin .append, args := #[s, x], argTypes := #[t, t] })
  (ti : TI t e size bytes z) (he : ∀ a, (enc a).length = size) (h1 : ∀ a, ∀ u ∈ enc a, u.oneCell' = true) {w : World} {lo hi lo' hi' : Nat} {v vx : Value} {l xs : List α} {rest : List Loc} (hs : a.eval s = v) (hvx : a.eval x = vx)
  (hM : Mem (Loc.ow e size enc lo hi v l :: rest) w) (hA : zh7 (fun k => lo ≤ k ∧ k < hi) rest) (hx : Rd size enc w lo' hi' vx xs) (hlen : (l.length + xs.length) * bytes ≤ 140737488355328) (hlen2 : l.length + xs.length ≤ 9223372036854775807) (hlo : lo ≤ w.heap.size)
  (h : ∀ A c w', Mem (Loc.ow e size enc lo w'.heap.size (.slice A (l.length + xs.length) c) (l ++ xs) :: rest) w' → w.heap.size ≤ w'.heap.size → Chg (fun k => lo ≤ k ∧ k < hi) w w' → wpList Tryz.prog ops Q restO (a.put o.dst (.slice A (l.length + xs.length) c)) w') : wpList Tryz.prog ops Q (o :: restO) a w :=
 wpList_plain hgd fun _ hK => wp_app s x ho ti he h1 hs hvx hM hA hx hlen hlen2 hlo fun A c w' h2 h3 h4 => hK _ _ (h A c w' h2 h3 h4)
end
theorem run_mk {t e size bytes : Nat} {z : Value} (ti : TI t e size bytes z) (w : World) (n : Nat) (hn : bytes * n ≤ 140737488355328) (h63 : n ≤ 9223372036854775807) :
  (Instr.makeSlice t (.int .i64 (n : Int)) (.int .i64 (n : Int))).run Tryz.prog w = .ok (.slice (some ⟨w.heap.size, 0, none⟩) n n) (w.alloc (.cells (madeCells z.cells (n * size)) e)) := by
 obtain ⟨i, ht, hi0, hz, hsize, hby, hzs, hsz⟩ := ti
 have := run_make (P := Tryz.prog) w t e i z ht hi0 hz .i64 .i64 (n : Int) (n : Int) (by omega) (by omega) (by rw [hby]; omega) (by omega)
 rw [Int.toNat_natCast, hsize] at this
 exact this
theorem zyw {α : Type} {size : Nat} {enc : α → List Value} {z : Value} (a : α) (hz : z.cells.toList = enc a) (hs : z.cells.size = size) (hpos : 0 < size) : ∀ n, (madeCells z.cells (n * size)).toList = (List.replicate n a).flatMap enc := by
 intro n
 apply List.ext_getElem?
 intro j
 have hlen : (enc a).length = size := by rw [← hz, Array.length_toList, hs]
 have hL : ((List.replicate n a).flatMap enc).length = n * size := by
  induction n with
  | zero => simp
  | succ n ih => rw [List.replicate_succ, List.flatMap_cons, List.length_append, ih, hlen, Nat.add_mul]; omega
 by_cases hj : j < n * size
 ·
  have hq : j / size < n := (Nat.div_lt_iff_lt_mul hpos).2 hj
  have hmod : j % size < size := Nat.mod_lt _ hpos
  have e1 : (madeCells z.cells (n * size)).toList[j]? = some (z.cells[j % size]!) := by
   simp [madeCells, hj, hs]
  have e2 : (enc a)[j % size]? = some (z.cells[j % size]!) := by
   rw [← hz]
   simp [hs, hmod]
  have e3 : ((List.replicate n a).flatMap enc)[j]? = (enc a)[j % size]? := by
   clear e1 e2 hL
   induction n generalizing j with
   | zero => simp at hj
   | succ n ih =>
    rw [List.replicate_succ, List.flatMap_cons]
    by_cases hjs : j < size
    ·
     rw [List.getElem?_append_left (by omega), Nat.mod_eq_of_lt hjs]
    ·
     rw [List.getElem?_append_right (by omega), hlen]
     have hlt : j - size < n * size := by rw [Nat.add_mul] at hj; omega
     rw [ih (j - size) hlt ((Nat.div_lt_iff_lt_mul hpos).2 hlt) (Nat.mod_lt _ hpos)]
     rw [← Nat.mod_eq_sub_mod (by omega)]
  rw [e1, e3, e2]
 ·
  rw [List.getElem?_eq_none (by simp [size_madeCells]; omega), List.getElem?_eq_none (by omega)]
theorem Own.made {α : Type} {t e size bytes : Nat} {z : Value} {enc : α → List Value} (ti : TI t e size bytes z) (W : World) (lo n : Nat) (a : α) (hz : z.cells.toList = enc a) (hl : lo ≤ W.heap.size) (hn : n ≤ 9223372036854775807) (he : ∀ a, (enc a).length = size) :
  Own e size enc (W.alloc (.cells (madeCells z.cells (n * size)) e)) lo (W.heap.size + 1) (.slice (some ⟨W.heap.size, 0, none⟩) n n) (List.replicate n a) := by
 obtain ⟨i, ht, hi0, hzz, hsize, hby, hzs, hsz⟩ := ti
 exact Own.lit W e lo _ _ n (by simp) (zyw a hz hzs hsz n) hl (by unfold maxLen; omega) he
end
section
open Go.RowKit
section
variable {α : Type} {t e size bytes : Nat} {z : Value} {enc : α → List Value}
end
end
section
open Go.RowKit
abbrev K3 (w : World) (g : Nat) (a b c : Value) : Prop := w.cell? ⟨g, 0, none⟩ = some a ∧ w.cell? ⟨g, 1, none⟩ = some b ∧ w.cell? ⟨g, 2, none⟩ = some c ∧ g < w.heap.size
theorem K3.of_block {W W' : World} {g : Nat} {a b c : Value} (h : K3 W g a b c) (he : W'.heap[g]? = W.heap[g]?) (hs : W.heap.size ≤ W'.heap.size) : K3 W' g a b c := by
 obtain ⟨h1, h2, h3, h7⟩ := h
 exact ⟨(World.cell?_of_block (w := W) he).trans h1, (World.cell?_of_block (w := W) he).trans h2, (World.cell?_of_block (w := W) he).trans h3, Nat.lt_of_lt_of_le h7 hs⟩
theorem K3.aft {W w1 : World} {g : Nat} {a b c : Value} (hb : Below W.heap.size W w1) (h : K3 W g a b c) : K3 w1 g a b c := K3.of_block h (hb.block g h.2.2.2) hb.size
theorem K3.new (W : World) (a b c : Value) (t : TypeId) : K3 (W.alloc (.cells #[a, b, c] t)) W.heap.size a b c := by simp [K3, go_sem]
abbrev Loc.k3 (g : Nat) (a b c : Value) : Loc := ⟨fun w => K3 w g a b c, fun k => k = g, fun h hd hp => K3.of_block hp (h.block g hp.2.2.2 (hd g rfl)) h.size⟩
theorem zty {s : ByteArray} (h : ¬ s = ByteArray.empty) : s.toList.isEmpty = false := by
 rw [ByteArray.toList_eq]
 rw [Bool.eq_false_iff]
 intro e
 apply h
 obtain ⟨d⟩ := s
 simp at e
 subst e
 rfl
def trB (n : Int) (t : Tr) : Bool := (t.label.toList.isEmpty || zgj t.label) && zd7 n t.inn && zd7 n t.out
def zhj (n : Net) : List Tr → Bool
 | [] => zd7 n.places [n.source] && zd7 n.places [n.sink]
 | t :: ts => if trB n.places t then zhj n ts else false
def zd5 (n : Net) : Bool := if n.places < 1 ∨ 40 < n.places ∨ 60 < n.trans.length then false else zhj n n.trans
theorem zea {α : Type} [Inhabited α] {l : List α} {k : Nat} (h : k < l.length) : l.drop k = gti l k :: l.drop (k + 1) := by
 rw [List.drop_eq_getElem_cons h]
 unfold gti
 rw [List.getElem?_eq_getElem h]
 rfl
theorem zd0 {a b : Bool} (h : a = b) : Ending.returned (.bool a) = .returned (.bool b) := by rw [h]
set_option maxHeartbeats 2000000 in
theorem zoi (n : Net) (vt : Value) (lo hi : Nat) (w : World) (hv : RdT w lo hi vt n.trans) :
  Calls Tryz.prog 89 #[netV n vt] w fun e w' => e = .returned (.bool (zd5 n)) ∧ Below w.heap.size w w' := by
 obtain ⟨A, c, rfl, hc, hm⟩ := hv.form
 have HV := Lib.hid hv
 clear hv
 refine zc3 fun R hR => ?_
 have HR := Lib.hid hR
 clear hR
 go_enter Tryz.func89, Tryz.ntmps89
 have M : Mem [Loc.k4 w.heap.size (.int .i64 n.places) (.slice A n.trans.length c) (.int .i64 n.source) (.int .i64 n.sink), Loc.bl w.heap.size w] (w.alloc (.cells #[.int .i64 n.places, .slice A n.trans.length c, .int .i64 n.source, .int .i64 n.sink] 24)) := ⟨K4.new w _ _ _ _ _, ⟨(Below.refl _ _).alloc (Nat.le_refl _) _, by simp⟩, True.intro⟩
 have HM := Lib.hid M
 clear M
 go_wp2_with fail
 all_goals (try ((with_reducible refine HR.out _ _ ⟨?_, ?_⟩) <;> first | exact zd0 (by grind [zd5]) | exact HM.out.2.1.1))
 have HI : Hid (zd5 n = zhj n n.trans) := Lib.hid (by grind [zd5])
 generalize w.alloc (.cells #[.int .i64 n.places, .slice A n.trans.length c, .int .i64 n.source, .int .i64 n.sink] 24) = W at *
 go_loopw [22, 4] (fun v22 _ wr => ∃ k : Nat, k ≤ n.trans.length ∧ v22 = .int .i64 k ∧ Hid (zd5 n = zhj n (n.trans.drop k)) ∧ Hid (Mem [Loc.k4 w.heap.size (.int .i64 n.places) (.slice A n.trans.length c) (.int .i64 n.source) (.int .i64 n.sink), Loc.bl w.heap.size w] wr)) (fun v22 _ _ => n.trans.length - (intOf v22).toNat)
 case atStart => exact ⟨0, by omega, rfl, HI, HM⟩
 case round =>
  clear HM HI
  obtain ⟨k, hk, rfl, HI, HM⟩ := hrel
  have hk4 := HM.out.1
  by_cases hlt : k < n.trans.length
  ·
   obtain ⟨b, off, vi, vo, rfl, _, _, hcell, hri, hro⟩ := RdT.at3 (HV.out.after HM.out.2.1.1) hlt
   have HD := Lib.hid (zea hlt)
   obtain ⟨Ai, ci, rfl, hci, hmi⟩ := hri.form
   obtain ⟨Ao, co, rfl, hco, hmo⟩ := hro.form
   generalize gti n.trans k = t at *
   obtain ⟨lab, tin, tout⟩ := t
   simp only at hri hro hcell hci hmi hco hmo
   have M : Mem [Loc.k4 w.heap.size (.int .i64 n.places) (.slice (some ⟨b, off, none⟩) n.trans.length c) (.int .i64 n.source) (.int .i64 n.sink), Loc.bl w.heap.size w, Loc.k3 wr.heap.size (.string lab) (.slice Ai tin.length ci) (.slice Ao tout.length co), Loc.rd 1 encI lo hi (.slice Ai tin.length ci) tin, Loc.rd 1 encI lo hi (.slice Ao tout.length co) tout] (wr.alloc (.cells #[.string lab, .slice Ai tin.length ci, .slice Ao tout.length co] 86)) := 
    ⟨K4.aft ((Below.refl _ _).alloc (Nat.le_refl _) _) hk4, ⟨(HM.out.2.1.1).alloc HM.out.2.1.2 _, by have := HM.out.2.1.2; simp; omega⟩, K3.new wr _ _ _ _, Rd.after hri ((Below.refl _ _).alloc (Nat.le_refl _) _), Rd.after hro ((Below.refl _ _).alloc (Nat.le_refl _) _), True.intro⟩
   clear hri hro
   replace M := Lib.hid M
   have hq4 := M.out.1
   have hq3 := M.out.2.2.1
   go_wp2_with (first
    | (go_at_call 124; refine (zjp _ _).mono ?_; rintro e w1 ⟨rfl, hb1⟩; replace M := Lib.hid (M.out.below hb1); clear hb1; replace hq4 := M.out.1; replace hq3 := M.out.2.2.1)
    | (go_at_call 125; refine (zmt n _ _ lo hi _ _ (by first | exact M.out.2.2.2.1 | exact M.out.2.2.2.2.1)).mono ?_; rintro e w1 ⟨rfl, hb1⟩; replace M := Lib.hid (M.out.below hb1); clear hb1; replace hq4 := M.out.1; replace hq3 := M.out.2.2.1))
   all_goals (have HJ : zd5 n = if trB n.places ⟨lab, tin, tout⟩ then zhj n (n.trans.drop (k + 1)) else false := by rw [HI.out, HD.out]; rfl)
   all_goals first
    | ((with_reducible refine HR.out _ _ ⟨?_, ?_⟩) <;> first | exact zd0 (by go_light; grind [trB]) | exact M.out.2.1.1)
    | (refine ⟨⟨k + 1, by omega, by go_num, Lib.hid (by go_light; grind [trB]), Lib.hid ⟨M.out.1, M.out.2.1, True.intro⟩⟩, by simp [intOf]; omega⟩)
  ·
   obtain rfl : k = n.trans.length := by omega
   have HE : Hid (zd5 n = (zd7 n.places [n.source] && zd7 n.places [n.sink])) := Lib.hid (by rw [HI.out]; simp [zhj])
   clear HI
   have M := HM
   clear HM
   go_wp2_with (go_at_call 125; refine (zmt n _ _ 0 _ _ _ (RdI.lit1 _ _ _)).mono ?_; rintro e w1 ⟨rfl, hb1⟩; replace M := Lib.hid ((M.out.alloc _).below hb1); clear hb1; replace hk4 := M.out.1)
   all_goals ((with_reducible refine HR.out _ _ ⟨?_, ?_⟩) <;> first | exact zd0 (by rw [HE.out]; go_light; grind) | exact M.out.2.1.1)
end
section
open Go.RowKit
def zgu (n : Net) : List Tr → Bool
 | [] => true
 | t :: ts => if trB n.places t then zgu n ts else false
def zgv (n : Net) : Bool := if n.places < 1 ∨ 40 < n.places ∨ 60 < n.trans.length ∨ n.source < 0 ∨ n.places ≤ n.source ∨ n.sink < 0 ∨ n.places ≤ n.sink then false else zgu n n.trans
theorem zlb (n x : Int) : zd7 n [x] = (decide (0 ≤ x) && decide (x < n)) := by
 simp [zd7, badP, gti, List.range_succ]
 grind
theorem zok (n : Net) : ∀ l, zhj n l = (zgu n l && (zd7 n.places [n.source] && zd7 n.places [n.sink]))
 | [] => by simp [zhj, zgu]
 | t :: ts => by
  simp only [zhj, zgu]
  rw [zok n ts]
  cases trB n.places t <;> simp
theorem zol (n : Net) : zgv n = zd5 n := by
 unfold zgv zd5
 rw [zok, zlb, zlb]
 grind
set_option maxHeartbeats 2000000 in
theorem zmo (n : Net) (vt : Value) (lo hi : Nat) (w : World) (hv : RdT w lo hi vt n.trans) :
  Calls Tryz.prog 20 #[netV n vt] w fun e w' => e = .returned (.bool (zd5 n)) ∧ Below w.heap.size w w' := by
 rw [← zol]
 obtain ⟨A, c, rfl, hc, hm⟩ := hv.form
 have HV := Lib.hid hv
 clear hv
 refine zc3 fun R hR => ?_
 have HR := Lib.hid hR
 clear hR
 go_enter Tryz.func20, Tryz.ntmps20
 have M : Hid (Mem [Loc.k4 w.heap.size (.int .i64 n.places) (.slice A n.trans.length c) (.int .i64 n.source) (.int .i64 n.sink), Loc.bl w.heap.size w] (w.alloc (.cells #[.int .i64 n.places, .slice A n.trans.length c, .int .i64 n.source, .int .i64 n.sink] 24))) := Lib.hid ⟨K4.new w _ _ _ _ _, ⟨(Below.refl _ _).alloc (Nat.le_refl _) _, by simp⟩, True.intro⟩
 have hk4 := M.out.1
 go_wp2_with fail
 all_goals (try ((with_reducible refine HR.out _ _ ⟨?_, ?_⟩) <;> first | exact zd0 (by go_light; grind [zgv]) | exact M.out.2.1.1))
 have HI : Hid (zgv n = zgu n n.trans) := Lib.hid (by go_light; grind [zgv])
 generalize w.alloc (.cells #[.int .i64 n.places, .slice A n.trans.length c, .int .i64 n.source, .int .i64 n.sink] 24) = W at *
 go_loopw [3, 4] (fun v3 _ wr => ∃ k : Nat, k ≤ n.trans.length ∧ v3 = .int .i64 k ∧ Hid (zgv n = zgu n (n.trans.drop k)) ∧ Hid (Mem [Loc.k4 w.heap.size (.int .i64 n.places) (.slice A n.trans.length c) (.int .i64 n.source) (.int .i64 n.sink), Loc.bl w.heap.size w] wr)) (fun v3 _ _ => n.trans.length - (intOf v3).toNat)
 case atStart => exact ⟨0, by omega, rfl, HI, M⟩
 case round =>
  clear M HI
  obtain ⟨k, hk, rfl, HI, HM⟩ := hrel
  have hk4 := HM.out.1
  by_cases hlt : k < n.trans.length
  ·
   obtain ⟨b, off, vi, vo, rfl, _, _, hcell, hri, hro⟩ := RdT.at3 (HV.out.after HM.out.2.1.1) hlt
   have HD := Lib.hid (zea hlt)
   obtain ⟨Ai, ci, rfl, hci, hmi⟩ := hri.form
   obtain ⟨Ao, co, rfl, hco, hmo⟩ := hro.form
   generalize gti n.trans k = t at *
   obtain ⟨lab, tin, tout⟩ := t
   simp only at hri hro hcell hci hmi hco hmo
   have M : Mem [Loc.k4 w.heap.size (.int .i64 n.places) (.slice (some ⟨b, off, none⟩) n.trans.length c) (.int .i64 n.source) (.int .i64 n.sink), Loc.bl w.heap.size w, Loc.k3 wr.heap.size (.string lab) (.slice Ai tin.length ci) (.slice Ao tout.length co), Loc.rd 1 encI lo hi (.slice Ai tin.length ci) tin, Loc.rd 1 encI lo hi (.slice Ao tout.length co) tout] (wr.alloc (.cells #[.string lab, .slice Ai tin.length ci, .slice Ao tout.length co] 86)) := 
    ⟨K4.aft ((Below.refl _ _).alloc (Nat.le_refl _) _) hk4, ⟨(HM.out.2.1.1).alloc HM.out.2.1.2 _, by have := HM.out.2.1.2; simp; omega⟩, K3.new wr _ _ _ _, Rd.after hri ((Below.refl _ _).alloc (Nat.le_refl _) _), Rd.after hro ((Below.refl _ _).alloc (Nat.le_refl _) _), True.intro⟩
   clear hri hro
   replace M := Lib.hid M
   have hq4 := M.out.1
   have hq3 := M.out.2.2.1
   go_wp2_with (first
    | (go_at_call 75; refine (zfz _ _).mono ?_; rintro e w1 ⟨rfl, hb1⟩; replace M := Lib.hid (M.out.below hb1); clear hb1; replace hq4 := M.out.1; replace hq3 := M.out.2.2.1)
    | (go_at_call 76; refine (zqu _ _ lo hi _ _ (by first | exact M.out.2.2.2.1 | exact M.out.2.2.2.2.1)).mono ?_; rintro e w1 ⟨rfl, hb1⟩; replace M := Lib.hid (M.out.below hb1); clear hb1; replace hq4 := M.out.1; replace hq3 := M.out.2.2.1))
   all_goals (have HJ : zgv n = if trB n.places ⟨lab, tin, tout⟩ then zgu n (n.trans.drop (k + 1)) else false := by rw [HI.out, HD.out]; rfl)
   all_goals first
    | ((with_reducible refine HR.out _ _ ⟨?_, ?_⟩) <;> first | exact zd0 (by go_light; grind [trB]) | exact M.out.2.1.1)
    | (refine ⟨⟨k + 1, by omega, by go_num, Lib.hid (by go_light; grind [trB]), Lib.hid ⟨M.out.1, M.out.2.1, True.intro⟩⟩, by simp [intOf]; omega⟩)
  ·
   obtain rfl : k = n.trans.length := by omega
   have HE : Hid (zgv n = true) := Lib.hid (by rw [HI.out]; simp [zgu])
   clear HI
   go_wp2_with fail
   all_goals ((with_reducible refine HR.out _ _ ⟨?_, ?_⟩) <;> first | exact zd0 (by rw [HE.out]) | exact HM.out.2.1.1)
def zje : List Int → Bool
 | [] => true
 | k :: l => if k < 0 ∨ 100 < k then false else zje l
def zev (n : Net) (m : List Int) : Bool := if (m.length : Int) ≠ n.places then false else zje m
set_option maxHeartbeats 2000000 in
theorem zey (n : Net) (vt : Value) (m : List Int) (v : Value) (lo hi : Nat) (w : World) (hv : RdI w lo hi v m) :
  Calls Tryz.prog 82 #[netV n vt, v] w fun e w' => e = .returned (.bool (zev n m)) ∧ Below w.heap.size w w' := by
 obtain ⟨A, c, rfl, hc, hm⟩ := hv.form
 have HV := Lib.hid hv
 clear hv
 refine zc3 fun R hR => ?_
 have HR := Lib.hid hR
 clear hR
 go_enter Tryz.func82, Tryz.ntmps82
 have M : Hid (Mem [Loc.k4 w.heap.size (.int .i64 n.places) (vt) (.int .i64 n.source) (.int .i64 n.sink), Loc.bl w.heap.size w] (w.alloc (.cells #[.int .i64 n.places, vt, .int .i64 n.source, .int .i64 n.sink] 24))) := Lib.hid ⟨K4.new w _ _ _ _ _, ⟨(Below.refl _ _).alloc (Nat.le_refl _) _, by simp⟩, True.intro⟩
 have hk4 := M.out.1
 go_wp2_with fail
 all_goals (try ((with_reducible refine HR.out _ _ ⟨?_, ?_⟩) <;> first | exact zd0 (by go_light; grind [zev]) | exact M.out.2.1.1))
 have HI : Hid (zev n m = zje m) := Lib.hid (by go_light; grind [zev])
 generalize w.alloc (.cells #[.int .i64 n.places, vt, .int .i64 n.source, .int .i64 n.sink] 24) = W at *
 go_loop [5] (fun v3 => ∃ k : Nat, k ≤ m.length ∧ v3 = .int .i64 k ∧ Hid (zev n m = zje (m.drop k))) (fun v3 => m.length - (intOf v3).toNat)
 case atStart => exact ⟨0, by omega, rfl, HI⟩
 case round =>
  clear HI
  obtain ⟨k, hk, rfl, HI⟩ := hrel
  by_cases hlt : k < m.length
  ·
   obtain ⟨b, off, rfl, _, _, hcell⟩ := RdI.at1 (HV.out.after M.out.2.1.1) hlt
   have HD := Lib.hid (zea hlt)
   generalize gti m k = x at *
   go_wp2_with fail
   all_goals (have HJ : zev n m = if x < 0 ∨ 100 < x then false else zje (m.drop (k + 1)) := by rw [HI.out, HD.out]; rfl)
   all_goals first
    | ((with_reducible refine HR.out _ _ ⟨?_, ?_⟩) <;> first | exact zd0 (by go_light; grind) | exact M.out.2.1.1)
    | (refine ⟨⟨k + 1, by omega, by go_num, Lib.hid (by go_light; grind)⟩, by simp [intOf]; omega⟩)
  ·
   obtain rfl : k = m.length := by omega
   have HE : Hid (zev n m = true) := Lib.hid (by rw [HI.out]; simp [zje])
   clear HI
   go_wp2_with fail
   all_goals ((with_reducible refine HR.out _ _ ⟨?_, ?_⟩) <;> first | exact zd0 (by rw [HE.out]) | exact M.out.2.1.1)
end
section
open Go.RowKit
theorem oneI : ∀ a : Int, ∀ u ∈ encI a, u.oneCell' = true := by intro a u hu; simp at hu; subst hu; rfl
def RetI (w : World) (r : List Int × Int) (e : Ending) (w' : World) : Prop :=
 ∃ A c, e = .returned (.tuple #[.slice A r.1.length c, .int .i64 r.2]) ∧ RdI w' w.heap.size w'.heap.size (.slice A r.1.length c) r.1 ∧ Below w.heap.size w w'
theorem RetI.nil {w w' : World} {r : List Int × Int} {c : Int} (h : r = ([], c)) (hb : Below w.heap.size w w') : RetI w r (.returned (.tuple #[.slice none 0 0, .int .i64 c])) w' := by
 subst h
 exact ⟨none, 0, rfl, Rd.nil _ _ _, hb⟩
theorem RetI.mk {w w' : World} {r : List Int × Int} {l : List Int} {n k : Nat} {A : Option Addr} {c : Int} (h : r = (l, c)) (hn : n = l.length) {lo hi : Nat} (hr : RdI w' lo hi (.slice A n k) l) (hlo : w.heap.size ≤ lo) (hhi : hi ≤ w'.heap.size) (hb : Below w.heap.size w w') : RetI w r (.returned (.tuple #[.slice A n k, .int .i64 c])) w' := by
 subst h hn
 exact ⟨A, k, rfl, hr.mono hlo hhi, hb⟩
def oneL (k : Nat) (p : Int) : List Int := (List.replicate k 0).set p.toNat 1
def oneE (n : Net) (p : Int) : List Int × Int := if zd5 n then (oneL n.places.toNat p, 0) else ([], 1)
theorem zgt {n : Net} (h : zd5 n = true) : (0 ≤ n.source ∧ n.source < n.places) ∧ (0 ≤ n.sink ∧ n.sink < n.places) := by
 rw [← zol] at h
 unfold zgv at h
 split at h
 ·
  cases h
 ·
  omega
theorem zdy {n : Net} (h : zd5 n = true) : 1 ≤ n.places ∧ n.places ≤ 40 ∧ n.trans.length ≤ 60 := by
 unfold zd5 at h
 split at h
 ·
  cases h
 ·
  omega
theorem zrv {n : Net} {b : Bool} (hb : zd5 n = b) (vt : Value) (lo hi : Nat) (w : World) (hv : RdT w lo hi vt n.trans) :
  Calls Tryz.prog 89 #[netV n vt] w fun e w' => e = .returned (.bool b) ∧ Below w.heap.size w w' := hb ▸ zoi n vt lo hi w hv
theorem zee {n : Net} {b : Bool} (hb : zd5 n = b) (vt : Value) (lo hi : Nat) (w : World) (hv : RdT w lo hi vt n.trans) :
  Calls Tryz.prog 20 #[netV n vt] w fun e w' => e = .returned (.bool b) ∧ Below w.heap.size w w' := hb ▸ zmo n vt lo hi w hv
theorem mk_int {x : Int} {k : Nat} (h : x = k) (hk : k ≤ 1000000) : ∀ w : World, (Instr.makeSlice 29 (.int .i64 x) (.int .i64 x)).run Tryz.prog w = .ok (.slice (some ⟨w.heap.size, 0, none⟩) k k) (w.alloc (.cells (madeCells #[.int .i64 0] k) 3)) := by
 intro w
 subst h
 have := run_mk zhd w k (by omega) (by omega)
 rw [Nat.mul_one] at this
 exact this
theorem OwnI.made (W : World) (n : Nat) (hn : n ≤ 1000000) : OwnI (W.alloc (.cells (madeCells #[.int .i64 0] n) 3)) W.heap.size (W.heap.size + 1) (.slice (some ⟨W.heap.size, 0, none⟩) n n) (List.replicate n 0) := by
 have := Own.made (enc := encI) zhd W W.heap.size n 0 rfl (Nat.le_refl _) (by omega) (fun _ => rfl)
 rw [Nat.mul_one] at this
 exact this
theorem z0v (W : World) (cs : Array Value) (t : TypeId) (k : Nat) (u : Value) : (W.alloc (.cells cs t)).setCell ⟨W.heap.size, k, none⟩ u = W.alloc (.cells (cs.setIfInBounds k u) t) := by
 simp [go_sem]
set_option maxHeartbeats 1000000 in
theorem zvr (n : Net) (p : Int) (vt : Value) (lo hi : Nat) (w : World) (hv : RdT w lo hi vt n.trans) (hp : zd5 n = true → 0 ≤ p ∧ p < n.places) :
  Calls Tryz.prog 90 #[netV n vt, .int .i64 p] w (RetI w (oneE n p)) := by
 obtain ⟨A, c, rfl, hc, hm⟩ := hv.form
 have HV := Lib.hid hv
 clear hv
 cases hvb : zd5 n
 ·
  have HVB := Lib.hid hvb
  clear hvb hp
  refine zc3 fun R hR => ?_
  have HR := Lib.hid hR
  clear hR
  go_enter Tryz.func90, Tryz.ntmps90
  have M : Hid (Mem [Loc.k4 w.heap.size (.int .i64 n.places) (.slice A n.trans.length c) (.int .i64 n.source) (.int .i64 n.sink), Loc.bl w.heap.size w] (w.alloc (.cells #[.int .i64 n.places, .slice A n.trans.length c, .int .i64 n.source, .int .i64 n.sink] 24))) := Lib.hid ⟨K4.new w _ _ _ _ _, ⟨(Below.refl _ _).alloc (Nat.le_refl _) _, by simp⟩, True.intro⟩
  have hk4 := M.out.1
  go_wp2_with (go_at_call 89; refine (zrv HVB.out _ lo hi _ (HV.out.after M.out.2.1.1)).mono ?_; rintro e w1 ⟨rfl, hb1⟩; replace M := Lib.hid (M.out.below hb1); clear hb1; replace hk4 := M.out.1)
  exact HR.out _ _ (RetI.nil (by rw [oneE, HVB.out]; rfl) M.out.2.1.1)
 ·
  have HVB := Lib.hid hvb
  have hpl := zdy hvb
  have hpp := hp hvb
  clear hvb hp
  obtain ⟨np, hnp⟩ : ∃ k : Nat, n.places = k := ⟨n.places.toNat, by omega⟩
  obtain ⟨kp, rfl⟩ : ∃ k : Nat, p = k := ⟨p.toNat, by omega⟩
  have hlt : kp < np := by omega
  have hmk := mk_int hnp (by omega)
  have HNP := Lib.hid hnp
  have hn40 : np ≤ 40 := by omega
  clear hnp hpl hpp
  refine zc3 fun R hR => ?_
  have HR := Lib.hid hR
  clear hR
  go_enter Tryz.func90, Tryz.ntmps90
  have M : Hid (Mem [Loc.k4 w.heap.size (.int .i64 n.places) (.slice A n.trans.length c) (.int .i64 n.source) (.int .i64 n.sink), Loc.bl w.heap.size w] (w.alloc (.cells #[.int .i64 n.places, .slice A n.trans.length c, .int .i64 n.source, .int .i64 n.sink] 24))) := Lib.hid ⟨K4.new w _ _ _ _ _, ⟨(Below.refl _ _).alloc (Nat.le_refl _) _, by simp⟩, True.intro⟩
  have hk4 := M.out.1
  go_wp2_with (first
   | (go_at_call 89; refine (zrv HVB.out _ lo hi _ (HV.out.after M.out.2.1.1)).mono ?_; rintro e w1 ⟨rfl, hb1⟩; replace M := Lib.hid (M.out.below hb1); clear hb1; replace hk4 := M.out.1; have HO := Lib.hid (OwnI.made w1 np (by omega)); have hat := OwnI.at1 HO.out (k := kp) (by simp; omega)))
  refine HR.out _ _ (RetI.mk (l := oneL np kp) (by simp [oneE, HVB.out, HNP.out]) (by simp [oneL]) (Own.rd (z0v w1 _ _ kp _ ▸ OwnI.set HO.out kp 1)) M.out.2.1.2 (by simp) ?_)
  exact (M.out.2.1.1).alloc M.out.2.1.2 _
set_option maxHeartbeats 400000 in
theorem zim (n : Net) (vt : Value) (lo hi : Nat) (w : World) (hv : RdT w lo hi vt n.trans) :
  Calls Tryz.prog 38 #[netV n vt] w (RetI w (oneE n n.source)) := by
 have HV := Lib.hid hv
 have HP := Lib.hid (@zgt n)
 obtain ⟨A, c, rfl, hc, hm⟩ := hv.form
 clear hv
 refine zc3 fun R hR => ?_
 have HR := Lib.hid hR
 clear hR
 go_enter Tryz.func38, Tryz.ntmps38
 have M : Hid (Mem [Loc.k4 w.heap.size (.int .i64 n.places) (.slice A n.trans.length c) (.int .i64 n.source) (.int .i64 n.sink), Loc.bl w.heap.size w] (w.alloc (.cells #[.int .i64 n.places, .slice A n.trans.length c, .int .i64 n.source, .int .i64 n.sink] 24))) := Lib.hid ⟨K4.new w _ _ _ _ _, ⟨(Below.refl _ _).alloc (Nat.le_refl _) _, by simp⟩, True.intro⟩
 have hk4 := M.out.1
 go_wp2_with (go_at_call 90; refine (zvr n _ _ lo hi _ (HV.out.after M.out.2.1.1) (fun h => (HP.out h).1)).mono ?_; rintro e w1 ⟨A1, c1, rfl, hr1, hb1⟩; have HR1 := Lib.hid hr1; replace M := Lib.hid (M.out.below hb1); clear hb1 hr1)
 exact HR.out _ _ ⟨_, _, rfl, (HR1.out.mono (by simp) (Nat.le_refl _)), M.out.2.1.1⟩
set_option maxHeartbeats 400000 in
theorem zlu (n : Net) (vt : Value) (lo hi : Nat) (w : World) (hv : RdT w lo hi vt n.trans) :
  Calls Tryz.prog 39 #[netV n vt] w (RetI w (oneE n n.sink)) := by
 have HV := Lib.hid hv
 have HP := Lib.hid (@zgt n)
 obtain ⟨A, c, rfl, hc, hm⟩ := hv.form
 clear hv
 refine zc3 fun R hR => ?_
 have HR := Lib.hid hR
 clear hR
 go_enter Tryz.func39, Tryz.ntmps39
 have M : Hid (Mem [Loc.k4 w.heap.size (.int .i64 n.places) (.slice A n.trans.length c) (.int .i64 n.source) (.int .i64 n.sink), Loc.bl w.heap.size w] (w.alloc (.cells #[.int .i64 n.places, .slice A n.trans.length c, .int .i64 n.source, .int .i64 n.sink] 24))) := Lib.hid ⟨K4.new w _ _ _ _ _, ⟨(Below.refl _ _).alloc (Nat.le_refl _) _, by simp⟩, True.intro⟩
 have hk4 := M.out.1
 go_wp2_with (go_at_call 90; refine (zvr n _ _ lo hi _ (HV.out.after M.out.2.1.1) (fun h => (HP.out h).2)).mono ?_; rintro e w1 ⟨A1, c1, rfl, hr1, hb1⟩; have HR1 := Lib.hid hr1; replace M := Lib.hid (M.out.below hb1); clear hb1 hr1)
 exact HR.out _ _ ⟨_, _, rfl, (HR1.out.mono (by simp) (Nat.le_refl _)), M.out.2.1.1⟩
def zep (n : Net) (m : List Int) : Bool := zd5 n && zev n m
theorem zqf : ∀ m : List Int, zje m = !m.any fun k => decide (k < 0) || decide (100 < k)
 | [] => rfl
 | k :: l => by
  simp only [zje, List.any_cons]
  rw [zqf l]
  grind
theorem zpv : Ent 126 := zej Tryz.func126 (by kernel_rfl) rfl
set_option maxHeartbeats 400000 in
theorem zpc (k : Int) (w : World) : Calls Tryz.prog 126 #[.int .i64 k] w fun e w' => e = .returned (.bool (decide (k < 0) || decide (100 < k))) ∧ Below w.heap.size w w' := by
 refine zc3 fun R hR => ?_
 have HR := Lib.hid hR
 clear hR
 go_enter Tryz.func126, Tryz.ntmps126
 go_wp2_with fail
 all_goals (refine HR.out _ _ ⟨zd0 ?_, Below.refl _ _⟩ <;> (go_light; grind))
set_option maxHeartbeats 1000000 in
theorem zqz (n : Net) (m : List Int) (vt v : Value) (lo hi lo' hi' : Nat) (w : World) (hv : RdT w lo hi vt n.trans) (hm : RdI w lo' hi' v m) :
  Calls Tryz.prog 91 #[netV n vt, v] w fun e w' => e = .returned (.bool (zep n m)) ∧ Below w.heap.size w w' := by
 have HC := Lib.hid (fun (W : World) (hW : Below w.heap.size w W) => zic 126 zpv #[] (fun k => decide (k < 0) || decide (100 < k)) m lo' hi' v W (hm.after hW) (fun a _ W _ => zpc a W))
 obtain ⟨A, c, rfl, hc, hmm⟩ := hv.form
 obtain ⟨A2, c2, rfl, hc2, hmm2⟩ := hm.form
 have HV := Lib.hid hv
 clear hv hm
 refine zc3 fun R hR => ?_
 have HR := Lib.hid hR
 clear hR
 go_enter Tryz.func91, Tryz.ntmps91
 have M : Hid (Mem [Loc.k4 w.heap.size (.int .i64 n.places) (.slice A n.trans.length c) (.int .i64 n.source) (.int .i64 n.sink), Loc.bl w.heap.size w] (w.alloc (.cells #[.int .i64 n.places, .slice A n.trans.length c, .int .i64 n.source, .int .i64 n.sink] 24))) := Lib.hid ⟨K4.new w _ _ _ _ _, ⟨(Below.refl _ _).alloc (Nat.le_refl _) _, by simp⟩, True.intro⟩
 have hk4 := M.out.1
 go_wp2_with (first
  | (go_at_call 89; refine (zoi n _ lo hi _ (HV.out.after M.out.2.1.1)).mono ?_; rintro e w1 ⟨rfl, hb1⟩; replace M := Lib.hid (M.out.below hb1); clear hb1; replace hk4 := M.out.1)
  | (go_at_call 26; refine (HC.out _ M.out.2.1.1).mono ?_; rintro e w1 ⟨rfl, hb1⟩; replace M := Lib.hid (M.out.below hb1); clear hb1; replace hk4 := M.out.1))
 all_goals ((with_reducible refine HR.out _ _ ⟨?_, ?_⟩) <;> first | exact zd0 (by go_light; simp only [zep, zev, zqf]; grind) | exact M.out.2.1.1)
end
section
open Go.RowKit
structure Cst where
 log : Int
 model : Int
 silent : Int
abbrev cstV (c : Cst) : Value := .agg #[.int .i64 c.log, .int .i64 c.model, .int .i64 c.silent]
def inB (k : Int) : Bool := decide (0 ≤ k) && decide (k ≤ 1000)
def vcB (c : Cst) : Bool := inB c.log && (inB c.model && inB c.silent)
def zd4 (c : Cst) (k : Int) : Int := if k = 2 then c.log else if k = 3 then c.model else if k = 4 then c.silent else 0
theorem zhz {c : Cst} (h : vcB c = true) (k : Int) : 0 ≤ zd4 c k ∧ zd4 c k ≤ 1000 := by
 unfold vcB inB at h
 simp only [Bool.and_eq_true, decide_eq_true_eq] at h
 unfold zd4
 split
 ·
  omega
 ·
  split
  ·
   omega
  ·
   split <;> omega
def zhu (c : Cst) (l : List Stp) : Nat → Int
 | 0 => 0
 | k + 1 => zhu c l k + zd4 c (gti l k).kind
theorem zp9 {c : Cst} (h : vcB c = true) (l : List Stp) : ∀ k : Nat, 0 ≤ zhu c l k ∧ zhu c l k ≤ 1000 * k
 | 0 => by simp [zhu]
 | k + 1 => by
  have := zp9 h l k
  have := zhz h (gti l k).kind
  simp only [zhu]
  omega
abbrev stpM (m : Stp) : Value := .agg #[.int .i64 m.kind, .int .i64 m.trans, .string m.act]
set_option maxHeartbeats 400000 in
theorem zvi (c : Cst) (m : Stp) (w : World) : Calls Tryz.prog 87 #[cstV c, stpM m] w fun e w' => e = .returned (.int .i64 (zd4 c m.kind)) ∧ Below w.heap.size w w' := by
 obtain ⟨kd, tr, ac⟩ := m
 simp only
 refine zc3 fun R hR => ?_
 have HR := Lib.hid hR
 clear hR
 go_enter Tryz.func87, Tryz.ntmps87
 go_wp2_with fail
 all_goals (refine HR.out _ _ ⟨zfi ?_, ?_⟩ <;> first | exact ((Below.refl _ _).alloc (Nat.le_refl _) _).alloc (by simp) _ | (go_light; grind [zd4]))
set_option maxHeartbeats 400000 in
theorem z07 (c : Cst) (m : Stp) (w : World) : Calls Tryz.prog 67 #[cstV c, stpM m] w fun e w' => e = .returned (.int .i64 (zd4 c m.kind)) ∧ Below w.heap.size w w' := by
 obtain ⟨kd, tr, ac⟩ := m
 simp only
 refine zc3 fun R hR => ?_
 have HR := Lib.hid hR
 clear hR
 go_enter Tryz.func67, Tryz.ntmps67
 go_wp2_with fail
 all_goals (refine HR.out _ _ ⟨zfi ?_, ?_⟩ <;> first | exact ((Below.refl _ _).alloc (Nat.le_refl _) _).alloc (by simp) _ | (go_light; grind [zd4]))
set_option maxHeartbeats 400000 in
theorem z0t (k : Int) (w : World) : Calls Tryz.prog 97 #[.int .i64 k] w fun e w' => e = .returned (.bool (inB k)) ∧ Below w.heap.size w w' := by
 refine zc3 fun R hR => ?_
 have HR := Lib.hid hR
 clear hR
 go_enter Tryz.func97, Tryz.ntmps97
 go_wp2_with fail
 all_goals (refine HR.out _ _ ⟨zd0 ?_, Below.refl _ _⟩ <;> (go_light; grind [inB]))
set_option maxHeartbeats 400000 in
theorem zh8 (c : Cst) (w : World) : Calls Tryz.prog 47 #[cstV c] w fun e w' => e = .returned (.bool (vcB c)) ∧ Below w.heap.size w w' := by
 have M : Hid (Mem [Loc.k3 w.heap.size (.int .i64 c.log) (.int .i64 c.model) (.int .i64 c.silent), Loc.bl w.heap.size w] (w.alloc (.cells #[.int .i64 c.log, .int .i64 c.model, .int .i64 c.silent] 27))) := Lib.hid ⟨K3.new w _ _ _ _, ⟨(Below.refl _ _).alloc (Nat.le_refl _) _, by simp⟩, True.intro⟩
 have hk3 := M.out.1
 refine zc3 fun R hR => ?_
 have HR := Lib.hid hR
 clear hR
 go_enter Tryz.func47, Tryz.ntmps47
 go_wp2_with (go_at_call 97; refine (z0t _ _).mono ?_; rintro e w1 ⟨rfl, hb1⟩; replace M := Lib.hid (M.out.below hb1); clear hb1; replace hk3 := M.out.1)
 all_goals ((with_reducible refine HR.out _ _ ⟨?_, ?_⟩) <;> first | exact zd0 (by go_light; grind [vcB]) | exact M.out.2.1.1)
set_option maxHeartbeats 1000000 in
theorem zk6 (c : Cst) (w : World) : Calls Tryz.prog 16 #[cstV c] w fun e w' => e = .returned (.bool (vcB c)) ∧ Below w.heap.size w w' := by
 have M : Hid (Mem [Loc.k3 w.heap.size (.int .i64 c.log) (.int .i64 c.model) (.int .i64 c.silent), Loc.bl w.heap.size w] (w.alloc (.cells #[.int .i64 c.log, .int .i64 c.model, .int .i64 c.silent] 27))) := Lib.hid ⟨K3.new w _ _ _ _, ⟨(Below.refl _ _).alloc (Nat.le_refl _) _, by simp⟩, True.intro⟩
 have hk3 := M.out.1
 refine zc3 fun R hR => ?_
 have HR := Lib.hid hR
 clear hR
 go_enter Tryz.func16, Tryz.ntmps16
 go_wp2_with fail
 all_goals ((with_reducible refine HR.out _ _ ⟨?_, ?_⟩) <;> first | exact zd0 (by go_light; grind [vcB, inB]) | exact M.out.2.1.1)
theorem zm8 {c : Cst} {z : Bool} (h : vcB c = z) (w : World) : Calls Tryz.prog 47 #[cstV c] w fun e w' => e = .returned (.bool z) ∧ Below w.heap.size w w' := h ▸ zh8 c w
theorem z1y {l : List Stp} {z : Bool} (h : fineB l = z) (lo hi : Nat) (v : Value) (w : World) (hv : RdM w lo hi v l) :
  Calls Tryz.prog 84 #[v] w fun e w' => e = .returned (.bool z) ∧ Below w.heap.size w w' := h ▸ zzb l lo hi v w hv
theorem zwv : Ent 86 := zej Tryz.func86 (by kernel_rfl) rfl
set_option maxHeartbeats 400000 in
theorem zw9 (c : Cst) (x : Int) (m : Stp) (g : Nat) (w : World) (hg : K3 w g (.int .i64 c.log) (.int .i64 c.model) (.int .i64 c.silent)) (hx : -9223372036854775808 ≤ x + zd4 c m.kind ∧ x + zd4 c m.kind ≤ 9223372036854775807) :
  Calls Tryz.prog 86 #[.int .i64 x, stpM m, .pointer (some ⟨g, 0, none⟩)] w fun e w' => e = .returned (.int .i64 (x + zd4 c m.kind)) ∧ Below w.heap.size w w' := by
 have M : Hid (Mem [Loc.k3 g (.int .i64 c.log) (.int .i64 c.model) (.int .i64 c.silent), Loc.k3 w.heap.size (.int .i64 m.kind) (.int .i64 m.trans) (.string m.act), Loc.bl w.heap.size w] (w.alloc (.cells #[.int .i64 m.kind, .int .i64 m.trans, .string m.act] 37))) := Lib.hid ⟨K3.aft ((Below.refl _ _).alloc (Nat.le_refl _) _) hg, K3.new w _ _ _ _, ⟨(Below.refl _ _).alloc (Nat.le_refl _) _, by simp⟩, True.intro⟩
 have hk3 := M.out.1
 have hk4 := M.out.2.1
 clear hg
 refine zc3 fun R hR => ?_
 have HR := Lib.hid hR
 clear hR
 go_enter Tryz.func86, Tryz.ntmps86
 go_wp2_with (go_at_call 87; refine (zvi _ _ _).mono ?_; rintro e w1 ⟨rfl, hb1⟩; replace M := Lib.hid (M.out.below hb1); clear hb1; skip)
 exact HR.out _ _ ⟨zfi (by first | rfl | (go_light; omega)), M.out.2.2.1.1⟩
set_option maxHeartbeats 1000000 in
theorem zwl (f : FuncId) (hent : Ent f) (cap : Array Value) (acc : Nat → Int) (l : List Stp) (lo hi : Nat) (v : Value) (w : World) (hv : RdM w lo hi v l)
  (hf : ∀ k, k < l.length → ∀ W, Below w.heap.size w W → Calls Tryz.prog f (#[.int .i64 (acc k), stpM (gti l k)] ++ cap) W fun e W' => e = .returned (.int .i64 (acc (k + 1))) ∧ Below W.heap.size W W') :
  Calls Tryz.prog 85 #[v, .int .i64 (acc 0), .func (.func f) #[] cap] w fun e w' => e = .returned (.int .i64 (acc l.length)) ∧ Below w.heap.size w w' := by
 obtain ⟨A, c, rfl, hc, hm⟩ := hv.form
 unfold Ent at hent
 have HF := Lib.hid hf
 clear hf
 have HV := Lib.hid hv
 clear hv
 have M : Hid (Mem [Loc.bl w.heap.size w] w) := Lib.hid ⟨⟨Below.refl _ _, Nat.le_refl _⟩, True.intro⟩
 refine zc3 fun R hR => ?_
 have HR := Lib.hid hR
 clear hR
 go_enter Tryz.func85, Tryz.ntmps85
 go_wp2_with fail
 go_loopw [11, 1, 8] (fun v11 v1 _ wr => ∃ k : Nat, k ≤ l.length ∧ v11 = .int .i64 k ∧ v1 = .int .i64 (acc k) ∧ Hid (Mem [Loc.bl w.heap.size w] wr)) (fun v11 _ _ _ => l.length - (intOf v11).toNat)
 case atStart => exact ⟨0, by omega, rfl, rfl, M⟩
 case round =>
  clear M
  obtain ⟨k, hk, rfl, rfl, M⟩ := hrel
  by_cases hlt : k < l.length
  ·
   obtain ⟨b, off, rfl, _, _, hcell⟩ := RdM.at3 (HV.out.after M.out.1.1) hlt
   have HFK := Lib.hid (HF.out k hlt)
   generalize gti l k = x at *
   obtain ⟨kd, tr, ac⟩ := x
   simp only at hcell
   replace M : Hid (Mem [Loc.k3 wr.heap.size (.int .i64 kd) (.int .i64 tr) (.string ac), Loc.bl w.heap.size w] (wr.alloc (.cells #[.int .i64 kd, .int .i64 tr, .string ac] 37))) := Lib.hid ⟨K3.new wr _ _ _ _, M.out.alloc _⟩
   have hk3 := M.out.1
   go_wp2_with fail
   refine (HFK.out _ M.out.2.1.1).mono ?_
   rintro e w1 ⟨rfl, hb1⟩
   replace M := Lib.hid (M.out.below hb1)
   clear hb1
   go_wp2_with fail
   refine ⟨⟨k + 1, by omega, by go_num, rfl, Lib.hid M.out.2⟩, by simp [intOf]; omega⟩
  ·
   obtain rfl : k = l.length := by omega
   go_wp2_with fail
   exact HR.out _ _ ⟨rfl, M.out.1.1⟩
def zp8 (c : Cst) (l : List Stp) : Int × Int := if vcB c && fineB l then (zhu c l l.length, 0) else (0, 1)
theorem zwo {l : List Stp} (h : fineB l = true) : l.length ≤ 4000 := by
 unfold fineB at h
 simp only [Bool.and_eq_true, decide_eq_true_eq] at h
 exact h.1
theorem zng {a b c d : Int} (h : (a, b) = (c, d)) : Ending.returned (.tuple #[.int .i64 a, .int .i64 b]) = .returned (.tuple #[.int .i64 c, .int .i64 d]) := by
 injection h with h1 h2; rw [h1, h2]
set_option maxHeartbeats 1000000 in
theorem zzv (c : Cst) (l : List Stp) (lo hi : Nat) (v : Value) (w : World) (hv : RdM w lo hi v l) :
  Calls Tryz.prog 35 #[cstV c, v] w fun e w' => e = .returned (.tuple #[.int .i64 (zp8 c l).1, .int .i64 (zp8 c l).2]) ∧ Below w.heap.size w w' := by
 have HV := Lib.hid hv
 obtain ⟨A, cc, rfl, hc, hm⟩ := hv.form
 clear hv
 obtain ⟨z, hz⟩ : ∃ z, vcB c = z := ⟨_, rfl⟩
 obtain ⟨y, hy⟩ : ∃ y, fineB l = y := ⟨_, rfl⟩
 have HZ := Lib.hid hz
 have HY := Lib.hid hy
 have HCE : Hid (zp8 c l = if z && y then (zhu c l l.length, 0) else (0, 1)) := Lib.hid (by rw [zp8, hz, hy])
 clear hz hy
 have M : Hid (Mem [Loc.k3 w.heap.size (.int .i64 c.log) (.int .i64 c.model) (.int .i64 c.silent), Loc.bl w.heap.size w] (w.alloc (.cells #[.int .i64 c.log, .int .i64 c.model, .int .i64 c.silent] 27))) := Lib.hid ⟨K3.new w _ _ _ _, ⟨(Below.refl _ _).alloc (Nat.le_refl _) _, by simp⟩, True.intro⟩
 cases z <;> cases y
 all_goals
  refine zc3 fun R hR => ?_
  have HR := Lib.hid hR
  clear hR
  go_enter Tryz.func35, Tryz.ntmps35
  have hk3 := M.out.1
  go_wp2_with (first
   | (go_at_call 47; refine (zm8 HZ.out _).mono ?_; rintro e w1 ⟨rfl, hb1⟩; replace M := Lib.hid (M.out.below hb1); clear hb1; replace hk3 := M.out.1)
   | (go_at_call 84; refine (z1y HY.out lo hi _ _ (HV.out.after M.out.2.1.1)).mono ?_; rintro e w1 ⟨rfl, hb1⟩; replace M := Lib.hid (M.out.below hb1); clear hb1; replace hk3 := M.out.1)
   | (go_at_call 85; refine (zwl 86 zwv #[.pointer (some ⟨w.heap.size, 0, none⟩)] (zhu c l) l lo hi _ _ (HV.out.after M.out.2.1.1) (fun k hk W hW => zw9 c _ _ _ W (K3.aft hW M.out.1) (by have h1 := zp9 HZ.out l k; have h2 := zhz HZ.out (gti l k).kind; have h3 := zwo HY.out; omega))).mono ?_; rintro e w1 ⟨rfl, hb1⟩; replace M := Lib.hid (M.out.below hb1); clear hb1; skip))
 ·
  exact HR.out _ _ ⟨zng (by rw [HCE.out]; rfl), M.out.2.1.1⟩
 ·
  exact HR.out _ _ ⟨zng (by rw [HCE.out]; rfl), M.out.2.1.1⟩
 ·
  exact HR.out _ _ ⟨zng (by rw [HCE.out]; rfl), M.out.2.1.1⟩
 ·
  exact HR.out _ _ ⟨zng (by rw [HCE.out]; rfl), M.out.2.1.1⟩
end
end Go.Proofs.YtjhdcgaiccnmeaaGreatDoor
