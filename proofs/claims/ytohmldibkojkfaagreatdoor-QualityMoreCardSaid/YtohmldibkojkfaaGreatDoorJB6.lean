import Derived.Test.YtohmldibkojkfaaGreatDoorJB5
import Derived.Maps.AppendAt
import Derived.OwnWalk
import Derived.Deep.Light
import Derived.Test.YtohmldibkojkfaaGreatDoorJB4
set_option linter.unusedSimpArgs false
set_option linter.unusedVariables false
set_option linter.unusedSectionVars false
section
namespace Go.Proofs.YtohmldibkojkfaaGreatDoor
open Go.RowKit
def TI (t e size bytes : Nat) (z : Value) : Prop := ∃ i, Tryz.prog.underlying t = some (.slice e) ∧ Tryz.prog.info? e = some i ∧ i.zero = some z ∧ i.size = size ∧ i.bytes = bytes ∧ z.cells.size = size ∧ 0 < size
theorem TI.mk {t e size bytes : Nat} {z : Value} (h1 : Tryz.prog.underlying t = some (.slice e)) (h2 : (Tryz.prog.info? e).map (fun i => (i.zero, i.size, i.bytes)) = some (some z, size, bytes)) (h3 : z.cells.size = size) (h4 : 0 < size) : TI t e size bytes z := by
 obtain ⟨i, hi, a, b, c⟩ := info_parts h2
 exact ⟨i, h1, hi, a, b, c, h3, h4⟩
theorem zh3 : TI 48 3 1 8 (.int .i64 0) := TI.mk Tryz.underlying48 (by kernel_rfl) rfl (by decide)
def Own {α : Type} (e size : Nat) (enc : α → List Value) (w : World) (lo hi : Nat) (v : Value) (l : List α) : Prop :=
 w.ownsRow lo e size v l.length (l.flatMap enc) ∧ ∀ k, v.ownBlock = some k → k < hi
section
variable {α : Type} {e size : Nat} {enc : α → List Value} {w W : World} {lo hi : Nat} {v : Value} {l : List α}
theorem Own.nil (w : World) (lo hi : Nat) : Own e size enc w lo hi (.slice none 0 0) [] := ⟨⟨by simp, .inl ⟨rfl, rfl⟩⟩, fun k h => by cases h⟩
theorem Own.mono {lo' hi' : Nat} (h : Own e size enc w lo hi v l) (hl : lo' ≤ lo) (hh : hi ≤ hi') : Own e size enc w lo' hi' v l := ⟨zwl h.1 hl, fun k hk => Nat.lt_of_lt_of_le (h.2 k hk) hh⟩
theorem Own.keep {D : Nat → Prop} (hc : Chg D w W) (hd : ∀ k, lo ≤ k ∧ k < hi → ¬ D k) (h : Own e size enc w lo hi v l) : Own e size enc W lo hi v l := by
 refine ⟨⟨h.1.1, ?_⟩, h.2⟩
 rcases h.1.2 with h2 | ⟨g, cap, cur, hv, hg, hh, r⟩
 ·
  exact Or.inl h2
 ·
  have hvg : v.ownBlock = some g := by rw [hv]; rfl
  exact Or.inr ⟨g, cap, cur, hv, hg, (hc.block g (Array.getElem?_eq_some_iff.1 hh).1 (hd g ⟨hg, h.2 g hvg⟩)).trans hh, r⟩
theorem Own.form (h : Own e size enc w lo hi v l) : ∃ A c, v = .slice A l.length c ∧ l.length ≤ c ∧ l.length ≤ 9223372036854775807 := by
 rcases h.1.2 with ⟨rfl, h2⟩ | ⟨g, cap, cur, hv, hg, hh, h1, h2, _⟩
 ·
  exact ⟨none, 0, by rw [h2], by omega, by omega⟩
 ·
  exact ⟨_, _, hv, h1, by unfold maxLen at h2; omega⟩
theorem Own.rd (h : Own e size enc w lo hi v l) : Rd size enc w lo hi v l := by
 rcases h.1.2 with ⟨rfl, h2⟩ | ⟨g, cap, cur, hv, hg, hh, h1, h2, h3, h4⟩
 ·
  have : l = [] := List.eq_nil_of_length_eq_zero h2
  subst this
  exact Rd.nil w lo hi
 ·
  refine ⟨h.1.1, _, _, hv, h1, Nat.le_trans h1 h2, fun _ => ⟨g, 0, rfl, hg, h.2 g (by rw [hv]; rfl), fun j u hu => ?_⟩⟩
  rw [cell_of_row w g (0 + j) cur e (0, 0) hh, Nat.zero_add]
  rw [← h4, List.getElem?_take] at hu
  split at hu
  ·
   simpa using hu
  ·
   cases hu
theorem Own.blk (h : Own e size enc w lo hi v l) (hn : 0 < l.length) : ∃ g cap, v = .slice (some ⟨g, 0, none⟩) l.length cap ∧ lo ≤ g ∧ g < hi ∧ g < w.heap.size := by
 rcases h.1.2 with ⟨rfl, h2⟩ | ⟨g, cap, cur, hv, hg, hh, h1, h2, h3, h4⟩
 ·
  omega
 ·
  exact ⟨g, cap, hv, hg, h.2 g (by rw [hv]; rfl), (Array.getElem?_eq_some_iff.1 hh).1⟩
theorem Own.cell {g n cap : Nat} (h : Own e size enc w lo hi (.slice (some ⟨g, 0, none⟩) n cap) l) (he : ∀ a, (enc a).length = size) {k : Nat} {a : α} (hk : l[k]? = some a) {j : Nat} {u : Value} (hu : (enc a)[j]? = some u) :
  w.cell? ⟨g, k * size + j, none⟩ = some u ∧ w.frozen? ⟨g, k * size + j, none⟩ = false := by
 rcases h.1.2 with ⟨h0, _⟩ | ⟨g', c', cur, hv, hb, hg, _, _, hs, ht⟩
 ·
  cases h0
 ·
  injection hv with hA _ _
  injection hA with hA
  injection hA with hA
  subst hA
  refine ⟨?_, by simp [World.frozen?, hg]⟩
  rw [cell_of_row w g _ cur e (0, 0) hg]
  have hf := zen he l k a j u hk hu
  rw [← ht, List.getElem?_take] at hf
  split at hf
  ·
   simpa using hf
  ·
   cases hf
theorem Own.set1 {enc : α → List Value} {g n cap : Nat} (h : Own e 1 enc w lo hi (.slice (some ⟨g, 0, none⟩) n cap) l) {k : Nat} {a : α} {u : Value} (he : ∀ a, (enc a).length = 1) (hu : enc a = [u]) :
  Own e 1 enc (w.setCell ⟨g, k, none⟩ u) lo hi (.slice (some ⟨g, 0, none⟩) n cap) (l.set k a) := by
 refine ⟨?_, h.2⟩
 rcases h.1.2 with ⟨h0, _⟩ | ⟨g', c', cur, hv, hb, hg, h1, h2, hs, ht⟩
 ·
  cases h0
 ·
  injection hv with hA hn hc
  injection hA with hA
  injection hA with hA
  subst hA hc hn
  have hset : ∀ (l : List α) (k : Nat), (l.set k a).flatMap enc = (l.flatMap enc).set k u := by
   intro l
   induction l with
   | nil => intro k; simp
   | cons b l ih =>
    intro k
    obtain ⟨y, hy⟩ : ∃ y, enc b = [y] := List.length_eq_one_iff.1 (he b)
    cases k with
    | zero => simp [hu, hy]
    | succ k => simp [hy, ih k]
  refine ⟨by rw [zcw he, List.length_set], .inr ⟨g, cap, cur.setIfInBounds k u, by rw [List.length_set], hb, ?_, by rw [List.length_set]; exact h1, h2, by simp [hs], ?_⟩⟩
  ·
   simp [World.setCell, Array.getElem?_modify, hg]
  ·
   rw [hset, ← ht, List.length_set]
   simp only [Array.toList_setIfInBounds]
   rw [List.take_set]
end
abbrev Loc.ow {α : Type} (e size : Nat) (enc : α → List Value) (lo hi : Nat) (v : Value) (l : List α) : Loc :=
 ⟨fun w => Own e size enc w lo hi v l, fun k => lo ≤ k ∧ k < hi, fun h hd hp => Own.keep h hd hp⟩
abbrev OwnI := Own 3 1 encI
abbrev Loc.owI (lo hi : Nat) (v : Value) (l : List Int) : Loc := Loc.ow 3 1 encI lo hi v l
abbrev Loc.rdI (lo hi : Nat) (v : Value) (l : List Int) : Loc := Loc.rd 1 encI lo hi v l
abbrev Loc.rdS (lo hi : Nat) (v : Value) (l : List ByteArray) : Loc := Loc.rd 1 encS lo hi v l
abbrev Loc.rdM (lo hi : Nat) (v : Value) (l : List Stp) : Loc := Loc.rd 3 encM lo hi v l
theorem OwnI.at1 {w : World} {lo hi g n cap : Nat} {l : List Int} (h : OwnI w lo hi (.slice (some ⟨g, 0, none⟩) n cap) l) {k : Nat} (hk : k < l.length) :
  w.cell? ⟨g, k, none⟩ = some (.int .i64 (gti l k)) ∧ w.frozen? ⟨g, k, none⟩ = false := by
 have := Own.cell h (fun _ => rfl) (zbn hk) (j := 0) (u := .int .i64 (gti l k)) rfl
 simpa using this
theorem OwnI.set {w : World} {lo hi g n cap : Nat} {l : List Int} (h : OwnI w lo hi (.slice (some ⟨g, 0, none⟩) n cap) l) (k : Nat) (x : Int) :
  OwnI (w.setCell ⟨g, k, none⟩ (.int .i64 x)) lo hi (.slice (some ⟨g, 0, none⟩) n cap) (l.set k x) := Own.set1 h (fun _ => rfl) rfl
theorem Own.lit {α : Type} {size : Nat} {enc : α → List Value} (W : World) (t : TypeId) (lo : Nat) (l : List α) (cs : Array Value) (n : Nat) (hn : n = l.length) (hcs : cs.toList = l.flatMap enc) (hl : lo ≤ W.heap.size) (hm : n ≤ maxLen) (he : ∀ a, (enc a).length = size) :
  Own t size enc (W.alloc (.cells cs t)) lo (W.heap.size + 1) (.slice (some ⟨W.heap.size, 0, none⟩) n n) l := by
 subst hn
 have hsz : cs.size = l.length * size := by rw [← Array.length_toList, hcs, zcw he]
 have h := z19 W cs t lo size l.length hsz hm hl
 rw [hcs] at h
 exact ⟨h, fun k hk => by simp [Value.ownBlock] at hk; omega⟩
theorem Rd.lit {α : Type} {size : Nat} {enc : α → List Value} (W : World) (t : TypeId) (l : List α) (cs : Array Value) (n : Nat) (hn : n = l.length) (hcs : cs.toList = l.flatMap enc) (hm : n ≤ maxLen) (he : ∀ a, (enc a).length = size) :
  Rd size enc (W.alloc (.cells cs t)) 0 (W.heap.size + 1) (.slice (some ⟨W.heap.size, 0, none⟩) n n) l := (Own.lit W t 0 l cs n hn hcs (Nat.zero_le _) hm he).rd
theorem RdI.lit1 (W : World) (x : Int) (t : TypeId) : RdI (W.alloc (.cells #[.int .i64 x] t)) 0 (W.heap.size + 1) (.slice (some ⟨W.heap.size, 0, none⟩) 1 1) [x] := Rd.lit W t [x] _ 1 rfl rfl (by decide) (fun _ => rfl)
theorem zsl (b off j : Nat) : (⟨b, off, none⟩ : Addr).add j = ⟨b, off + j, none⟩ := by unfold Addr.add; split <;> simp_all
theorem z1r {α : Type} {t e size bytes : Nat} {z : Value} {enc : α → List Value} (ti : TI t e size bytes z) (he : ∀ a, (enc a).length = size) (h1 : ∀ a, ∀ u ∈ enc a, u.oneCell' = true) (w : World) (ty : TypeId) {lo hi lo' hi' : Nat} {v vx : Value} {l xs : List α} {rest : List Loc}
  (hM : Mem (Loc.ow e size enc lo hi v l :: rest) w) (hA : zh1 (fun k => lo ≤ k ∧ k < hi) rest) (hx : Rd size enc w lo' hi' vx xs) (hlen : (l.length + xs.length) * bytes ≤ 140737488355328) (hlen2 : l.length + xs.length ≤ maxLen) (hlo : lo ≤ w.heap.size) :
  ∃ A c w', (Builtin.append_ #[t, t] ty #[v, vx]).run Tryz.prog w = .ok (.slice A (l.length + xs.length) c) w' ∧ Mem (Loc.ow e size enc lo w'.heap.size (.slice A (l.length + xs.length) c) (l ++ xs) :: rest) w' ∧ w.heap.size ≤ w'.heap.size ∧ Chg (fun k => lo ≤ k ∧ k < hi) w w' := by
 obtain ⟨i, ht, hi0, hz, hsize, hby, hzs, hsz⟩ := ti
 obtain ⟨ho, hr⟩ := hM
 obtain ⟨A, c, rfl, _, _⟩ := hx.form
 have fin : ∀ (v' : Value) (w' : World), w'.ownsRow lo e size v' (l.length + xs.length) (l.flatMap enc ++ xs.flatMap enc) → w.grownBy w' v.ownBlock → (v'.ownBlock = v.ownBlock ∨ v'.ownBlock = some w.heap.size) →
   ∃ A c, v' = .slice A (l.length + xs.length) c ∧ Mem (Loc.ow e size enc lo w'.heap.size (.slice A (l.length + xs.length) c) (l ++ xs) :: rest) w' ∧ w.heap.size ≤ w'.heap.size ∧ Chg (fun k => lo ≤ k ∧ k < hi) w w' := by
  intro v' w' h2 h3 h4
  have hown : Own e size enc w' lo w'.heap.size v' (l ++ xs) := by
   refine ⟨by rw [List.length_append, List.flatMap_append]; exact h2, fun k hk => (h2.lt k hk).2⟩
  obtain ⟨A', c', hv', _, _⟩ := hown.form
  rw [List.length_append] at hv'
  subst hv'
  have hch : Chg (fun k => lo ≤ k ∧ k < hi) w w' := ⟨h3.os, h3.tape, h3.output, h3.size, fun k hk hd => h3.block k hk (fun e => hd ⟨(ho.1.lt k e.symm).1, ho.2 k e.symm⟩)⟩
  exact ⟨A', c', rfl, ⟨hown, hr.chg hch hA⟩, h3.size, hch⟩
 rcases A with _ | ad
 ·
  have hm : xs.length = 0 := by
   rcases Nat.eq_zero_or_pos xs.length with h0 | h0
   ·
    exact h0
   ·
    obtain ⟨b, off, h, _⟩ := RdC.cells hx h0
    cases h
  have hxs : xs = [] := List.eq_nil_of_length_eq_zero hm
  subst hxs
  have hrun : (Builtin.append_ #[t, t] ty #[v, .slice none ([] : List α).length c]).run Tryz.prog w = .ok v w := by
   rcases ho.1.2 with ⟨rfl, h0⟩ | ⟨g, cap, cur, rfl, _, _, hnc, _⟩
   ·
    simp [Builtin.append_, run_underlying ht, sizeOf, typeInfo, hi0, Builtin.lenOf, Builtin.firstCells]
   ·
    simp [Builtin.append_, run_underlying ht, sizeOf, typeInfo, hi0, Builtin.lenOf, Builtin.firstCells, hnc, storeCells]
  obtain ⟨A', c', hv, hM', h5, h6⟩ := fin v w (by simpa using ho.1) (World.grownBy.refl w _) (.inl rfl)
  exact ⟨A', c', w, hrun.trans (by rw [hv]), hM', h5, h6⟩
 ·
  have hcells : ∀ j u, (xs.flatMap enc)[j]? = some u → w.cell? (ad.add j) = some u := by
   intro j u hu
   rcases Nat.eq_zero_or_pos xs.length with h0 | h0
   ·
    have : xs = [] := List.eq_nil_of_length_eq_zero h0
    subst this
    simp at hu
   ·
    obtain ⟨b, off, h, _, _, hc⟩ := RdC.cells hx h0
    rw [Option.some.inj h, zsl]
    exact hc j u hu
  obtain ⟨v', w', hrun, h2, h3, _, h5⟩ := run_append_own_at (P := Tryz.prog) w lo t ty e i z size bytes ht hi0 hz hsize hby hzs hsz v l.length (l.flatMap enc) ho.1 ad xs.length c (xs.flatMap enc) (zcw he xs) hcells
   (fun u hu => by obtain ⟨a, _, ha⟩ := List.mem_flatMap.1 hu; exact h1 a u ha) hlen2 hlen hlo
  obtain ⟨A', c', hv, hM', h6, h7⟩ := fin v' w' h2 h3 h5
  exact ⟨A', c', w', hrun.trans (by rw [hv]), hM', h6, h7⟩
section
variable {α : Type} {t e size bytes : Nat} {z : Value} {enc : α → List Value}
theorem wp_app {o : Oper} {a : Act} {K : Act → World → Prop} {Q : Exit → Act → World → Prop} (s x : Operand) (ho : o.op = .call { callee := .builtin .append, args := #[s, x], argTypes := #[t, t] })
  (ti : TI t e size bytes z) (he : ∀ a, (enc a).length = size) (h1 : ∀ a, ∀ u ∈ enc a, u.oneCell' = true) {w : World} {lo hi lo' hi' : Nat} {v vx : Value} {l xs : List α} {rest : List Loc} (hs : a.eval s = v) (hvx : a.eval x = vx)
  (hM : Mem (Loc.ow e size enc lo hi v l :: rest) w) (hA : zh1 (fun k => lo ≤ k ∧ k < hi) rest) (hx : Rd size enc w lo' hi' vx xs) (hlen : (l.length + xs.length) * bytes ≤ 140737488355328) (hlen2 : l.length + xs.length ≤ 9223372036854775807) (hlo : lo ≤ w.heap.size)
  (h : ∀ A c w', Mem (Loc.ow e size enc lo w'.heap.size (.slice A (l.length + xs.length) c) (l ++ xs) :: rest) w' → w.heap.size ≤ w'.heap.size → Chg (fun k => lo ≤ k ∧ k < hi) w w' → K (a.put o.dst (.slice A (l.length + xs.length) c)) w') : o.wp Tryz.prog a w K Q := by
 obtain ⟨A, c, w', hrun, h2, h3, h4⟩ := z1r ti he h1 w o.type hM hA hx hlen (by unfold maxLen; omega) hlo
 unfold Oper.wp execOp
 simp only [ho, resolve, invoke, builtin, Sem.run_bind, Sem.run_pure, Result.andThen_ok, List.map_toArray, List.map_cons, List.map_nil, hs, hvx, hrun]
 exact h A c w' h2 h3 h4
theorem zd1 {ops : Array Oper} {restO : List Oper} {o : Oper} {a : Act} {Q : Exit → Act → World → Prop} (hgd : o.guard = none) (s x : Operand) (ho : o.op = .call { callee := .builtin .append, args := #[s, x], argTypes := #[t, t] })
  (ti : TI t e size bytes z) (he : ∀ a, (enc a).length = size) (h1 : ∀ a, ∀ u ∈ enc a, u.oneCell' = true) {w : World} {lo hi lo' hi' : Nat} {v vx : Value} {l xs : List α} {rest : List Loc} (hs : a.eval s = v) (hvx : a.eval x = vx)
  (hM : Mem (Loc.ow e size enc lo hi v l :: rest) w) (hA : zh1 (fun k => lo ≤ k ∧ k < hi) rest) (hx : Rd size enc w lo' hi' vx xs) (hlen : (l.length + xs.length) * bytes ≤ 140737488355328) (hlen2 : l.length + xs.length ≤ 9223372036854775807) (hlo : lo ≤ w.heap.size)
  (h : ∀ A c w', Mem (Loc.ow e size enc lo w'.heap.size (.slice A (l.length + xs.length) c) (l ++ xs) :: rest) w' → w.heap.size ≤ w'.heap.size → Chg (fun k => lo ≤ k ∧ k < hi) w w' → wpList Tryz.prog ops Q restO (a.put o.dst (.slice A (l.length + xs.length) c)) w') : wpList Tryz.prog ops Q (o :: restO) a w :=
 wpList_plain hgd fun _ hK => wp_app s x ho ti he h1 hs hvx hM hA hx hlen hlen2 hlo fun A c w' h2 h3 h4 => hK _ _ (h A c w' h2 h3 h4)
end
theorem z0r {t e size bytes : Nat} {z : Value} (ti : TI t e size bytes z) (w : World) (n : Nat) (hn : bytes * n ≤ 140737488355328) (h63 : n ≤ 9223372036854775807) :
  (Instr.makeSlice t (.int .i64 (n : Int)) (.int .i64 (n : Int))).run Tryz.prog w = .ok (.slice (some ⟨w.heap.size, 0, none⟩) n n) (w.alloc (.cells (madeCells z.cells (n * size)) e)) := by
 obtain ⟨i, ht, hi0, hz, hsize, hby, hzs, hsz⟩ := ti
 have := run_make (P := Tryz.prog) w t e i z ht hi0 hz .i64 .i64 (n : Int) (n : Int) (by omega) (by omega) (by rw [hby]; omega) (by omega)
 rw [Int.toNat_natCast, hsize] at this
 exact this
theorem ztf {α : Type} {size : Nat} {enc : α → List Value} {z : Value} (a : α) (hz : z.cells.toList = enc a) (hs : z.cells.size = size) (hpos : 0 < size) : ∀ n, (madeCells z.cells (n * size)).toList = (List.replicate n a).flatMap enc := by
 intro n
 apply List.ext_getElem?
 intro j
 have hlen : (enc a).length = size := by rw [← hz, Array.length_toList, hs]
 have hL : ((List.replicate n a).flatMap enc).length = n * size := by
  induction n with
  | zero => simp
  | succ n ih => rw [List.replicate_succ, List.flatMap_cons, List.length_append, ih, hlen, Nat.add_mul]; omega
 by_cases hj : j < n * size
 ·
  have hq : j / size < n := (Nat.div_lt_iff_lt_mul hpos).2 hj
  have hmod : j % size < size := Nat.mod_lt _ hpos
  have e1 : (madeCells z.cells (n * size)).toList[j]? = some (z.cells[j % size]!) := by
   simp [madeCells, hj, hs]
  have e2 : (enc a)[j % size]? = some (z.cells[j % size]!) := by
   rw [← hz]
   simp [hs, hmod]
  have e3 : ((List.replicate n a).flatMap enc)[j]? = (enc a)[j % size]? := by
   clear e1 e2 hL
   induction n generalizing j with
   | zero => simp at hj
   | succ n ih =>
    rw [List.replicate_succ, List.flatMap_cons]
    by_cases hjs : j < size
    ·
     rw [List.getElem?_append_left (by omega), Nat.mod_eq_of_lt hjs]
    ·
     rw [List.getElem?_append_right (by omega), hlen]
     have hlt : j - size < n * size := by rw [Nat.add_mul] at hj; omega
     rw [ih (j - size) hlt ((Nat.div_lt_iff_lt_mul hpos).2 hlt) (Nat.mod_lt _ hpos)]
     rw [← Nat.mod_eq_sub_mod (by omega)]
  rw [e1, e3, e2]
 ·
  rw [List.getElem?_eq_none (by simp [size_madeCells]; omega), List.getElem?_eq_none (by omega)]
theorem Own.made {α : Type} {t e size bytes : Nat} {z : Value} {enc : α → List Value} (ti : TI t e size bytes z) (W : World) (lo n : Nat) (a : α) (hz : z.cells.toList = enc a) (hl : lo ≤ W.heap.size) (hn : n ≤ 9223372036854775807) (he : ∀ a, (enc a).length = size) :
  Own e size enc (W.alloc (.cells (madeCells z.cells (n * size)) e)) lo (W.heap.size + 1) (.slice (some ⟨W.heap.size, 0, none⟩) n n) (List.replicate n a) := by
 obtain ⟨i, ht, hi0, hzz, hsize, hby, hzs, hsz⟩ := ti
 exact Own.lit W e lo _ _ n (by simp) (ztf a hz hzs hsz n) hl (by unfold maxLen; omega) he
end Go.Proofs.YtohmldibkojkfaaGreatDoor
end
section
namespace Go.Proofs.YtohmldibkojkfaaGreatDoor
open Go.RowKit
abbrev K3 (w : World) (g : Nat) (a b c : Value) : Prop := w.cell? ⟨g, 0, none⟩ = some a ∧ w.cell? ⟨g, 1, none⟩ = some b ∧ w.cell? ⟨g, 2, none⟩ = some c ∧ g < w.heap.size
theorem K3.of_block {W W' : World} {g : Nat} {a b c : Value} (h : K3 W g a b c) (he : W'.heap[g]? = W.heap[g]?) (hs : W.heap.size ≤ W'.heap.size) : K3 W' g a b c := by
 obtain ⟨h1, h2, h3, h7⟩ := h
 exact ⟨(World.cell?_of_block (w := W) he).trans h1, (World.cell?_of_block (w := W) he).trans h2, (World.cell?_of_block (w := W) he).trans h3, Nat.lt_of_lt_of_le h7 hs⟩
theorem K3.aft {W w1 : World} {g : Nat} {a b c : Value} (hb : Below W.heap.size W w1) (h : K3 W g a b c) : K3 w1 g a b c := K3.of_block h (hb.block g h.2.2.2) hb.size
theorem K3.new (W : World) (a b c : Value) (t : TypeId) : K3 (W.alloc (.cells #[a, b, c] t)) W.heap.size a b c := by simp [K3, go_sem]
abbrev Loc.k3 (g : Nat) (a b c : Value) : Loc := ⟨fun w => K3 w g a b c, fun k => k = g, fun h hd hp => K3.of_block hp (h.block g hp.2.2.2 (hd g rfl)) h.size⟩
theorem zuw {s : ByteArray} (h : ¬ s = ByteArray.empty) : s.toList.isEmpty = false := by
 rw [ByteArray.toList_eq]
 rw [Bool.eq_false_iff]
 intro e
 apply h
 obtain ⟨d⟩ := s
 simp at e
 subst e
 rfl
def trB (n : Int) (t : Tr) : Bool := (t.label.toList.isEmpty || zem t.label) && zcn n t.inn && zcn n t.out
def zd2 (n : Net) : List Tr → Bool
 | [] => zcn n.places [n.source] && zcn n.places [n.sink]
 | t :: ts => if trB n.places t then zd2 n ts else false
def zca (n : Net) : Bool := if n.places < 1 ∨ 40 < n.places ∨ 60 < n.trans.length then false else zd2 n n.trans
theorem zco {α : Type} [Inhabited α] {l : List α} {k : Nat} (h : k < l.length) : l.drop k = gti l k :: l.drop (k + 1) := by
 rw [List.drop_eq_getElem_cons h]
 unfold gti
 rw [List.getElem?_eq_getElem h]
 rfl
theorem zcj {a b : Bool} (h : a = b) : Ending.returned (.bool a) = .returned (.bool b) := by rw [h]
set_option maxHeartbeats 2000000 in
theorem zkx (n : Net) (vt : Value) (lo hi : Nat) (w : World) (hv : RdT w lo hi vt n.trans) :
  Calls Tryz.prog 73 #[netV n vt] w fun e w' => e = .returned (.bool (zca n)) ∧ Below w.heap.size w w' := by
 obtain ⟨A, c, rfl, hc, hm⟩ := hv.form
 have HV := Lib.hid hv
 clear hv
 refine zas fun R hR => ?_
 have HR := Lib.hid hR
 clear hR
 go_enter Tryz.func73, Tryz.ntmps73
 have M : Mem [Loc.k4 w.heap.size (.int .i64 n.places) (.slice A n.trans.length c) (.int .i64 n.source) (.int .i64 n.sink), Loc.bl w.heap.size w] (w.alloc (.cells #[.int .i64 n.places, .slice A n.trans.length c, .int .i64 n.source, .int .i64 n.sink] 24)) := ⟨K4.new w _ _ _ _ _, ⟨(Below.refl _ _).alloc (Nat.le_refl _) _, by simp⟩, True.intro⟩
 have HM := Lib.hid M
 clear M
 go_wp2_with fail
 all_goals (try ((with_reducible refine HR.out _ _ ⟨?_, ?_⟩) <;> first | exact zcj (by grind [zca]) | exact HM.out.2.1.1))
 have HI : Hid (zca n = zd2 n n.trans) := Lib.hid (by grind [zca])
 generalize w.alloc (.cells #[.int .i64 n.places, .slice A n.trans.length c, .int .i64 n.source, .int .i64 n.sink] 24) = W at *
 go_loopw [22, 4] (fun v22 _ wr => ∃ k : Nat, k ≤ n.trans.length ∧ v22 = .int .i64 k ∧ Hid (zca n = zd2 n (n.trans.drop k)) ∧ Hid (Mem [Loc.k4 w.heap.size (.int .i64 n.places) (.slice A n.trans.length c) (.int .i64 n.source) (.int .i64 n.sink), Loc.bl w.heap.size w] wr)) (fun v22 _ _ => n.trans.length - (intOf v22).toNat)
 case atStart => exact ⟨0, by omega, rfl, HI, HM⟩
 case round =>
  clear HM HI
  obtain ⟨k, hk, rfl, HI, HM⟩ := hrel
  have hk4 := HM.out.1
  by_cases hlt : k < n.trans.length
  ·
   obtain ⟨b, off, vi, vo, rfl, _, _, hcell, hri, hro⟩ := RdT.at3 (HV.out.after HM.out.2.1.1) hlt
   have HD := Lib.hid (zco hlt)
   obtain ⟨Ai, ci, rfl, hci, hmi⟩ := hri.form
   obtain ⟨Ao, co, rfl, hco, hmo⟩ := hro.form
   generalize gti n.trans k = t at *
   obtain ⟨lab, tin, tout⟩ := t
   simp only at hri hro hcell hci hmi hco hmo
   have M : Mem [Loc.k4 w.heap.size (.int .i64 n.places) (.slice (some ⟨b, off, none⟩) n.trans.length c) (.int .i64 n.source) (.int .i64 n.sink), Loc.bl w.heap.size w, Loc.k3 wr.heap.size (.string lab) (.slice Ai tin.length ci) (.slice Ao tout.length co), Loc.rd 1 encI lo hi (.slice Ai tin.length ci) tin, Loc.rd 1 encI lo hi (.slice Ao tout.length co) tout] (wr.alloc (.cells #[.string lab, .slice Ai tin.length ci, .slice Ao tout.length co] 65)) := 
    ⟨K4.aft ((Below.refl _ _).alloc (Nat.le_refl _) _) hk4, ⟨(HM.out.2.1.1).alloc HM.out.2.1.2 _, by have := HM.out.2.1.2; simp; omega⟩, K3.new wr _ _ _ _, Rd.after hri ((Below.refl _ _).alloc (Nat.le_refl _) _), Rd.after hro ((Below.refl _ _).alloc (Nat.le_refl _) _), True.intro⟩
   clear hri hro
   replace M := Lib.hid M
   have hq4 := M.out.1
   have hq3 := M.out.2.2.1
   go_wp2_with (first
    | (go_at_call 78; refine (zhu _ _).mono ?_; rintro e w1 ⟨rfl, hb1⟩; replace M := Lib.hid (M.out.below hb1); clear hb1; replace hq4 := M.out.1; replace hq3 := M.out.2.2.1)
    | (go_at_call 105; refine (zm4 n _ _ lo hi _ _ (by first | exact M.out.2.2.2.1 | exact M.out.2.2.2.2.1)).mono ?_; rintro e w1 ⟨rfl, hb1⟩; replace M := Lib.hid (M.out.below hb1); clear hb1; replace hq4 := M.out.1; replace hq3 := M.out.2.2.1))
   all_goals (have HJ : zca n = if trB n.places ⟨lab, tin, tout⟩ then zd2 n (n.trans.drop (k + 1)) else false := by rw [HI.out, HD.out]; rfl)
   all_goals first
    | ((with_reducible refine HR.out _ _ ⟨?_, ?_⟩) <;> first | exact zcj (by go_light; grind [trB]) | exact M.out.2.1.1)
    | (refine ⟨⟨k + 1, by omega, by go_num, Lib.hid (by go_light; grind [trB]), Lib.hid ⟨M.out.1, M.out.2.1, True.intro⟩⟩, by simp [intOf]; omega⟩)
  ·
   obtain rfl : k = n.trans.length := by omega
   have HE : Hid (zca n = (zcn n.places [n.source] && zcn n.places [n.sink])) := Lib.hid (by rw [HI.out]; simp [zd2])
   clear HI
   have M := HM
   clear HM
   go_wp2_with (go_at_call 105; refine (zm4 n _ _ 0 _ _ _ (RdI.lit1 _ _ _)).mono ?_; rintro e w1 ⟨rfl, hb1⟩; replace M := Lib.hid ((M.out.alloc _).below hb1); clear hb1; replace hk4 := M.out.1)
   all_goals ((with_reducible refine HR.out _ _ ⟨?_, ?_⟩) <;> first | exact zcj (by rw [HE.out]; go_light; grind) | exact M.out.2.1.1)
end Go.Proofs.YtohmldibkojkfaaGreatDoor
end
section
namespace Go.Proofs.YtohmldibkojkfaaGreatDoor
open Go.RowKit
def zgj (n : Net) : List Tr → Bool
 | [] => true
 | t :: ts => if trB n.places t then zgj n ts else false
def zgk (n : Net) : Bool := if n.places < 1 ∨ 40 < n.places ∨ 60 < n.trans.length ∨ n.source < 0 ∨ n.places ≤ n.source ∨ n.sink < 0 ∨ n.places ≤ n.sink then false else zgj n n.trans
theorem zlg (n x : Int) : zcn n [x] = (decide (0 ≤ x) && decide (x < n)) := by
 simp [zcn, badP, gti, List.range_succ]
 grind
theorem zo4 (n : Net) : ∀ l, zd2 n l = (zgj n l && (zcn n.places [n.source] && zcn n.places [n.sink]))
 | [] => by simp [zd2, zgj]
 | t :: ts => by
  simp only [zd2, zgj]
  rw [zo4 n ts]
  cases trB n.places t <;> simp
theorem zo6 (n : Net) : zgk n = zca n := by
 unfold zgk zca
 rw [zo4, zlg, zlg]
 grind
set_option maxHeartbeats 2000000 in
theorem zmy (n : Net) (vt : Value) (lo hi : Nat) (w : World) (hv : RdT w lo hi vt n.trans) :
  Calls Tryz.prog 43 #[netV n vt] w fun e w' => e = .returned (.bool (zca n)) ∧ Below w.heap.size w w' := by
 rw [← zo6]
 obtain ⟨A, c, rfl, hc, hm⟩ := hv.form
 have HV := Lib.hid hv
 clear hv
 refine zas fun R hR => ?_
 have HR := Lib.hid hR
 clear hR
 go_enter Tryz.func43, Tryz.ntmps43
 have M : Hid (Mem [Loc.k4 w.heap.size (.int .i64 n.places) (.slice A n.trans.length c) (.int .i64 n.source) (.int .i64 n.sink), Loc.bl w.heap.size w] (w.alloc (.cells #[.int .i64 n.places, .slice A n.trans.length c, .int .i64 n.source, .int .i64 n.sink] 24))) := Lib.hid ⟨K4.new w _ _ _ _ _, ⟨(Below.refl _ _).alloc (Nat.le_refl _) _, by simp⟩, True.intro⟩
 have hk4 := M.out.1
 go_wp2_with fail
 all_goals (try ((with_reducible refine HR.out _ _ ⟨?_, ?_⟩) <;> first | exact zcj (by go_light; grind [zgk]) | exact M.out.2.1.1))
 have HI : Hid (zgk n = zgj n n.trans) := Lib.hid (by go_light; grind [zgk])
 generalize w.alloc (.cells #[.int .i64 n.places, .slice A n.trans.length c, .int .i64 n.source, .int .i64 n.sink] 24) = W at *
 go_loopw [3, 4] (fun v3 _ wr => ∃ k : Nat, k ≤ n.trans.length ∧ v3 = .int .i64 k ∧ Hid (zgk n = zgj n (n.trans.drop k)) ∧ Hid (Mem [Loc.k4 w.heap.size (.int .i64 n.places) (.slice A n.trans.length c) (.int .i64 n.source) (.int .i64 n.sink), Loc.bl w.heap.size w] wr)) (fun v3 _ _ => n.trans.length - (intOf v3).toNat)
 case atStart => exact ⟨0, by omega, rfl, HI, M⟩
 case round =>
  clear M HI
  obtain ⟨k, hk, rfl, HI, HM⟩ := hrel
  have hk4 := HM.out.1
  by_cases hlt : k < n.trans.length
  ·
   obtain ⟨b, off, vi, vo, rfl, _, _, hcell, hri, hro⟩ := RdT.at3 (HV.out.after HM.out.2.1.1) hlt
   have HD := Lib.hid (zco hlt)
   obtain ⟨Ai, ci, rfl, hci, hmi⟩ := hri.form
   obtain ⟨Ao, co, rfl, hco, hmo⟩ := hro.form
   generalize gti n.trans k = t at *
   obtain ⟨lab, tin, tout⟩ := t
   simp only at hri hro hcell hci hmi hco hmo
   have M : Mem [Loc.k4 w.heap.size (.int .i64 n.places) (.slice (some ⟨b, off, none⟩) n.trans.length c) (.int .i64 n.source) (.int .i64 n.sink), Loc.bl w.heap.size w, Loc.k3 wr.heap.size (.string lab) (.slice Ai tin.length ci) (.slice Ao tout.length co), Loc.rd 1 encI lo hi (.slice Ai tin.length ci) tin, Loc.rd 1 encI lo hi (.slice Ao tout.length co) tout] (wr.alloc (.cells #[.string lab, .slice Ai tin.length ci, .slice Ao tout.length co] 65)) := 
    ⟨K4.aft ((Below.refl _ _).alloc (Nat.le_refl _) _) hk4, ⟨(HM.out.2.1.1).alloc HM.out.2.1.2 _, by have := HM.out.2.1.2; simp; omega⟩, K3.new wr _ _ _ _, Rd.after hri ((Below.refl _ _).alloc (Nat.le_refl _) _), Rd.after hro ((Below.refl _ _).alloc (Nat.le_refl _) _), True.intro⟩
   clear hri hro
   replace M := Lib.hid M
   have hq4 := M.out.1
   have hq3 := M.out.2.2.1
   go_wp2_with (first
    | (go_at_call 71; refine (zlt _ _).mono ?_; rintro e w1 ⟨rfl, hb1⟩; replace M := Lib.hid (M.out.below hb1); clear hb1; replace hq4 := M.out.1; replace hq3 := M.out.2.2.1)
    | (go_at_call 72; refine (zri _ _ lo hi _ _ (by first | exact M.out.2.2.2.1 | exact M.out.2.2.2.2.1)).mono ?_; rintro e w1 ⟨rfl, hb1⟩; replace M := Lib.hid (M.out.below hb1); clear hb1; replace hq4 := M.out.1; replace hq3 := M.out.2.2.1))
   all_goals (have HJ : zgk n = if trB n.places ⟨lab, tin, tout⟩ then zgj n (n.trans.drop (k + 1)) else false := by rw [HI.out, HD.out]; rfl)
   all_goals first
    | ((with_reducible refine HR.out _ _ ⟨?_, ?_⟩) <;> first | exact zcj (by go_light; grind [trB]) | exact M.out.2.1.1)
    | (refine ⟨⟨k + 1, by omega, by go_num, Lib.hid (by go_light; grind [trB]), Lib.hid ⟨M.out.1, M.out.2.1, True.intro⟩⟩, by simp [intOf]; omega⟩)
  ·
   obtain rfl : k = n.trans.length := by omega
   have HE : Hid (zgk n = true) := Lib.hid (by rw [HI.out]; simp [zgj])
   clear HI
   go_wp2_with fail
   all_goals ((with_reducible refine HR.out _ _ ⟨?_, ?_⟩) <;> first | exact zcj (by rw [HE.out]) | exact HM.out.2.1.1)
def zjb : List Int → Bool
 | [] => true
 | k :: l => if k < 0 ∨ 100 < k then false else zjb l
def zdp (n : Net) (m : List Int) : Bool := if (m.length : Int) ≠ n.places then false else zjb m
set_option maxHeartbeats 2000000 in
theorem zjw (n : Net) (vt : Value) (m : List Int) (v : Value) (lo hi : Nat) (w : World) (hv : RdI w lo hi v m) :
  Calls Tryz.prog 118 #[netV n vt, v] w fun e w' => e = .returned (.bool (zdp n m)) ∧ Below w.heap.size w w' := by
 obtain ⟨A, c, rfl, hc, hm⟩ := hv.form
 have HV := Lib.hid hv
 clear hv
 refine zas fun R hR => ?_
 have HR := Lib.hid hR
 clear hR
 go_enter Tryz.func118, Tryz.ntmps118
 have M : Hid (Mem [Loc.k4 w.heap.size (.int .i64 n.places) (vt) (.int .i64 n.source) (.int .i64 n.sink), Loc.bl w.heap.size w] (w.alloc (.cells #[.int .i64 n.places, vt, .int .i64 n.source, .int .i64 n.sink] 24))) := Lib.hid ⟨K4.new w _ _ _ _ _, ⟨(Below.refl _ _).alloc (Nat.le_refl _) _, by simp⟩, True.intro⟩
 have hk4 := M.out.1
 go_wp2_with fail
 all_goals (try ((with_reducible refine HR.out _ _ ⟨?_, ?_⟩) <;> first | exact zcj (by go_light; grind [zdp]) | exact M.out.2.1.1))
 have HI : Hid (zdp n m = zjb m) := Lib.hid (by go_light; grind [zdp])
 generalize w.alloc (.cells #[.int .i64 n.places, vt, .int .i64 n.source, .int .i64 n.sink] 24) = W at *
 go_loop [5] (fun v3 => ∃ k : Nat, k ≤ m.length ∧ v3 = .int .i64 k ∧ Hid (zdp n m = zjb (m.drop k))) (fun v3 => m.length - (intOf v3).toNat)
 case atStart => exact ⟨0, by omega, rfl, HI⟩
 case round =>
  clear HI
  obtain ⟨k, hk, rfl, HI⟩ := hrel
  by_cases hlt : k < m.length
  ·
   obtain ⟨b, off, rfl, _, _, hcell⟩ := RdI.at1 (HV.out.after M.out.2.1.1) hlt
   have HD := Lib.hid (zco hlt)
   generalize gti m k = x at *
   go_wp2_with fail
   all_goals (have HJ : zdp n m = if x < 0 ∨ 100 < x then false else zjb (m.drop (k + 1)) := by rw [HI.out, HD.out]; rfl)
   all_goals first
    | ((with_reducible refine HR.out _ _ ⟨?_, ?_⟩) <;> first | exact zcj (by go_light; grind) | exact M.out.2.1.1)
    | (refine ⟨⟨k + 1, by omega, by go_num, Lib.hid (by go_light; grind)⟩, by simp [intOf]; omega⟩)
  ·
   obtain rfl : k = m.length := by omega
   have HE : Hid (zdp n m = true) := Lib.hid (by rw [HI.out]; simp [zjb])
   clear HI
   go_wp2_with fail
   all_goals ((with_reducible refine HR.out _ _ ⟨?_, ?_⟩) <;> first | exact zcj (by rw [HE.out]) | exact M.out.2.1.1)
end Go.Proofs.YtohmldibkojkfaaGreatDoor
end
section
namespace Go.Proofs.YtohmldibkojkfaaGreatDoor
open Go.RowKit
theorem oneI : ∀ a : Int, ∀ u ∈ encI a, u.oneCell' = true := by intro a u hu; simp at hu; subst hu; rfl
def RetI (w : World) (r : List Int × Int) (e : Ending) (w' : World) : Prop :=
 ∃ A c, e = .returned (.tuple #[.slice A r.1.length c, .int .i64 r.2]) ∧ RdI w' w.heap.size w'.heap.size (.slice A r.1.length c) r.1 ∧ Below w.heap.size w w'
theorem RetI.nil {w w' : World} {r : List Int × Int} {c : Int} (h : r = ([], c)) (hb : Below w.heap.size w w') : RetI w r (.returned (.tuple #[.slice none 0 0, .int .i64 c])) w' := by
 subst h
 exact ⟨none, 0, rfl, Rd.nil _ _ _, hb⟩
theorem RetI.mk {w w' : World} {r : List Int × Int} {l : List Int} {n k : Nat} {A : Option Addr} {c : Int} (h : r = (l, c)) (hn : n = l.length) {lo hi : Nat} (hr : RdI w' lo hi (.slice A n k) l) (hlo : w.heap.size ≤ lo) (hhi : hi ≤ w'.heap.size) (hb : Below w.heap.size w w') : RetI w r (.returned (.tuple #[.slice A n k, .int .i64 c])) w' := by
 subst h hn
 exact ⟨A, k, rfl, hr.mono hlo hhi, hb⟩
def oneL (k : Nat) (p : Int) : List Int := (List.replicate k 0).set p.toNat 1
def oneE (n : Net) (p : Int) : List Int × Int := if zca n then (oneL n.places.toNat p, 0) else ([], 1)
theorem zej {n : Net} (h : zca n = true) : (0 ≤ n.source ∧ n.source < n.places) ∧ (0 ≤ n.sink ∧ n.sink < n.places) := by
 rw [← zo6] at h
 unfold zgk at h
 split at h
 ·
  cases h
 ·
  omega
theorem zbo {n : Net} (h : zca n = true) : 1 ≤ n.places ∧ n.places ≤ 40 ∧ n.trans.length ≤ 60 := by
 unfold zca at h
 split at h
 ·
  cases h
 ·
  omega
theorem zsr {n : Net} {b : Bool} (hb : zca n = b) (vt : Value) (lo hi : Nat) (w : World) (hv : RdT w lo hi vt n.trans) :
  Calls Tryz.prog 73 #[netV n vt] w fun e w' => e = .returned (.bool b) ∧ Below w.heap.size w w' := hb ▸ zkx n vt lo hi w hv
theorem zir {n : Net} {b : Bool} (hb : zca n = b) (vt : Value) (lo hi : Nat) (w : World) (hv : RdT w lo hi vt n.trans) :
  Calls Tryz.prog 43 #[netV n vt] w fun e w' => e = .returned (.bool b) ∧ Below w.heap.size w w' := hb ▸ zmy n vt lo hi w hv
theorem mk_int {x : Int} {k : Nat} (h : x = k) (hk : k ≤ 1000000) : ∀ w : World, (Instr.makeSlice 48 (.int .i64 x) (.int .i64 x)).run Tryz.prog w = .ok (.slice (some ⟨w.heap.size, 0, none⟩) k k) (w.alloc (.cells (madeCells #[.int .i64 0] k) 3)) := by
 intro w
 subst h
 have := z0r zh3 w k (by omega) (by omega)
 rw [Nat.mul_one] at this
 exact this
theorem OwnI.made (W : World) (n : Nat) (hn : n ≤ 1000000) : OwnI (W.alloc (.cells (madeCells #[.int .i64 0] n) 3)) W.heap.size (W.heap.size + 1) (.slice (some ⟨W.heap.size, 0, none⟩) n n) (List.replicate n 0) := by
 have := Own.made (enc := encI) zh3 W W.heap.size n 0 rfl (Nat.le_refl _) (by omega) (fun _ => rfl)
 rw [Nat.mul_one] at this
 exact this
theorem z1p (W : World) (cs : Array Value) (t : TypeId) (k : Nat) (u : Value) : (W.alloc (.cells cs t)).setCell ⟨W.heap.size, k, none⟩ u = W.alloc (.cells (cs.setIfInBounds k u) t) := by
 simp [go_sem]
set_option maxHeartbeats 1000000 in
theorem zwq (n : Net) (p : Int) (vt : Value) (lo hi : Nat) (w : World) (hv : RdT w lo hi vt n.trans) (hp : zca n = true → 0 ≤ p ∧ p < n.places) :
  Calls Tryz.prog 79 #[netV n vt, .int .i64 p] w (RetI w (oneE n p)) := by
 obtain ⟨A, c, rfl, hc, hm⟩ := hv.form
 have HV := Lib.hid hv
 clear hv
 cases hvb : zca n
 ·
  have HVB := Lib.hid hvb
  clear hvb hp
  refine zas fun R hR => ?_
  have HR := Lib.hid hR
  clear hR
  go_enter Tryz.func79, Tryz.ntmps79
  have M : Hid (Mem [Loc.k4 w.heap.size (.int .i64 n.places) (.slice A n.trans.length c) (.int .i64 n.source) (.int .i64 n.sink), Loc.bl w.heap.size w] (w.alloc (.cells #[.int .i64 n.places, .slice A n.trans.length c, .int .i64 n.source, .int .i64 n.sink] 24))) := Lib.hid ⟨K4.new w _ _ _ _ _, ⟨(Below.refl _ _).alloc (Nat.le_refl _) _, by simp⟩, True.intro⟩
  have hk4 := M.out.1
  go_wp2_with (go_at_call 73; refine (zsr HVB.out _ lo hi _ (HV.out.after M.out.2.1.1)).mono ?_; rintro e w1 ⟨rfl, hb1⟩; replace M := Lib.hid (M.out.below hb1); clear hb1; replace hk4 := M.out.1)
  exact HR.out _ _ (RetI.nil (by rw [oneE, HVB.out]; rfl) M.out.2.1.1)
 ·
  have HVB := Lib.hid hvb
  have hpl := zbo hvb
  have hpp := hp hvb
  clear hvb hp
  obtain ⟨np, hnp⟩ : ∃ k : Nat, n.places = k := ⟨n.places.toNat, by omega⟩
  obtain ⟨kp, rfl⟩ : ∃ k : Nat, p = k := ⟨p.toNat, by omega⟩
  have hlt : kp < np := by omega
  have hmk := mk_int hnp (by omega)
  have HNP := Lib.hid hnp
  have hn40 : np ≤ 40 := by omega
  clear hnp hpl hpp
  refine zas fun R hR => ?_
  have HR := Lib.hid hR
  clear hR
  go_enter Tryz.func79, Tryz.ntmps79
  have M : Hid (Mem [Loc.k4 w.heap.size (.int .i64 n.places) (.slice A n.trans.length c) (.int .i64 n.source) (.int .i64 n.sink), Loc.bl w.heap.size w] (w.alloc (.cells #[.int .i64 n.places, .slice A n.trans.length c, .int .i64 n.source, .int .i64 n.sink] 24))) := Lib.hid ⟨K4.new w _ _ _ _ _, ⟨(Below.refl _ _).alloc (Nat.le_refl _) _, by simp⟩, True.intro⟩
  have hk4 := M.out.1
  go_wp2_with (first
   | (go_at_call 73; refine (zsr HVB.out _ lo hi _ (HV.out.after M.out.2.1.1)).mono ?_; rintro e w1 ⟨rfl, hb1⟩; replace M := Lib.hid (M.out.below hb1); clear hb1; replace hk4 := M.out.1; have HO := Lib.hid (OwnI.made w1 np (by omega)); have hat := OwnI.at1 HO.out (k := kp) (by simp; omega)))
  refine HR.out _ _ (RetI.mk (l := oneL np kp) (by simp [oneE, HVB.out, HNP.out]) (by simp [oneL]) (Own.rd (z1p w1 _ _ kp _ ▸ OwnI.set HO.out kp 1)) M.out.2.1.2 (by simp) ?_)
  exact (M.out.2.1.1).alloc M.out.2.1.2 _
set_option maxHeartbeats 400000 in
theorem zgs (n : Net) (vt : Value) (lo hi : Nat) (w : World) (hv : RdT w lo hi vt n.trans) :
  Calls Tryz.prog 50 #[netV n vt] w (RetI w (oneE n n.source)) := by
 have HV := Lib.hid hv
 have HP := Lib.hid (@zej n)
 obtain ⟨A, c, rfl, hc, hm⟩ := hv.form
 clear hv
 refine zas fun R hR => ?_
 have HR := Lib.hid hR
 clear hR
 go_enter Tryz.func50, Tryz.ntmps50
 have M : Hid (Mem [Loc.k4 w.heap.size (.int .i64 n.places) (.slice A n.trans.length c) (.int .i64 n.source) (.int .i64 n.sink), Loc.bl w.heap.size w] (w.alloc (.cells #[.int .i64 n.places, .slice A n.trans.length c, .int .i64 n.source, .int .i64 n.sink] 24))) := Lib.hid ⟨K4.new w _ _ _ _ _, ⟨(Below.refl _ _).alloc (Nat.le_refl _) _, by simp⟩, True.intro⟩
 have hk4 := M.out.1
 go_wp2_with (go_at_call 79; refine (zwq n _ _ lo hi _ (HV.out.after M.out.2.1.1) (fun h => (HP.out h).1)).mono ?_; rintro e w1 ⟨A1, c1, rfl, hr1, hb1⟩; have HR1 := Lib.hid hr1; replace M := Lib.hid (M.out.below hb1); clear hb1 hr1)
 exact HR.out _ _ ⟨_, _, rfl, (HR1.out.mono (by simp) (Nat.le_refl _)), M.out.2.1.1⟩
set_option maxHeartbeats 400000 in
theorem zi2 (n : Net) (vt : Value) (lo hi : Nat) (w : World) (hv : RdT w lo hi vt n.trans) :
  Calls Tryz.prog 51 #[netV n vt] w (RetI w (oneE n n.sink)) := by
 have HV := Lib.hid hv
 have HP := Lib.hid (@zej n)
 obtain ⟨A, c, rfl, hc, hm⟩ := hv.form
 clear hv
 refine zas fun R hR => ?_
 have HR := Lib.hid hR
 clear hR
 go_enter Tryz.func51, Tryz.ntmps51
 have M : Hid (Mem [Loc.k4 w.heap.size (.int .i64 n.places) (.slice A n.trans.length c) (.int .i64 n.source) (.int .i64 n.sink), Loc.bl w.heap.size w] (w.alloc (.cells #[.int .i64 n.places, .slice A n.trans.length c, .int .i64 n.source, .int .i64 n.sink] 24))) := Lib.hid ⟨K4.new w _ _ _ _ _, ⟨(Below.refl _ _).alloc (Nat.le_refl _) _, by simp⟩, True.intro⟩
 have hk4 := M.out.1
 go_wp2_with (go_at_call 79; refine (zwq n _ _ lo hi _ (HV.out.after M.out.2.1.1) (fun h => (HP.out h).2)).mono ?_; rintro e w1 ⟨A1, c1, rfl, hr1, hb1⟩; have HR1 := Lib.hid hr1; replace M := Lib.hid (M.out.below hb1); clear hb1 hr1)
 exact HR.out _ _ ⟨_, _, rfl, (HR1.out.mono (by simp) (Nat.le_refl _)), M.out.2.1.1⟩
def zc9 (n : Net) (m : List Int) : Bool := zca n && zdp n m
theorem zq0 : ∀ m : List Int, zjb m = !m.any fun k => decide (k < 0) || decide (100 < k)
 | [] => rfl
 | k :: l => by
  simp only [zjb, List.any_cons]
  rw [zq0 l]
  grind
theorem zqe : Ent 113 := zdb Tryz.func113 (by kernel_rfl) rfl
set_option maxHeartbeats 400000 in
theorem zpx (k : Int) (w : World) : Calls Tryz.prog 113 #[.int .i64 k] w fun e w' => e = .returned (.bool (decide (k < 0) || decide (100 < k))) ∧ Below w.heap.size w w' := by
 refine zas fun R hR => ?_
 have HR := Lib.hid hR
 clear hR
 go_enter Tryz.func113, Tryz.ntmps113
 go_wp2_with fail
 all_goals (refine HR.out _ _ ⟨zcj ?_, Below.refl _ _⟩ <;> (go_light; grind))
set_option maxHeartbeats 1000000 in
theorem zro (n : Net) (m : List Int) (vt v : Value) (lo hi lo' hi' : Nat) (w : World) (hv : RdT w lo hi vt n.trans) (hm : RdI w lo' hi' v m) :
  Calls Tryz.prog 82 #[netV n vt, v] w fun e w' => e = .returned (.bool (zc9 n m)) ∧ Below w.heap.size w w' := by
 have HC := Lib.hid (fun (W : World) (hW : Below w.heap.size w W) => zew 113 zqe #[] (fun k => decide (k < 0) || decide (100 < k)) m lo' hi' v W (hm.after hW) (fun a _ W _ => zpx a W))
 obtain ⟨A, c, rfl, hc, hmm⟩ := hv.form
 obtain ⟨A2, c2, rfl, hc2, hmm2⟩ := hm.form
 have HV := Lib.hid hv
 clear hv hm
 refine zas fun R hR => ?_
 have HR := Lib.hid hR
 clear hR
 go_enter Tryz.func82, Tryz.ntmps82
 have M : Hid (Mem [Loc.k4 w.heap.size (.int .i64 n.places) (.slice A n.trans.length c) (.int .i64 n.source) (.int .i64 n.sink), Loc.bl w.heap.size w] (w.alloc (.cells #[.int .i64 n.places, .slice A n.trans.length c, .int .i64 n.source, .int .i64 n.sink] 24))) := Lib.hid ⟨K4.new w _ _ _ _ _, ⟨(Below.refl _ _).alloc (Nat.le_refl _) _, by simp⟩, True.intro⟩
 have hk4 := M.out.1
 go_wp2_with (first
  | (go_at_call 73; refine (zkx n _ lo hi _ (HV.out.after M.out.2.1.1)).mono ?_; rintro e w1 ⟨rfl, hb1⟩; replace M := Lib.hid (M.out.below hb1); clear hb1; replace hk4 := M.out.1)
  | (go_at_call 107; refine (HC.out _ M.out.2.1.1).mono ?_; rintro e w1 ⟨rfl, hb1⟩; replace M := Lib.hid (M.out.below hb1); clear hb1; replace hk4 := M.out.1))
 all_goals ((with_reducible refine HR.out _ _ ⟨?_, ?_⟩) <;> first | exact zcj (by go_light; simp only [zc9, zdp, zq0]; grind) | exact M.out.2.1.1)
end Go.Proofs.YtohmldibkojkfaaGreatDoor
end
section
namespace Go.Proofs.YtohmldibkojkfaaGreatDoor
open Go.RowKit
structure Cst where
 log : Int
 model : Int
 silent : Int
abbrev cstV (c : Cst) : Value := .agg #[.int .i64 c.log, .int .i64 c.model, .int .i64 c.silent]
def inB (k : Int) : Bool := decide (0 ≤ k) && decide (k ≤ 1000)
def vcB (c : Cst) : Bool := inB c.log && (inB c.model && inB c.silent)
def zbm (c : Cst) (k : Int) : Int := if k = 2 then c.log else if k = 3 then c.model else if k = 4 then c.silent else 0
theorem zkf {c : Cst} (h : vcB c = true) (k : Int) : 0 ≤ zbm c k ∧ zbm c k ≤ 1000 := by
 unfold vcB inB at h
 simp only [Bool.and_eq_true, decide_eq_true_eq] at h
 unfold zbm
 split
 ·
  omega
 ·
  split
  ·
   omega
  ·
   split <;> omega
def zhm (c : Cst) (l : List Stp) : Nat → Int
 | 0 => 0
 | k + 1 => zhm c l k + zbm c (gti l k).kind
theorem zqs {c : Cst} (h : vcB c = true) (l : List Stp) : ∀ k : Nat, 0 ≤ zhm c l k ∧ zhm c l k ≤ 1000 * k
 | 0 => by simp [zhm]
 | k + 1 => by
  have := zqs h l k
  have := zkf h (gti l k).kind
  simp only [zhm]
  omega
abbrev stpM (m : Stp) : Value := .agg #[.int .i64 m.kind, .int .i64 m.trans, .string m.act]
set_option maxHeartbeats 400000 in
theorem zwk (c : Cst) (m : Stp) (w : World) : Calls Tryz.prog 131 #[cstV c, stpM m] w fun e w' => e = .returned (.int .i64 (zbm c m.kind)) ∧ Below w.heap.size w w' := by
 obtain ⟨kd, tr, ac⟩ := m
 simp only
 refine zas fun R hR => ?_
 have HR := Lib.hid hR
 clear hR
 go_enter Tryz.func131, Tryz.ntmps131
 go_wp2_with fail
 all_goals (refine HR.out _ _ ⟨zek ?_, ?_⟩ <;> first | exact ((Below.refl _ _).alloc (Nat.le_refl _) _).alloc (by simp) _ | (go_light; grind [zbm]))
set_option maxHeartbeats 400000 in
theorem z1j (k : Int) (w : World) : Calls Tryz.prog 89 #[.int .i64 k] w fun e w' => e = .returned (.bool (inB k)) ∧ Below w.heap.size w w' := by
 refine zas fun R hR => ?_
 have HR := Lib.hid hR
 clear hR
 go_enter Tryz.func89, Tryz.ntmps89
 go_wp2_with fail
 all_goals (refine HR.out _ _ ⟨zcj ?_, Below.refl _ _⟩ <;> (go_light; grind [inB]))
set_option maxHeartbeats 400000 in
theorem zh2 (c : Cst) (w : World) : Calls Tryz.prog 63 #[cstV c] w fun e w' => e = .returned (.bool (vcB c)) ∧ Below w.heap.size w w' := by
 have M : Hid (Mem [Loc.k3 w.heap.size (.int .i64 c.log) (.int .i64 c.model) (.int .i64 c.silent), Loc.bl w.heap.size w] (w.alloc (.cells #[.int .i64 c.log, .int .i64 c.model, .int .i64 c.silent] 27))) := Lib.hid ⟨K3.new w _ _ _ _, ⟨(Below.refl _ _).alloc (Nat.le_refl _) _, by simp⟩, True.intro⟩
 have hk3 := M.out.1
 refine zas fun R hR => ?_
 have HR := Lib.hid hR
 clear hR
 go_enter Tryz.func63, Tryz.ntmps63
 go_wp2_with (go_at_call 89; refine (z1j _ _).mono ?_; rintro e w1 ⟨rfl, hb1⟩; replace M := Lib.hid (M.out.below hb1); clear hb1; replace hk3 := M.out.1)
 all_goals ((with_reducible refine HR.out _ _ ⟨?_, ?_⟩) <;> first | exact zcj (by go_light; grind [vcB]) | exact M.out.2.1.1)
theorem zns {c : Cst} {z : Bool} (h : vcB c = z) (w : World) : Calls Tryz.prog 63 #[cstV c] w fun e w' => e = .returned (.bool z) ∧ Below w.heap.size w w' := h ▸ zh2 c w
theorem z2v {l : List Stp} {z : Bool} (h : zmh l = z) (lo hi : Nat) (v : Value) (w : World) (hv : RdM w lo hi v l) :
  Calls Tryz.prog 128 #[v] w fun e w' => e = .returned (.bool z) ∧ Below w.heap.size w w' := h ▸ zzr l lo hi v w hv
theorem zxy : Ent 130 := zdb Tryz.func130 (by kernel_rfl) rfl
set_option maxHeartbeats 400000 in
theorem zx6 (c : Cst) (x : Int) (m : Stp) (g : Nat) (w : World) (hg : K3 w g (.int .i64 c.log) (.int .i64 c.model) (.int .i64 c.silent)) (hx : -9223372036854775808 ≤ x + zbm c m.kind ∧ x + zbm c m.kind ≤ 9223372036854775807) :
  Calls Tryz.prog 130 #[.int .i64 x, stpM m, .pointer (some ⟨g, 0, none⟩)] w fun e w' => e = .returned (.int .i64 (x + zbm c m.kind)) ∧ Below w.heap.size w w' := by
 have M : Hid (Mem [Loc.k3 g (.int .i64 c.log) (.int .i64 c.model) (.int .i64 c.silent), Loc.k3 w.heap.size (.int .i64 m.kind) (.int .i64 m.trans) (.string m.act), Loc.bl w.heap.size w] (w.alloc (.cells #[.int .i64 m.kind, .int .i64 m.trans, .string m.act] 143))) := Lib.hid ⟨K3.aft ((Below.refl _ _).alloc (Nat.le_refl _) _) hg, K3.new w _ _ _ _, ⟨(Below.refl _ _).alloc (Nat.le_refl _) _, by simp⟩, True.intro⟩
 have hk3 := M.out.1
 have hk4 := M.out.2.1
 clear hg
 refine zas fun R hR => ?_
 have HR := Lib.hid hR
 clear hR
 go_enter Tryz.func130, Tryz.ntmps130
 go_wp2_with (go_at_call 131; refine (zwk _ _ _).mono ?_; rintro e w1 ⟨rfl, hb1⟩; replace M := Lib.hid (M.out.below hb1); clear hb1; skip)
 exact HR.out _ _ ⟨zek (by first | rfl | (go_light; omega)), M.out.2.2.1.1⟩
set_option maxHeartbeats 1000000 in
theorem zxl (f : FuncId) (hent : Ent f) (cap : Array Value) (acc : Nat → Int) (l : List Stp) (lo hi : Nat) (v : Value) (w : World) (hv : RdM w lo hi v l)
  (hf : ∀ k, k < l.length → ∀ W, Below w.heap.size w W → Calls Tryz.prog f (#[.int .i64 (acc k), stpM (gti l k)] ++ cap) W fun e W' => e = .returned (.int .i64 (acc (k + 1))) ∧ Below W.heap.size W W') :
  Calls Tryz.prog 129 #[v, .int .i64 (acc 0), .func (.func f) #[] cap] w fun e w' => e = .returned (.int .i64 (acc l.length)) ∧ Below w.heap.size w w' := by
 obtain ⟨A, c, rfl, hc, hm⟩ := hv.form
 unfold Ent at hent
 have HF := Lib.hid hf
 clear hf
 have HV := Lib.hid hv
 clear hv
 have M : Hid (Mem [Loc.bl w.heap.size w] w) := Lib.hid ⟨⟨Below.refl _ _, Nat.le_refl _⟩, True.intro⟩
 refine zas fun R hR => ?_
 have HR := Lib.hid hR
 clear hR
 go_enter Tryz.func129, Tryz.ntmps129
 go_wp2_with fail
 go_loopw [11, 1, 8] (fun v11 v1 _ wr => ∃ k : Nat, k ≤ l.length ∧ v11 = .int .i64 k ∧ v1 = .int .i64 (acc k) ∧ Hid (Mem [Loc.bl w.heap.size w] wr)) (fun v11 _ _ _ => l.length - (intOf v11).toNat)
 case atStart => exact ⟨0, by omega, rfl, rfl, M⟩
 case round =>
  clear M
  obtain ⟨k, hk, rfl, rfl, M⟩ := hrel
  by_cases hlt : k < l.length
  ·
   obtain ⟨b, off, rfl, _, _, hcell⟩ := RdM.at3 (HV.out.after M.out.1.1) hlt
   have HFK := Lib.hid (HF.out k hlt)
   generalize gti l k = x at *
   obtain ⟨kd, tr, ac⟩ := x
   simp only at hcell
   replace M : Hid (Mem [Loc.k3 wr.heap.size (.int .i64 kd) (.int .i64 tr) (.string ac), Loc.bl w.heap.size w] (wr.alloc (.cells #[.int .i64 kd, .int .i64 tr, .string ac] 143))) := Lib.hid ⟨K3.new wr _ _ _ _, M.out.alloc _⟩
   have hk3 := M.out.1
   go_wp2_with fail
   refine (HFK.out _ M.out.2.1.1).mono ?_
   rintro e w1 ⟨rfl, hb1⟩
   replace M := Lib.hid (M.out.below hb1)
   clear hb1
   go_wp2_with fail
   refine ⟨⟨k + 1, by omega, by go_num, rfl, Lib.hid M.out.2⟩, by simp [intOf]; omega⟩
  ·
   obtain rfl : k = l.length := by omega
   go_wp2_with fail
   exact HR.out _ _ ⟨rfl, M.out.1.1⟩
def zqr (c : Cst) (l : List Stp) : Int × Int := if vcB c && zmh l then (zhm c l l.length, 0) else (0, 1)
theorem zxr {l : List Stp} (h : zmh l = true) : l.length ≤ 4000 := by
 unfold zmh at h
 simp only [Bool.and_eq_true, decide_eq_true_eq] at h
 exact h.1
theorem znv {a b c d : Int} (h : (a, b) = (c, d)) : Ending.returned (.tuple #[.int .i64 a, .int .i64 b]) = .returned (.tuple #[.int .i64 c, .int .i64 d]) := by
 injection h with h1 h2; rw [h1, h2]
set_option maxHeartbeats 1000000 in
theorem z0f (c : Cst) (l : List Stp) (lo hi : Nat) (v : Value) (w : World) (hv : RdM w lo hi v l) :
  Calls Tryz.prog 97 #[cstV c, v] w fun e w' => e = .returned (.tuple #[.int .i64 (zqr c l).1, .int .i64 (zqr c l).2]) ∧ Below w.heap.size w w' := by
 have HV := Lib.hid hv
 obtain ⟨A, cc, rfl, hc, hm⟩ := hv.form
 clear hv
 obtain ⟨z, hz⟩ : ∃ z, vcB c = z := ⟨_, rfl⟩
 obtain ⟨y, hy⟩ : ∃ y, zmh l = y := ⟨_, rfl⟩
 have HZ := Lib.hid hz
 have HY := Lib.hid hy
 have HCE : Hid (zqr c l = if z && y then (zhm c l l.length, 0) else (0, 1)) := Lib.hid (by rw [zqr, hz, hy])
 clear hz hy
 have M : Hid (Mem [Loc.k3 w.heap.size (.int .i64 c.log) (.int .i64 c.model) (.int .i64 c.silent), Loc.bl w.heap.size w] (w.alloc (.cells #[.int .i64 c.log, .int .i64 c.model, .int .i64 c.silent] 27))) := Lib.hid ⟨K3.new w _ _ _ _, ⟨(Below.refl _ _).alloc (Nat.le_refl _) _, by simp⟩, True.intro⟩
 cases z <;> cases y
 all_goals
  refine zas fun R hR => ?_
  have HR := Lib.hid hR
  clear hR
  go_enter Tryz.func97, Tryz.ntmps97
  have hk3 := M.out.1
  go_wp2_with (first
   | (go_at_call 63; refine (zns HZ.out _).mono ?_; rintro e w1 ⟨rfl, hb1⟩; replace M := Lib.hid (M.out.below hb1); clear hb1; replace hk3 := M.out.1)
   | (go_at_call 128; refine (z2v HY.out lo hi _ _ (HV.out.after M.out.2.1.1)).mono ?_; rintro e w1 ⟨rfl, hb1⟩; replace M := Lib.hid (M.out.below hb1); clear hb1; replace hk3 := M.out.1)
   | (go_at_call 129; refine (zxl 130 zxy #[.pointer (some ⟨w.heap.size, 0, none⟩)] (zhm c l) l lo hi _ _ (HV.out.after M.out.2.1.1) (fun k hk W hW => zx6 c _ _ _ W (K3.aft hW M.out.1) (by have h1 := zqs HZ.out l k; have h2 := zkf HZ.out (gti l k).kind; have h3 := zxr HY.out; omega))).mono ?_; rintro e w1 ⟨rfl, hb1⟩; replace M := Lib.hid (M.out.below hb1); clear hb1; skip))
 ·
  exact HR.out _ _ ⟨znv (by rw [HCE.out]; rfl), M.out.2.1.1⟩
 ·
  exact HR.out _ _ ⟨znv (by rw [HCE.out]; rfl), M.out.2.1.1⟩
 ·
  exact HR.out _ _ ⟨znv (by rw [HCE.out]; rfl), M.out.2.1.1⟩
 ·
  exact HR.out _ _ ⟨znv (by rw [HCE.out]; rfl), M.out.2.1.1⟩
end Go.Proofs.YtohmldibkojkfaaGreatDoor
end
section
namespace Go.Proofs.YtohmldibkojkfaaGreatDoor
open Go.RowKit
def insB (back : Bool) (t : Tr) : List Int := if back then t.out else t.inn
def zfd (back : Bool) (t : Tr) : List Int := if back then t.inn else t.out
inductive Rch (n : Net) (back : Bool) (s : Int) : Int → Prop
 | start : Rch n back s s
 | step {i : Nat} {p q : Int} : i < n.trans.length → p ∈ insB back (gti n.trans i) → Rch n back s p → q ∈ zfd back (gti n.trans i) → Rch n back s q
def RchT (n : Net) (back : Bool) (s : Int) (i : Nat) : Prop := ∃ p ∈ insB back (gti n.trans i), Rch n back s p
def zr8 (n : Net) (back : Bool) : Int := if back then n.sink else n.source
structure Wf (n : Net) : Prop where
 valid : zca n = true
 ne : n.source ≠ n.sink
 no : ∀ i, i < n.trans.length → n.source ∉ (gti n.trans i).out ∧ n.sink ∉ (gti n.trans i).inn
 places : ∀ back, ∀ p : Nat, p < n.places.toNat → Rch n back (zr8 n back) p
 trans : ∀ back, ∀ i, i < n.trans.length → RchT n back (zr8 n back) i
open Classical in
noncomputable def wfB (n : Net) : Bool := decide (Wf n)
open Classical in
theorem zka {n : Net} (h : Wf n) : wfB n = true := by unfold wfB; exact decide_eq_true h
open Classical in
theorem zdi {n : Net} (h : ¬ Wf n) : wfB n = false := by unfold wfB; exact decide_eq_false h
open Classical in
theorem zvf {n : Net} (h : wfB n = true) : Wf n := by unfold wfB at h; exact of_decide_eq_true h
theorem zjz {n : Int} {l : List Int} (h : zcn n l = true) {p : Int} (hp : p ∈ l) : 0 ≤ p ∧ p < n := by
 unfold zcn at h
 simp only [List.all_eq_true, List.mem_range] at h
 obtain ⟨k, hk, rfl⟩ := List.getElem_of_mem hp
 have h2 := h k hk
 have this : ¬ badP n l k := by simpa using h2
 unfold badP at this
 have e : gti l k = l[k] := by unfold gti; rw [List.getElem?_eq_getElem hk]; rfl
 rw [e] at this
 omega
theorem zo5 {n : Net} : ∀ {l : List Tr} {i : Nat}, zd2 n l = true → i < l.length → trB n.places (gti l i) = true
 | [], i, _, h => by simp at h
 | t :: ts, i, hv, h => by
  rw [zd2] at hv
  cases i with
  | zero => simp only [gti, List.getElem?_cons_zero, Option.getD_some]; revert hv; split <;> simp_all
  | succ i =>
   have h2 : zd2 n ts = true := by revert hv; split <;> simp_all
   have := zo5 h2 (i := i) (by simpa using h)
   simpa [gti] using this
def setB (pl : List Bool) : List Int → List Bool
 | [] => pl
 | q :: l => setB (pl.set q.toNat true) l
theorem zkd : ∀ (l : List Int) (pl : List Bool), (setB pl l).length = pl.length
 | [], pl => rfl
 | q :: l, pl => by rw [setB, zkd l]; simp
theorem zkl (pl : List Bool) (i j : Nat) (x : Bool) : gti (pl.set i x) j = if i = j ∧ j < pl.length then x else gti pl j := by
 unfold gti
 rw [List.getElem?_set]
 by_cases h : i = j
 ·
  subst h
  by_cases h2 : i < pl.length
  ·
   simp [h2]
  ·
   simp [h2, List.getElem?_eq_none (Nat.le_of_not_lt h2)]
 ·
  simp [h]
theorem zfw : ∀ (l : List Int) (pl : List Bool) (j : Nat), j < pl.length → (gti (setB pl l) j = true ↔ gti pl j = true ∨ ∃ q ∈ l, q.toNat = j)
 | [], pl, j, _ => by simp [setB]
 | q :: l, pl, j, h => by
  rw [setB, zfw l _ j (by simpa using h), zkl]
  by_cases hq : q.toNat = j
  ·
   simp [hq, h]
  ·
   simp [hq]
structure RI (n : Net) (back : Bool) (s : Int) (pl tl : List Bool) : Prop where
 lenp : pl.length = n.places.toNat
 lent : tl.length = n.trans.length
 start : gti pl s.toNat = true
 sp : ∀ p : Nat, p < pl.length → gti pl p = true → Rch n back s p
 st : ∀ i, i < tl.length → gti tl i = true → RchT n back s i ∧ ∀ q ∈ zfd back (gti n.trans i), gti pl q.toNat = true
def Plc (n : Net) : Prop := ∀ i, i < n.trans.length → ∀ back, ∀ q ∈ insB back (gti n.trans i), 0 ≤ q ∧ q < n.places
theorem Plc.out {n : Net} (h : Plc n) {i : Nat} (hi : i < n.trans.length) (back : Bool) : ∀ q ∈ zfd back (gti n.trans i), 0 ≤ q ∧ q < n.places := by
 intro q hq
 refine h i hi (!back) q ?_
 cases back <;> exact hq
theorem Plc.of {n : Net} (h : zca n = true) : Plc n := by
 unfold zca at h
 split at h
 ·
  cases h
 ·
  intro i hi back q hq
  have := zo5 h hi
  unfold trB at this
  simp only [Bool.and_eq_true] at this
  cases back
  ·
   exact zjz this.1.2 hq
  ·
   exact zjz this.2 hq
theorem RI.init {n : Net} {back : Bool} {s : Int} (h0 : 0 ≤ s) (h1 : s < n.places) : RI n back s ((List.replicate n.places.toNat false).set s.toNat true) (List.replicate n.trans.length false) := by
 refine ⟨by simp, by simp, ?_, ?_, ?_⟩
 ·
  rw [zkl, if_pos ⟨rfl, by simp; omega⟩]
 ·
  intro p hp hg
  rw [zkl] at hg
  split at hg
  ·
   rename_i h
   have : (p : Int) = s := by omega
   rw [this]
   exact .start
  ·
   unfold gti at hg
   rw [List.getElem?_replicate] at hg
   split at hg <;> simp at hg
 ·
  intro i hi hg
  unfold gti at hg
  rw [List.getElem?_replicate] at hg
  split at hg <;> simp at hg
theorem RI.add {n : Net} {back : Bool} {s : Int} {pl tl : List Bool} (h : RI n back s pl tl) (hp : Plc n) {i : Nat} (hi : i < n.trans.length) {p : Int} (hin : p ∈ insB back (gti n.trans i)) (hg : gti pl p.toNat = true) :
  RI n back s (setB pl (zfd back (gti n.trans i))) (tl.set i true) := by
 have hpb := hp i hi back p hin
 have hrp : Rch n back s p := by
  have := h.sp p.toNat (by rw [h.lenp]; omega) hg
  rwa [Int.toNat_of_nonneg hpb.1] at this
 have mono : ∀ j, gti pl j = true → gti (setB pl (zfd back (gti n.trans i))) j = true := by
  intro j hj
  by_cases hl : j < pl.length
  ·
   rw [zfw _ _ _ hl]; exact .inl hj
  ·
   unfold gti at hj
   rw [List.getElem?_eq_none (by omega)] at hj
   cases hj
 refine ⟨by rw [zkd]; exact h.lenp, by simpa using h.lent, mono _ h.start, ?_, ?_⟩
 ·
  intro j hj hgj
  rw [zkd] at hj
  rw [zfw _ _ _ hj] at hgj
  rcases hgj with hgj | ⟨q, hq, rfl⟩
  ·
   exact h.sp j hj hgj
  ·
   rw [Int.toNat_of_nonneg (hp.out hi back q hq).1]
   exact .step hi hin hrp hq
 ·
  intro j hj hgj
  rw [zkl] at hgj
  split at hgj
  ·
   rename_i he
   obtain rfl := he.1
   refine ⟨⟨p, hin, hrp⟩, fun q hq => ?_⟩
   rw [zfw _ _ _ (by have := hp.out hi back q hq; rw [h.lenp]; omega)]
   exact .inr ⟨q, hq, rfl⟩
  ·
   obtain ⟨h1, h2⟩ := h.st j (by simpa using hj) hgj
   exact ⟨h1, fun q hq => mono _ (h2 q hq)⟩
structure RF (n : Net) (back : Bool) (s : Int) (pl tl : List Bool) : Prop where
 lenp : pl.length = n.places.toNat
 lent : tl.length = n.trans.length
 p : ∀ p : Nat, p < n.places.toNat → (gti pl p = true ↔ Rch n back s p)
 t : ∀ i, i < n.trans.length → (gti tl i = true ↔ RchT n back s i)
theorem RI.done {n : Net} {back : Bool} {s : Int} {pl tl : List Bool} (h : RI n back s pl tl) (hp : Plc n) (h0 : 0 ≤ s) (h1 : s < n.places) (hc : ∀ i, i < n.trans.length → gti tl i = false → ∀ p ∈ insB back (gti n.trans i), gti pl p.toNat = false) : RF n back s pl tl := by
 have key : ∀ p, Rch n back s p → 0 ≤ p ∧ gti pl p.toNat = true := by
  intro p hr
  induction hr with
  | start => exact ⟨h0, h.start⟩
  | @step i p q hi hin _ hq ih =>
   refine ⟨(hp.out hi back q hq).1, ?_⟩
   have ht : gti tl i = true := by
    cases hz : gti tl i with
    | true => rfl
    | false => have := hc i hi hz p hin; rw [ih.2] at this; cases this
   exact (h.st i (by rw [h.lent]; exact hi) ht).2 q hq
 refine ⟨h.lenp, h.lent, fun p hpl => ⟨fun hg => h.sp p (by rw [h.lenp]; exact hpl) hg, fun hr => by simpa using (key p hr).2⟩, fun i hi => ⟨fun hg => (h.st i (by rw [h.lent]; exact hi) hg).1, fun ⟨p, hin, hr⟩ => ?_⟩⟩
 cases hz : gti tl i with
 | true => rfl
 | false => have := hc i hi hz p hin; rw [(key p hr).2] at this; cases this
def cntF (l : List Bool) : Nat := (l.filter fun x => !x).length
theorem zt7 : ∀ {l : List Bool} {i : Nat}, i < l.length → gti l i = false → cntF (l.set i true) + 1 = cntF l
 | [], i, h, _ => by simp at h
 | x :: l, i, h, hg => by
  cases i with
  | zero =>
   simp only [gti, List.getElem?_cons_zero, Option.getD_some] at hg
   subst hg
   simp [cntF]
  | succ i =>
   have h1 : i < l.length := by simpa using h
   have h2 : gti l i = false := by simpa [gti] using hg
   have := zt7 h1 h2
   cases x <;> simp_all [cntF]
theorem zqy {l : List Bool} (h : false ∉ l) {i : Nat} (hi : i < l.length) : gti l i = true := by
 unfold gti
 rw [List.getElem?_eq_getElem hi]
 cases hz : l[i] with
 | true => rfl
 | false => exact absurd (hz ▸ List.getElem_mem hi) h
theorem zua {l : List Bool} (h : ∀ i, i < l.length → gti l i = true) : false ∉ l := by
 intro hm
 obtain ⟨i, hi, he⟩ := List.getElem_of_mem hm
 have := h i hi
 unfold gti at this
 rw [List.getElem?_eq_getElem hi] at this
 rw [he] at this
 cases this
end Go.Proofs.YtohmldibkojkfaaGreatDoor
end
section
namespace Go.Proofs.YtohmldibkojkfaaGreatDoor
open Go.RowKit
abbrev encO (x : Bool) : List Value := [.bool x]
abbrev RdO := Rd 1 encO
abbrev OwnO := Own 4 1 encO
abbrev Loc.owO (lo hi : Nat) (v : Value) (l : List Bool) : Loc := Loc.ow 4 1 encO lo hi v l
theorem zvn : TI 107 4 1 1 (.bool false) := TI.mk Tryz.underlying107 (by kernel_rfl) rfl (by decide)
theorem RdO.at1 {w : World} {lo hi : Nat} {A : Option Addr} {c : Nat} {l : List Bool} (h : RdO w lo hi (.slice A l.length c) l) {k : Nat} (hk : k < l.length) :
  ∃ b off, A = some ⟨b, off, none⟩ ∧ lo ≤ b ∧ b < hi ∧ C1 w b (off + k) (.bool (gti l k)) := by
 obtain ⟨b, off, hA, h1, h2, hc⟩ := Rd.at_ h (fun _ => rfl) (zbn hk)
 exact ⟨b, off, hA, h1, h2, by have := hc 0 _ rfl; rw [Nat.mul_one] at this; exact this⟩
theorem OwnO.at1 {w : World} {lo hi g n cap : Nat} {l : List Bool} (h : OwnO w lo hi (.slice (some ⟨g, 0, none⟩) n cap) l) {k : Nat} (hk : k < l.length) :
  w.cell? ⟨g, k, none⟩ = some (.bool (gti l k)) ∧ w.frozen? ⟨g, k, none⟩ = false := by
 have := Own.cell h (fun _ => rfl) (zbn hk) (j := 0) (u := .bool (gti l k)) rfl
 simpa using this
theorem OwnO.set {w : World} {lo hi g n cap : Nat} {l : List Bool} (h : OwnO w lo hi (.slice (some ⟨g, 0, none⟩) n cap) l) (k : Nat) (x : Bool) :
  OwnO (w.setCell ⟨g, k, none⟩ (.bool x)) lo hi (.slice (some ⟨g, 0, none⟩) n cap) (l.set k x) := Own.set1 h (fun _ => rfl) rfl
theorem zww {x : Int} {k : Nat} (h : x = k) (hk : k ≤ 1000000) : ∀ w : World, (Instr.makeSlice 107 (.int .i64 x) (.int .i64 x)).run Tryz.prog w = .ok (.slice (some ⟨w.heap.size, 0, none⟩) k k) (w.alloc (.cells (madeCells #[.bool false] k) 4)) := by
 intro w
 subst h
 have := z0r zvn w k (by omega) (by omega)
 rw [Nat.mul_one] at this
 exact this
theorem OwnO.made (W : World) (n : Nat) (hn : n ≤ 1000000) : OwnO (W.alloc (.cells (madeCells #[.bool false] n) 4)) W.heap.size (W.heap.size + 1) (.slice (some ⟨W.heap.size, 0, none⟩) n n) (List.replicate n false) := by
 have := Own.made (enc := encO) zvn W W.heap.size n false rfl (Nat.le_refl _) (by omega) (fun _ => rfl)
 rw [Nat.mul_one] at this
 exact this
def idxG {α : Type} [DecidableEq α] (x : α) : Nat → List α → Int
 | _, [] => -1
 | k, a :: l => if x = a then (k : Int) else idxG x (k + 1) l
theorem zr0 {α : Type} [DecidableEq α] (x : α) : ∀ (l : List α) (k : Nat), decide (0 ≤ idxG x k l) = decide (x ∈ l)
 | [], k => by simp [idxG]
 | a :: l, k => by
  have ih := zr0 x l (k + 1)
  rw [idxG]
  by_cases h : x = a
  ·
   rw [if_pos h]
   simp [h]
  ·
   rw [if_neg h, ih]
   simp [h]
theorem dropG {α : Type} [Inhabited α] {l : List α} {k : Nat} (h : k < l.length) : l.drop k = gti l k :: l.drop (k + 1) := by
 rw [List.drop_eq_getElem_cons h]
 congr 1
 unfold gti
 rw [List.getElem?_eq_getElem h]
 rfl
set_option maxHeartbeats 1000000 in
theorem zuz (x : Int) (l : List Int) (lo hi : Nat) (v : Value) (w : World) (hv : RdI w lo hi v l) :
  Calls Tryz.prog 106 #[v, .int .i64 x] w fun e w' => e = .returned (.int .i64 (idxG x 0 l)) ∧ Below w.heap.size w w' := by
 obtain ⟨A, c, rfl, hc, hm⟩ := hv.form
 have HV := Lib.hid hv
 clear hv
 refine zas fun R hR => ?_
 have HR := Lib.hid hR
 clear hR
 go_enter Tryz.func106, Tryz.ntmps106
 go_wp2_with fail
 go_loopw [8, 5] (fun v8 _ wr => ∃ (k q : Nat), k ≤ l.length ∧ v8 = .int .i64 k ∧ wr = w.drewN q ∧ Hid (idxG x 0 l = idxG x k (l.drop k))) (fun v8 _ _ => l.length - (intOf v8).toNat)
 case atStart => exact ⟨0, 0, by omega, rfl, rfl, Lib.hid rfl⟩
 case round =>
  obtain ⟨k, q, hk, rfl, rfl, HI⟩ := hrel
  by_cases hlt : k < l.length
  ·
   have hkd : decide ((k : Int) < (l.length : Int)) = true := by simp; omega
   have hkb : (k : Int) < (l.length : Int) := by omega
   obtain ⟨b1, o1, rfl, _, _, f1⟩ := RdI.at1 HV.out hlt
   have HJ : Hid (idxG x 0 l = if x = gti l k then (k : Int) else idxG x (k + 1) (l.drop (k + 1))) := Lib.hid (by rw [HI.out, dropG hlt, idxG])
   generalize gti l k = y at *
   go_wp2
   all_goals have hj := HJ.out
   ·
    refine HR.out _ _ ⟨zek ?_, below_drewN (Below.refl _ _) _⟩
    clear HJ HI; go_light; grind
   ·
    refine ⟨⟨k + 1, q, by omega, by go_num, by first | rfl | (rw [World.drewN_drewN]), Lib.hid (by clear HJ HI; go_light; grind)⟩, by simp [intOf]; omega⟩
  ·
   have hkd : decide ((k : Int) < (l.length : Int)) = false := by simp; omega
   have HE : Hid (idxG x 0 l = -1) := Lib.hid (by rw [HI.out, List.drop_eq_nil_of_le (by omega)]; rfl)
   clear HI
   go_wp2
   exact HR.out _ _ ⟨zek HE.out.symm, below_drewN (Below.refl _ _) _⟩
set_option maxHeartbeats 400000 in
theorem zoo (x : Int) (l : List Int) (lo hi : Nat) (v : Value) (w : World) (hv : RdI w lo hi v l) :
  Calls Tryz.prog 74 #[v, .int .i64 x] w fun e w' => e = .returned (.bool (decide (x ∈ l))) ∧ Below w.heap.size w w' := by
 have HI := Lib.hid (zr0 x l 0)
 have HV := Lib.hid hv
 clear hv
 have M : Hid (Mem [Loc.bl w.heap.size w] w) := Lib.hid ⟨⟨Below.refl _ _, Nat.le_refl _⟩, True.intro⟩
 refine zas fun R hR => ?_
 have HR := Lib.hid hR
 clear hR
 go_enter Tryz.func74, Tryz.ntmps74
 go_wp2_with (go_at_call 106; refine (zuz x l lo hi _ _ (HV.out.after M.out.1.1)).mono ?_; rintro e w1 ⟨rfl, hb1⟩; replace M := Lib.hid (M.out.below hb1); clear hb1; skip)
 exact HR.out _ _ ⟨zcj HI.out, M.out.1.1⟩
set_option maxHeartbeats 1000000 in
theorem zuy (x : Bool) (l : List Bool) (lo hi : Nat) (v : Value) (w : World) (hv : RdO w lo hi v l) :
  Calls Tryz.prog 109 #[v, .bool x] w fun e w' => e = .returned (.int .i64 (idxG x 0 l)) ∧ Below w.heap.size w w' := by
 obtain ⟨A, c, rfl, hc, hm⟩ := hv.form
 have HV := Lib.hid hv
 clear hv
 refine zas fun R hR => ?_
 have HR := Lib.hid hR
 clear hR
 go_enter Tryz.func109, Tryz.ntmps109
 go_wp2_with fail
 go_loopw [8, 5] (fun v8 _ wr => ∃ (k q : Nat), k ≤ l.length ∧ v8 = .int .i64 k ∧ wr = w.drewN q ∧ Hid (idxG x 0 l = idxG x k (l.drop k))) (fun v8 _ _ => l.length - (intOf v8).toNat)
 case atStart => exact ⟨0, 0, by omega, rfl, rfl, Lib.hid rfl⟩
 case round =>
  obtain ⟨k, q, hk, rfl, rfl, HI⟩ := hrel
  by_cases hlt : k < l.length
  ·
   have hkd : decide ((k : Int) < (l.length : Int)) = true := by simp; omega
   have hkb : (k : Int) < (l.length : Int) := by omega
   obtain ⟨b1, o1, rfl, _, _, f1⟩ := RdO.at1 HV.out hlt
   have HJ : Hid (idxG x 0 l = if x = gti l k then (k : Int) else idxG x (k + 1) (l.drop (k + 1))) := Lib.hid (by rw [HI.out, dropG hlt, idxG])
   generalize gti l k = y at *
   go_wp2
   all_goals have hj := HJ.out
   ·
    refine HR.out _ _ ⟨zek ?_, below_drewN (Below.refl _ _) _⟩
    clear HJ HI; go_light; grind
   ·
    refine ⟨⟨k + 1, q, by omega, by go_num, by first | rfl | (rw [World.drewN_drewN]), Lib.hid (by clear HJ HI; go_light; grind)⟩, by simp [intOf]; omega⟩
  ·
   have hkd : decide ((k : Int) < (l.length : Int)) = false := by simp; omega
   have HE : Hid (idxG x 0 l = -1) := Lib.hid (by rw [HI.out, List.drop_eq_nil_of_le (by omega)]; rfl)
   clear HI
   go_wp2
   exact HR.out _ _ ⟨zek HE.out.symm, below_drewN (Below.refl _ _) _⟩
set_option maxHeartbeats 400000 in
theorem zon (x : Bool) (l : List Bool) (lo hi : Nat) (v : Value) (w : World) (hv : RdO w lo hi v l) :
  Calls Tryz.prog 76 #[v, .bool x] w fun e w' => e = .returned (.bool (decide (x ∈ l))) ∧ Below w.heap.size w w' := by
 have HI := Lib.hid (zr0 x l 0)
 have HV := Lib.hid hv
 clear hv
 have M : Hid (Mem [Loc.bl w.heap.size w] w) := Lib.hid ⟨⟨Below.refl _ _, Nat.le_refl _⟩, True.intro⟩
 refine zas fun R hR => ?_
 have HR := Lib.hid hR
 clear hR
 go_enter Tryz.func76, Tryz.ntmps76
 go_wp2_with (go_at_call 109; refine (zuy x l lo hi _ _ (HV.out.after M.out.1.1)).mono ?_; rintro e w1 ⟨rfl, hb1⟩; replace M := Lib.hid (M.out.below hb1); clear hb1; skip)
 exact HR.out _ _ ⟨zcj HI.out, M.out.1.1⟩
end Go.Proofs.YtohmldibkojkfaaGreatDoor
end
section
namespace Go.Proofs.YtohmldibkojkfaaGreatDoor
open Go.RowKit
theorem zoq {w W : World} {b o : Nat} {x : Value} (hb : Below w.heap.size w W) (h : w.cell? ⟨b, o, none⟩ = some x) : W.cell? ⟨b, o, none⟩ = some x := (World.cell?_of_block (hb.block b (World.block_lt_of_cell? _ _ h))).trans h
theorem C3.aft3 {w W : World} {b o : Nat} {x y z : Value} (hb : Below w.heap.size w W) (h : C3 w b o x y z) : C3 W b o x y z := ⟨zoq hb h.1, zoq hb h.2.1, zoq hb h.2.2⟩
theorem zj4 : Ent 108 := zdb Tryz.func108 (by kernel_rfl) rfl
set_option maxHeartbeats 400000 in
theorem zjx (pl : List Bool) (p : Int) (gc gp lo hi n cap : Nat) (w : World) (hc : C1 w gc 0 (.slice (some ⟨gp, 0, none⟩) pl.length cap)) (hv : OwnO w lo hi (.slice (some ⟨gp, 0, none⟩) pl.length cap) pl) (h0 : 0 ≤ p) (h1 : p < pl.length) :
  Calls Tryz.prog 108 #[.int .i64 p, .pointer (some ⟨gc, 0, none⟩)] w fun e w' => e = .returned (.bool (gti pl p.toNat)) ∧ Below w.heap.size w w' := by
 obtain ⟨k, rfl⟩ : ∃ k : Nat, p = k := ⟨p.toNat, by omega⟩
 have hk := OwnO.at1 hv (k := k) (by omega)
 clear hv
 refine zas fun R hR => ?_
 have HR := Lib.hid hR
 clear hR
 go_enter Tryz.func108, Tryz.ntmps108
 go_wp2_with fail
 exact HR.out _ _ ⟨by simp, Below.refl _ _⟩
theorem zff {w : World} {o : Obj} {g : Nat} (h : g = w.heap.size) : (w.alloc o).heap[g]? = some o := by
 subst h
 show (w.heap.push o)[w.heap.size]? = some o
 simp
theorem zfe {w : World} {o : Obj} {g : Nat} {x : Option Obj} (h : g < w.heap.size) (hx : w.heap[g]? = x) : (w.alloc o).heap[g]? = x := by
 rw [← hx]
 show (w.heap.push o)[g]? = w.heap[g]?
 rw [Array.getElem?_push, if_neg (Nat.ne_of_lt h)]
theorem zec (w : World) : w.drew.heap = w.heap := rfl
theorem zpr {W : World} {g n : Nat} (hn : n ≤ 1000000) (h : W.heap[g]? = some (.cells (madeCells #[.bool false] n) 4 (0, 0))) : OwnO W g (g + 1) (.slice (some ⟨g, 0, none⟩) n n) (List.replicate n false) := by
 have hl := ztf (enc := encO) (z := .bool false) (size := 1) false rfl rfl (by decide) n
 rw [Nat.mul_one] at hl
 have e : (Value.bool false).cells = #[.bool false] := rfl
 rw [e] at hl
 refine ⟨⟨?_, .inr ⟨g, n, _, ?_, Nat.le_refl _, h, by simp, by unfold maxLen; omega, ?_, ?_⟩⟩, fun k hk => ?_⟩
 ·
  simp
 ·
  simp
 ·
  rw [size_madeCells, Nat.mul_one]
 ·
  rw [hl]
  exact List.take_of_length_le (by rw [zcw (size := 1) (fun _ => rfl)]; exact Nat.le_refl _)
 ·
  have : g = k := by simpa [Value.ownBlock] using hk
  omega
abbrev rchL (w0 : World) (n : Net) (vt : Value) (np nt gc gp gt : Nat) (pl tl : List Bool) : List Loc :=
 [Loc.c1 gc 0 (.slice (some ⟨gp, 0, none⟩) np np), Loc.owO gp (gp + 1) (.slice (some ⟨gp, 0, none⟩) np np) pl, Loc.owO gt (gt + 1) (.slice (some ⟨gt, 0, none⟩) nt nt) tl, Loc.k4 w0.heap.size (.int .i64 n.places) (vt) (.int .i64 n.source) (.int .i64 n.sink), Loc.bl w0.heap.size w0]
theorem z0u {w0 W : World} {n : Net} {vt : Value} {np nt gc gp gt : Nat} {pl tl : List Bool} (h : Mem (rchL w0 n vt np nt gc gp gt pl tl) W) (h1 : gc ≠ gp) (h3 : gp ≠ gt) (h5 : w0.heap.size < gp) (k : Nat) :
  Mem (rchL w0 n vt np nt gc gp gt (pl.set k true) tl) (W.setCell ⟨gp, k, none⟩ (.bool true)) := by
 have hr : Mem [Loc.c1 gc 0 (.slice (some ⟨gp, 0, none⟩) np np), Loc.owO gt (gt + 1) (.slice (some ⟨gt, 0, none⟩) nt nt) tl, Loc.k4 w0.heap.size (.int .i64 n.places) (vt) (.int .i64 n.source) (.int .i64 n.sink), Loc.bl w0.heap.size w0] (W.setCell ⟨gp, k, none⟩ (.bool true)) := Mem.set (g := gp) ⟨h.1, h.2.2.1, h.2.2.2.1, h.2.2.2.2⟩ (by (repeat' (first | exact True.intro | refine And.intro (fun k hk e => ?_) ?_)) <;> (first | exact e | ((try dsimp only [Loc.c1, Loc.c2, Loc.k1, Loc.k2, Loc.k3, Loc.k4, Loc.k6, Loc.fr, Loc.bl, Loc.own, Loc.sz, Loc.rd, Loc.rdI, Loc.rdS, Loc.rdM, Loc.rdT, Loc.ow, Loc.owI] at hk e) <;> omega)))
 exact ⟨hr.1, OwnO.set h.2.1 k true, hr.2.1, hr.2.2.1, hr.2.2.2⟩
theorem rchL_t {w0 W : World} {n : Net} {vt : Value} {np nt gc gp gt : Nat} {pl tl : List Bool} (h : Mem (rchL w0 n vt np nt gc gp gt pl tl) W) (h1 : gc ≠ gt) (h3 : gp ≠ gt) (h5 : w0.heap.size < gt) (k : Nat) :
  Mem (rchL w0 n vt np nt gc gp gt pl (tl.set k true)) (W.setCell ⟨gt, k, none⟩ (.bool true)) := by
 have hr : Mem [Loc.c1 gc 0 (.slice (some ⟨gp, 0, none⟩) np np), Loc.owO gp (gp + 1) (.slice (some ⟨gp, 0, none⟩) np np) pl, Loc.k4 w0.heap.size (.int .i64 n.places) (vt) (.int .i64 n.source) (.int .i64 n.sink), Loc.bl w0.heap.size w0] (W.setCell ⟨gt, k, none⟩ (.bool true)) := Mem.set (g := gt) ⟨h.1, h.2.1, h.2.2.2.1, h.2.2.2.2⟩ (by (repeat' (first | exact True.intro | refine And.intro (fun k hk e => ?_) ?_)) <;> (first | exact e | ((try dsimp only [Loc.c1, Loc.c2, Loc.k1, Loc.k2, Loc.k3, Loc.k4, Loc.k6, Loc.fr, Loc.bl, Loc.own, Loc.sz, Loc.rd, Loc.rdI, Loc.rdS, Loc.rdM, Loc.rdT, Loc.ow, Loc.owI] at hk e) <;> omega)))
 exact ⟨hr.1, hr.2.1, OwnO.set h.2.2.1 k true, hr.2.2.1, hr.2.2.2⟩
theorem zz1 (k : Nat) : cntF (List.replicate k false) = k := by simp [cntF]
theorem zv0 (pl : List Bool) (l : List Int) : setB pl (l.take 0) = pl := by rw [List.take_zero, setB]
theorem zv2 (pl : List Bool) : ∀ (l : List Int) (q : Int), setB pl (l ++ [q]) = (setB pl l).set q.toNat true
 | l, q => by
  induction l generalizing pl with
  | nil => rfl
  | cons a l ih => rw [List.cons_append, setB, ih, setB]
theorem zv1 (pl : List Bool) (l : List Int) {k : Nat} (h : k < l.length) : setB pl (l.take (k + 1)) = (setB pl (l.take k)).set (gti l k).toNat true := by
 rw [List.take_add_one, zbn h, Option.toList, zv2]
theorem zia {w W : World} {n : Net} {vt : Value} {np nt gc gp gt : Nat} {tt : TypeId} (hb : Below (w.heap.size + 1) (w.alloc (.cells #[.int .i64 n.places, vt, .int .i64 n.source, .int .i64 n.sink] 24)) W) (hp : np ≤ 1000) (ht : nt ≤ 1000)
  (h1 : W.heap[gc]? = some (.cells #[.slice (some ⟨gp, 0, none⟩) np np] tt (0, 0))) (h2 : W.heap[gp]? = some (.cells (madeCells #[.bool false] np) 4 (0, 0))) (h3 : W.heap[gt]? = some (.cells (madeCells #[.bool false] nt) 4 (0, 0))) :
  Mem [Loc.c1 gc 0 (.slice (some ⟨gp, 0, none⟩) np np), Loc.owO gp (gp + 1) (.slice (some ⟨gp, 0, none⟩) np np) (List.replicate np false), Loc.owO gt (gt + 1) (.slice (some ⟨gt, 0, none⟩) nt nt) (List.replicate nt false), Loc.k4 w.heap.size (.int .i64 n.places) (vt) (.int .i64 n.source) (.int .i64 n.sink), Loc.bl w.heap.size w] W := by
 refine ⟨?_, zpr (by omega) h2, zpr (by omega) h3, K4.aft (by simpa using hb) (K4.new w _ _ _ _ _), ⟨((Below.refl _ _).alloc (Nat.le_refl _) _).trans (hb.mono (by omega)), by have := hb.size; simp at this; omega⟩, True.intro⟩
 show W.cell? ⟨gc, 0, none⟩ = _
 unfold World.cell?
 simp [h1]
set_option maxRecDepth 100000 in
set_option maxHeartbeats 4000000 in
theorem zlb (n : Net) (s : Int) (back : Bool) (vt : Value) (lo hi : Nat) (w : World) (hv : RdT w lo hi vt n.trans) (hval : zca n = true) (h0 : 0 ≤ s) (h1 : s < n.places) :
  Calls Tryz.prog 75 #[netV n vt, .int .i64 s, .bool back] w fun e w' => ∃ pl tl A c B d, e = .returned (.tuple #[.slice A pl.length c, .slice B tl.length d]) ∧ RdO w' 0 w'.heap.size (.slice A pl.length c) pl ∧ RdO w' 0 w'.heap.size (.slice B tl.length d) tl ∧ RF n back s pl tl ∧ Below w.heap.size w w' := by
 obtain ⟨A, ca, rfl, hc, hmm⟩ := hv.form
 have HV := Lib.hid hv
 have HVL := Lib.hid hval
 have hpl := zbo hval
 have HP := Lib.hid (Plc.of hval)
 clear hv hval
 obtain ⟨np, hnp⟩ : ∃ k : Nat, n.places = k := ⟨n.places.toNat, by omega⟩
 obtain ⟨ks, rfl⟩ : ∃ k : Nat, s = k := ⟨s.toNat, by omega⟩
 have hks : ks < np := by omega
 have hmk := zww hnp (by omega)
 have hmk2 := zww (x := (n.trans.length : Int)) rfl (by omega)
 have HNP := Lib.hid hnp
 have hn40 : np ≤ 40 := by omega
 have ht60 : n.trans.length ≤ 60 := by omega
 have HI0 := Lib.hid (RI.init (n := n) (back := back) h0 h1)
 rw [hnp] at HI0
 clear hnp hpl h0 h1
 refine zas fun R hR => ?_
 have HR := Lib.hid hR
 clear hR
 go_enter Tryz.func75, Tryz.ntmps75
 have M : Hid (Mem [Loc.k4 w.heap.size (.int .i64 n.places) (.slice A n.trans.length ca) (.int .i64 n.source) (.int .i64 n.sink), Loc.bl w.heap.size w] (w.alloc (.cells #[.int .i64 n.places, .slice A n.trans.length ca, .int .i64 n.source, .int .i64 n.sink] 24))) := Lib.hid ⟨K4.new w _ _ _ _ _, ⟨(Below.refl _ _).alloc (Nat.le_refl _) _, by simp⟩, True.intro⟩
 have hk4 := M.out.1
 go_upto_region 1 with fail
 go_cut [8, 9] (fun v8 v9 wx => ∃ gc gp gt : Nat, v8 = .pointer (some ⟨gc, 0, none⟩) ∧ v9 = .slice (some ⟨gt, 0, none⟩) n.trans.length n.trans.length ∧ gc ≠ gp ∧ gc ≠ gt ∧ gp ≠ gt ∧ w.heap.size < gc ∧ w.heap.size < gp ∧ w.heap.size < gt ∧ Hid (Mem [Loc.c1 gc 0 (.slice (some ⟨gp, 0, none⟩) np np), Loc.owO gp (gp + 1) (.slice (some ⟨gp, 0, none⟩) np np) (List.replicate np false), Loc.owO gt (gt + 1) (.slice (some ⟨gt, 0, none⟩) n.trans.length n.trans.length) (List.replicate n.trans.length false), Loc.k4 w.heap.size (.int .i64 n.places) (.slice A n.trans.length ca) (.int .i64 n.source) (.int .i64 n.sink), Loc.bl w.heap.size w] wx))
 case first =>
  go_region
  all_goals
   go_wp2_with fail
   go_meet
   first | (refine ⟨_, w.heap.size + 1, _, rfl, rfl, ?_, ?_, ?_, ?_, ?_, ?_, Lib.hid (zia (tt := 107) (Below.drew (Below.alloc (Below.alloc (Below.alloc (Below.refl _ _) (by first | omega | (simp; done) | (simp; omega)) _) (by first | omega | (simp; done) | (simp; omega)) _) (by first | omega | (simp; done) | (simp; omega)) _)) (by omega) (by omega) ?_ ?_ ?_)⟩ <;> first | omega | (rw [zec]; refine zff ?_; simp; done) | (rw [zec]; refine zfe ?_ (zff ?_) <;> simp <;> done) | (rw [zec]; refine zfe ?_ (zfe ?_ (zff ?_)) <;> (first | (simp; done) | (simp; omega)))) | (refine ⟨_, w.heap.size + 1 + 1, _, rfl, rfl, ?_, ?_, ?_, ?_, ?_, ?_, Lib.hid (zia (tt := 107) (Below.drew (Below.alloc (Below.alloc (Below.alloc (Below.refl _ _) (by first | omega | (simp; done) | (simp; omega)) _) (by first | omega | (simp; done) | (simp; omega)) _) (by first | omega | (simp; done) | (simp; omega)) _)) (by omega) (by omega) ?_ ?_ ?_)⟩ <;> first | omega | (rw [zec]; refine zff ?_; simp; done) | (rw [zec]; refine zfe ?_ (zff ?_) <;> simp <;> done) | (rw [zec]; refine zfe ?_ (zfe ?_ (zff ?_)) <;> (first | (simp; done) | (simp; omega)))) | (refine ⟨_, w.heap.size + 1 + 1 + 1, _, rfl, rfl, ?_, ?_, ?_, ?_, ?_, ?_, Lib.hid (zia (tt := 107) (Below.drew (Below.alloc (Below.alloc (Below.alloc (Below.refl _ _) (by first | omega | (simp; done) | (simp; omega)) _) (by first | omega | (simp; done) | (simp; omega)) _) (by first | omega | (simp; done) | (simp; omega)) _)) (by omega) (by omega) ?_ ?_ ?_)⟩ <;> first | omega | (rw [zec]; refine zff ?_; simp; done) | (rw [zec]; refine zfe ?_ (zff ?_) <;> simp <;> done) | (rw [zec]; refine zfe ?_ (zfe ?_ (zff ?_)) <;> (first | (simp; done) | (simp; omega)))) | skip
 case rest =>
  clear hmk hmk2 hk4 M
  obtain ⟨gc, gp, gt, rfl, rfl, hd1, hd2, hd3, hd4, hd5, hd6, M0⟩ := hcut
  have M : Hid (Mem (rchL w n (.slice A n.trans.length ca) np n.trans.length gc gp gt (List.replicate np false) (List.replicate n.trans.length false)) wc) := M0
  clear M0
  have hcc := M.out.1
  have hat := OwnO.at1 M.out.2.1 (k := ks) (by simp; omega)
  have M1 := Lib.hid (z0u M.out hd1 hd3 hd5 ks)
  clear M
  have hk4 := M1.out.2.2.2.1
  go_wp2_with fail
  go_loopg [10, 11, 12, 13, 14, 16] (2 * n.trans.length + 1) (fun gk v10 _ _ _ _ _ wr => ∃ (pl tl : List Bool) (ch : Bool), v10 = .bool ch ∧ gk = 2 * cntF tl + ch.toNat ∧ Hid (RI n back ks pl tl) ∧ Hid (ch = false → ∀ i, i < n.trans.length → gti tl i = false → ∀ p ∈ insB back (gti n.trans i), gti pl p.toNat = false) ∧ Hid (Mem (rchL w n (.slice A n.trans.length ca) np n.trans.length gc gp gt pl tl) wr))
  case atStart => exact ⟨_, _, true, rfl, by rw [zz1]; rfl, HI0, Lib.hid (fun h => by cases h), M1⟩
  case round =>
   clear M1 HI0 hat hcc hk4
   obtain ⟨pl0, tl0, ch, rfl, hgk, HI, HC, M⟩ := hrel
   have HGK := Lib.hid hgk
   clear hgk
   have hk4 := M.out.2.2.2.1
   cases ch with
   | false =>
    have hcc := M.out.1
    have hlp : pl0.length = np := by rw [HI.out.lenp, HNP.out]; simp
    have hlt0 : tl0.length = n.trans.length := HI.out.lent
    have HLP := Lib.hid hlp
    have HLT := Lib.hid hlt0
    clear hlp hlt0
    go_wp2_with fail
    refine HR.out _ _ ⟨pl0, tl0, some ⟨gp, 0, none⟩, np, some ⟨gt, 0, none⟩, n.trans.length, by rw [HLP.out, HLT.out]; rfl, ?_, ?_, HI.out.done HP.out (by omega) (by rw [HNP.out]; omega) (HC.out (by trivial)), M.out.2.2.2.2.1.1⟩
    ·
     rw [HLP.out]
     exact M.out.2.1.rd.mono (Nat.zero_le _) (M.out.2.1.1.lt gp rfl).2
    ·
     rw [HLT.out]
     exact M.out.2.2.1.rd.mono (Nat.zero_le _) (M.out.2.2.1.1.lt gt rfl).2
   | true =>
    clear HC
    go_wp2_with fail
    go_loopw [31, 10, 11, 12, 13, 14, 16] (fun v31 v10 _ _ _ _ _ wr => ∃ (i : Nat) (pl tl : List Bool) (ch : Bool), i ≤ n.trans.length ∧ v31 = .int .i64 i ∧ v10 = .bool ch ∧ Hid (RI n back ks pl tl) ∧ Hid (2 * cntF tl + ch.toNat < 2 * cntF tl0 + 1) ∧ Hid (ch = false → ∀ j, j < i → gti tl j = false → ∀ p ∈ insB back (gti n.trans j), gti pl p.toNat = false) ∧ Hid (Mem (rchL w n (.slice A n.trans.length ca) np n.trans.length gc gp gt pl tl) wr)) (fun v31 _ _ _ _ _ _ _ => n.trans.length - (intOf v31).toNat)
    case atStart => exact ⟨0, pl0, tl0, false, Nat.zero_le _, rfl, rfl, HI, Lib.hid (by simp), Lib.hid (fun _ j hj => absurd hj (by omega)), M⟩
    case round =>
     clear M hk4 HI
     obtain ⟨i, pl, tl, ch, hil, rfl, rfl, HI, HM, HC, M⟩ := hrel
     have hk4 := M.out.2.2.2.1
     by_cases hlt : i < n.trans.length
     ·
      obtain ⟨b4, off4, vi, vo, rfl, _, _, hct0, hri, hro⟩ := RdT.at3 HV.out hlt
      have hct := C3.aft3 M.out.2.2.2.2.1.1 hct0
      clear hct0
      have hti := OwnO.at1 M.out.2.2.1 (k := i) (by rw [HI.out.lent]; exact hlt)
      obtain ⟨z, hz⟩ : ∃ z, gti tl i = z := ⟨_, rfl⟩
      have HZ := Lib.hid hz
      rw [hz] at hti
      clear hz
      obtain ⟨x, hx⟩ : ∃ x, gti n.trans i = x := ⟨_, rfl⟩
      have HX := Lib.hid hx
      rw [hx] at hct hri hro
      clear hx
      obtain ⟨Ai, ci, rfl, hci, hmi⟩ := hri.form
      obtain ⟨Ao, co, rfl, hco, hmo⟩ := hro.form
      have HRI := Lib.hid hri
      have HRO := Lib.hid hro
      clear hri hro
      have M2 := Lib.hid (Mem.cons (a := Loc.k3 wr.heap.size _ _ _) (K3.new wr (.string x.label) (.slice Ai x.inn.length ci) (.slice Ao x.out.length co) 65) (M.out.alloc (.cells #[.string x.label, .slice Ai x.inn.length ci, .slice Ao x.out.length co] 65)))
      have hkt := M2.out.1
      clear M
      go_wp2_with fail
      go_quiet (fail)
      go_upto_if 40 with fail
      go_cut [13, 14] (fun v13 v14 wx => ∃ (Ap : Option Addr) (cp : Nat) (Aq : Option Addr) (cq : Nat), v13 = .slice Ap (insB back x).length cp ∧ v14 = .slice Aq (zfd back x).length cq ∧ Hid (RdI w lo hi (.slice Ap (insB back x).length cp) (insB back x)) ∧ Hid (RdI w lo hi (.slice Aq (zfd back x).length cq) (zfd back x)) ∧ Hid (Mem (rchL w n (.slice (some ⟨b4, off4, none⟩) n.trans.length ca) np n.trans.length gc gp gt pl tl) wx))
      case first =>
       cases back
       ·
        go_wp2_with fail
        go_meet
        exact ⟨Ai, ci, Ao, co, rfl, rfl, HRI, HRO, by first | exact Lib.hid M2.out.2 | exact Lib.hid (M2.out.2.below (below_drewN (Below.refl _ _) _))⟩
       ·
        go_wp2_with fail
        go_meet
        exact ⟨Ao, co, Ai, ci, rfl, rfl, HRO, HRI, by first | exact Lib.hid M2.out.2 | exact Lib.hid (M2.out.2.below (below_drewN (Below.refl _ _) _))⟩
      case rest =>
       clear M2 hkt hct hti HRI HRO hci hmi hco hmo hk4
       obtain ⟨Ap, cp, Aq, cq, rfl, rfl, HRI, HRO, M⟩ := hcut
       have hti := OwnO.at1 M.out.2.2.1 (k := i) (by rw [HI.out.lent]; exact hlt)
       rw [HZ.out] at hti
       cases z with
       | true =>
        go_wp2_with fail
        exact ⟨⟨i + 1, pl, tl, ch, by omega, by go_num, rfl, HI, HM, Lib.hid (fun hf j hj hg => by
         rcases Nat.lt_succ_iff_lt_or_eq.1 hj with h | rfl
         ·
          exact HC.out hf j h hg
         ·
          rw [HZ.out] at hg; cases hg), M⟩, by simp [intOf]; omega⟩
       | false =>
        obtain ⟨zz, hzz⟩ : ∃ zz, (insB back x).any (fun q => gti pl q.toNat) = zz := ⟨_, rfl⟩
        have HZZ := Lib.hid hzz
        clear hzz
        have HPB : Hid (∀ q ∈ insB back x, 0 ≤ q ∧ q < pl.length) := Lib.hid (by
         intro q hq
         have := HP.out i hlt back q (by rw [HX.out]; exact hq)
         rw [HI.out.lenp]
         omega)
        have HLP : Hid (pl.length = np) := Lib.hid (by rw [HI.out.lenp, HNP.out]; simp)
        cases zz with
        | false =>
         go_wp2_with (go_at_call 107; refine (zew 108 zj4 #[.pointer (some ⟨gc, 0, none⟩)] (fun q => gti pl q.toNat) (insB back x) lo hi _ _ (HRI.out.after M.out.2.2.2.2.1.1) (fun q hq W hW => zjx pl q gc gp gp (gp + 1) 0 np W (by rw [HLP.out]; exact (M.out.below hW).1) (by rw [HLP.out]; exact (M.out.below hW).2.1) (HPB.out q hq).1 (HPB.out q hq).2)).mono ?_; rintro e w5 ⟨rfl, hb⟩; rw [HZZ.out]; replace M := Lib.hid (M.out.below hb); clear hb)
         exact ⟨⟨i + 1, pl, tl, ch, by omega, by go_num, rfl, HI, HM, Lib.hid (fun hf j hj hg => by
          rcases Nat.lt_succ_iff_lt_or_eq.1 hj with h | rfl
          ·
           exact HC.out hf j h hg
          ·
           intro p hp
           rw [HX.out] at hp
           have := List.any_eq_false.1 HZZ.out p hp
           simpa using this), M⟩, by simp [intOf]; omega⟩
        | true =>
         obtain ⟨q0, hq0, hg0⟩ := List.any_eq_true.1 HZZ.out
         have hom : (zfd back x).length ≤ 9223372036854775807 := by
          obtain ⟨_, _, _, _, h⟩ := Rd.form HRO.out
          exact h
         have HI1 := Lib.hid (HI.out.add HP.out hlt (p := q0) (by rw [HX.out]; exact hq0) hg0)
         rw [HX.out] at HI1
         have HM1 : Hid (2 * cntF (tl.set i true) + true.toNat < 2 * cntF tl0 + 1) := Lib.hid (by
          have h1 := zt7 (l := tl) (i := i) (by rw [HI.out.lent]; exact hlt) HZ.out
          have h2 := HM.out
          simp only [Bool.toNat_true]
          omega)
         have HPO : Hid (∀ k, k < (zfd back x).length → 0 ≤ gti (zfd back x) k ∧ gti (zfd back x) k < np) := Lib.hid (by
          intro k hk
          have := HP.out.out hlt back (gti (zfd back x) k) (by rw [HX.out]; exact List.mem_of_getElem? (zbn hk))
          rw [HNP.out] at this
          exact this)
         clear hq0 hg0
         go_wp2_with (go_at_call 107; refine (zew 108 zj4 #[.pointer (some ⟨gc, 0, none⟩)] (fun q => gti pl q.toNat) (insB back x) lo hi _ _ (HRI.out.after M.out.2.2.2.2.1.1) (fun q hq W hW => zjx pl q gc gp gp (gp + 1) 0 np W (by rw [HLP.out]; exact (M.out.below hW).1) (by rw [HLP.out]; exact (M.out.below hW).2.1) (HPB.out q hq).1 (HPB.out q hq).2)).mono ?_; rintro e w5 ⟨rfl, hb⟩; rw [HZZ.out]; replace M := Lib.hid (M.out.below hb); clear hb; replace hti := OwnO.at1 M.out.2.2.1 (k := i) (by rw [HI.out.lent]; exact hlt); rw [HZ.out] at hti; replace M := Lib.hid (rchL_t M.out hd2 hd3 hd6 i))
         go_loopw [58, 16] (fun v58 _ wr => ∃ j : Nat, j ≤ (zfd back x).length ∧ v58 = .int .i64 j ∧ Hid (Mem (rchL w n (.slice (some ⟨b4, off4, none⟩) n.trans.length ca) np n.trans.length gc gp gt (setB pl ((zfd back x).take j)) (tl.set i true)) wr)) (fun v58 _ _ => (zfd back x).length - (intOf v58).toNat)
         case atStart => exact ⟨0, Nat.zero_le _, rfl, by rw [zv0]; exact M⟩
         case round =>
          clear M hti
          obtain ⟨j, hj, rfl, M⟩ := hrel
          by_cases hltj : j < (zfd back x).length
          ·
           have hob := HPO.out j hltj
           obtain ⟨bq, oq, rfl, _, _, hcq⟩ := RdI.at1 (HRO.out.after M.out.2.2.2.2.1.1) hltj
           have HST := Lib.hid (zv1 pl (zfd back x) hltj)
           obtain ⟨kq, hkq⟩ : ∃ kq : Nat, gti (zfd back x) j = kq := ⟨(gti (zfd back x) j).toNat, by omega⟩
           rw [hkq] at hcq hob HST
           rw [Int.toNat_natCast] at HST
           clear hkq
           have hkq : kq < np := by omega
           have hcc := M.out.1
           have hat := OwnO.at1 M.out.2.1 (k := kq) (by rw [zkd, HLP.out]; exact hkq)
           have M6 := Lib.hid (z0u M.out hd1 hd3 hd5 kq)
           rw [← HST.out] at M6
           generalize gti (setB pl ((zfd back x).take j)) kq = zo at *
           have HJ1 : Hid (j + 1 ≤ (zfd back x).length) := Lib.hid hltj
           have hki : Value.int .i64 ((j : Int) + 1) = .int .i64 ((j + 1 : Nat) : Int) := by go_num
           have HKI := Lib.hid hki
           clear hki
           go_wp2_with fail
           exact ⟨⟨j + 1, HJ1.out, HKI.out, M6⟩, by have := HJ1.out; simp [intOf]; omega⟩
          ·
           obtain rfl : j = (zfd back x).length := by omega
           rw [List.take_length] at M
           go_wp2_with fail
           exact ⟨⟨i + 1, setB pl (zfd back x), tl.set i true, true, by omega, by go_num, rfl, HI1, HM1, Lib.hid (fun hf => by cases hf), M⟩, by simp [intOf]; omega⟩
     ·
      obtain rfl : i = n.trans.length := by omega
      go_wp2_with fail
      go_roundg (2 * cntF tl + ch.toNat)
      case measure => rw [HGK.out]; exact HM.out
      case rel => (first | exact ⟨pl, tl, ch, rfl, rfl, HI, HC, M⟩ | ((repeat apply Exists.intro); exact ⟨⟨pl, tl, ch, rfl, rfl, HI, HC, M⟩, rfl⟩))
end Go.Proofs.YtohmldibkojkfaaGreatDoor
end
section
namespace Go.Proofs.YtohmldibkojkfaaGreatDoor
open Go.RowKit
def Good (n : Net) (back : Bool) : Prop := (∀ p : Nat, p < n.places.toNat → Rch n back (zr8 n back) p) ∧ ∀ i, i < n.trans.length → RchT n back (zr8 n back) i
theorem RF.good {n : Net} {back : Bool} {pl tl : List Bool} (h : RF n back (zr8 n back) pl tl) : Good n back ↔ (false ∉ pl ∧ false ∉ tl) := by
 constructor
 ·
  rintro ⟨h1, h2⟩
  refine ⟨zua fun i hi => ?_, zua fun i hi => ?_⟩
  ·
   rw [h.lenp] at hi; exact (h.p i hi).2 (h1 i hi)
  ·
   rw [h.lent] at hi; exact (h.t i hi).2 (h2 i hi)
 ·
  rintro ⟨h1, h2⟩
  exact ⟨fun p hp => (h.p p hp).1 (zqy h1 (by rw [h.lenp]; exact hp)), fun i hi => (h.t i hi).1 (zqy h2 (by rw [h.lent]; exact hi))⟩
theorem wf_iff {n : Net} : Wf n ↔ zca n = true ∧ n.source ≠ n.sink ∧ (∀ i, i < n.trans.length → n.source ∉ (gti n.trans i).out ∧ n.sink ∉ (gti n.trans i).inn) ∧ Good n false ∧ Good n true := by
 constructor
 ·
  intro h
  exact ⟨h.valid, h.ne, h.no, ⟨h.places false, h.trans false⟩, ⟨h.places true, h.trans true⟩⟩
 ·
  rintro ⟨h1, h2, h3, h4, h5⟩
  exact ⟨h1, h2, h3, fun b => by cases b; exact h4.1; exact h5.1, fun b => by cases b; exact h4.2; exact h5.2⟩
theorem valid_is' {n : Net} {b : Bool} (hb : zca n = b) (vt : Value) (lo hi : Nat) (w : World) (hv : RdT w lo hi vt n.trans) :
  Calls Tryz.prog 73 #[netV n vt] w fun e w' => e = .returned (.bool b) ∧ Below w.heap.size w w' := hb ▸ zkx n vt lo hi w hv
theorem zc1 {x : Bool} {l : List Bool} {z : Bool} (hz : decide (x ∈ l) = z) (lo hi : Nat) (v : Value) (w : World) (hv : RdO w lo hi v l) :
  Calls Tryz.prog 76 #[v, .bool x] w fun e w' => e = .returned (.bool z) ∧ Below w.heap.size w w' := hz ▸ zon x l lo hi v w hv
theorem ze2 {x : Int} {l : List Int} {z : Bool} (hz : decide (x ∈ l) = z) (lo hi : Nat) (v : Value) (w : World) (hv : RdI w lo hi v l) :
  Calls Tryz.prog 74 #[v, .int .i64 x] w fun e w' => e = .returned (.bool z) ∧ Below w.heap.size w w' := hz ▸ zoo x l lo hi v w hv
set_option maxRecDepth 100000 in
set_option maxHeartbeats 4000000 in
theorem zo0 (n : Net) (vt : Value) (lo hi : Nat) (w : World) (hv : RdT w lo hi vt n.trans) :
  Calls Tryz.prog 48 #[netV n vt] w fun e w' => e = .returned (.bool (wfB n)) ∧ Below w.heap.size w w' := by
 obtain ⟨A, c, rfl, hc, hmm⟩ := hv.form
 have HV := Lib.hid hv
 clear hv
 cases hvb : zca n with
 | false =>
  have HW : Hid (wfB n = false) := Lib.hid (zdi (fun h => by rw [h.valid] at hvb; cases hvb))
  have HVB := Lib.hid hvb
  clear hvb
  refine zas fun R hR => ?_
  have HR := Lib.hid hR
  clear hR
  go_enter Tryz.func48, Tryz.ntmps48
  have M : Hid (Mem [Loc.k4 w.heap.size (.int .i64 n.places) (.slice A n.trans.length c) (.int .i64 n.source) (.int .i64 n.sink), Loc.bl w.heap.size w] (w.alloc (.cells #[.int .i64 n.places, .slice A n.trans.length c, .int .i64 n.source, .int .i64 n.sink] 24))) := Lib.hid ⟨K4.new w _ _ _ _ _, ⟨(Below.refl _ _).alloc (Nat.le_refl _) _, by simp⟩, True.intro⟩
  have hk4 := M.out.1
  go_wp2_with (go_at_call 73; refine (valid_is' HVB.out _ lo hi _ (HV.out.after M.out.2.1.1)).mono ?_; rintro e w1 ⟨rfl, hb1⟩; replace M := Lib.hid (M.out.below hb1); clear hb1; replace hk4 := M.out.1)
  exact HR.out _ _ ⟨by rw [HW.out]; rfl, M.out.2.1.1⟩
 | true =>
  have HVB := Lib.hid hvb
  have hss := zej hvb
  have HIF := Lib.hid (wf_iff (n := n))
  clear hvb
  by_cases hne : n.source = n.sink
  ·
   have HW : Hid (wfB n = false) := Lib.hid (zdi (fun h => h.ne hne))
   have hnb : (n.source == n.sink) = true := by simpa using hne
   clear hne
   refine zas fun R hR => ?_
   have HR := Lib.hid hR
   clear hR
   go_enter Tryz.func48, Tryz.ntmps48
   have M : Hid (Mem [Loc.k4 w.heap.size (.int .i64 n.places) (.slice A n.trans.length c) (.int .i64 n.source) (.int .i64 n.sink), Loc.bl w.heap.size w] (w.alloc (.cells #[.int .i64 n.places, .slice A n.trans.length c, .int .i64 n.source, .int .i64 n.sink] 24))) := Lib.hid ⟨K4.new w _ _ _ _ _, ⟨(Below.refl _ _).alloc (Nat.le_refl _) _, by simp⟩, True.intro⟩
   have hk4 := M.out.1
   go_wp2_with (go_at_call 73; refine (valid_is' HVB.out _ lo hi _ (HV.out.after M.out.2.1.1)).mono ?_; rintro e w1 ⟨rfl, hb1⟩; replace M := Lib.hid (M.out.below hb1); clear hb1; replace hk4 := M.out.1)
   exact HR.out _ _ ⟨by rw [HW.out]; rfl, M.out.2.1.1⟩
  ·
   have hnb : (n.source == n.sink) = false := by simpa using hne
   have HNE := Lib.hid hne
   clear hne
   refine zas fun R hR => ?_
   have HR := Lib.hid hR
   clear hR
   go_enter Tryz.func48, Tryz.ntmps48
   have M : Hid (Mem [Loc.k4 w.heap.size (.int .i64 n.places) (.slice A n.trans.length c) (.int .i64 n.source) (.int .i64 n.sink), Loc.bl w.heap.size w] (w.alloc (.cells #[.int .i64 n.places, .slice A n.trans.length c, .int .i64 n.source, .int .i64 n.sink] 24))) := Lib.hid ⟨K4.new w _ _ _ _ _, ⟨(Below.refl _ _).alloc (Nat.le_refl _) _, by simp⟩, True.intro⟩
   have hk4 := M.out.1
   go_wp2_with (go_at_call 73; refine (valid_is' HVB.out _ lo hi _ (HV.out.after M.out.2.1.1)).mono ?_; rintro e w1 ⟨rfl, hb1⟩; replace M := Lib.hid (M.out.below hb1); clear hb1; replace hk4 := M.out.1)
   go_loopw [23, 4] (fun v23 _ wr => ∃ i : Nat, i ≤ n.trans.length ∧ v23 = .int .i64 i ∧ Hid (∀ j, j < i → n.source ∉ (gti n.trans j).out ∧ n.sink ∉ (gti n.trans j).inn) ∧ Hid (Mem [Loc.k4 w.heap.size (.int .i64 n.places) (.slice A n.trans.length c) (.int .i64 n.source) (.int .i64 n.sink), Loc.bl w.heap.size w] wr)) (fun v23 _ _ => n.trans.length - (intOf v23).toNat)
   case atStart => exact ⟨0, Nat.zero_le _, rfl, Lib.hid (fun j hj => absurd hj (by omega)), M⟩
   case round =>
    clear M hk4
    obtain ⟨i, hil, rfl, HN, M⟩ := hrel
    have hk4 := M.out.1
    by_cases hlt : i < n.trans.length
    ·
     obtain ⟨b4, off4, vi, vo, rfl, _, _, hct0, hri, hro⟩ := RdT.at3 HV.out hlt
     have hct := C3.aft3 M.out.2.1.1 hct0
     clear hct0
     obtain ⟨x, hx⟩ : ∃ x, gti n.trans i = x := ⟨_, rfl⟩
     have HX := Lib.hid hx
     rw [hx] at hct hri hro
     clear hx
     obtain ⟨Ai, ci, rfl, hci, hmi⟩ := hri.form
     obtain ⟨Ao, co, rfl, hco, hmo⟩ := hro.form
     have HRI := Lib.hid hri
     have HRO := Lib.hid hro
     clear hri hro
     have M2 := Lib.hid (Mem.cons (a := Loc.k3 wr.heap.size _ _ _) (K3.new wr (.string x.label) (.slice Ai x.inn.length ci) (.slice Ao x.out.length co) 65) (M.out.alloc (.cells #[.string x.label, .slice Ai x.inn.length ci, .slice Ao x.out.length co] 65)))
     have hkt := M2.out.1
     clear M
     obtain ⟨z1, hz1⟩ : ∃ z, decide (n.source ∈ x.out) = z := ⟨_, rfl⟩
     obtain ⟨z2, hz2⟩ : ∃ z, decide (n.sink ∈ x.inn) = z := ⟨_, rfl⟩
     have HZ1 := Lib.hid hz1
     have HZ2 := Lib.hid hz2
     clear hz1 hz2
     cases z1 with
     | true =>
      have HW : Hid (wfB n = false) := Lib.hid (zdi (fun h => (h.no i hlt).1 (by rw [HX.out]; exact of_decide_eq_true HZ1.out)))
      go_wp2_with (go_at_call 74; refine (ze2 HZ1.out lo hi _ _ (HRO.out.after M2.out.2.2.1.1)).mono ?_; rintro e w5 ⟨rfl, hb⟩; replace M2 := Lib.hid (M2.out.below hb); clear hb; replace hkt := M2.out.1; replace hk4 := M2.out.2.1)
      exact HR.out _ _ ⟨by rw [HW.out]; rfl, M2.out.2.2.1.1⟩
     | false =>
      have tok1 : True := trivial
      cases z2 with
      | true =>
       have HW : Hid (wfB n = false) := Lib.hid (zdi (fun h => (h.no i hlt).2 (by rw [HX.out]; exact of_decide_eq_true HZ2.out)))
       go_wp2_with (first | (have _t := tok1; (go_at_call 74; refine (ze2 HZ1.out lo hi _ _ (HRO.out.after M2.out.2.2.1.1)).mono ?_; rintro e w5 ⟨rfl, hb⟩; replace M2 := Lib.hid (M2.out.below hb); clear hb; replace hkt := M2.out.1; replace hk4 := M2.out.2.1); clear tok1) | (go_at_call 74; refine (ze2 HZ2.out lo hi _ _ (HRI.out.after M2.out.2.2.1.1)).mono ?_; rintro e w5 ⟨rfl, hb⟩; replace M2 := Lib.hid (M2.out.below hb); clear hb; replace hkt := M2.out.1; replace hk4 := M2.out.2.1))
       exact HR.out _ _ ⟨by rw [HW.out]; rfl, M2.out.2.2.1.1⟩
      | false =>
       go_wp2_with (first | (have _t := tok1; (go_at_call 74; refine (ze2 HZ1.out lo hi _ _ (HRO.out.after M2.out.2.2.1.1)).mono ?_; rintro e w5 ⟨rfl, hb⟩; replace M2 := Lib.hid (M2.out.below hb); clear hb; replace hkt := M2.out.1; replace hk4 := M2.out.2.1); clear tok1) | (go_at_call 74; refine (ze2 HZ2.out lo hi _ _ (HRI.out.after M2.out.2.2.1.1)).mono ?_; rintro e w5 ⟨rfl, hb⟩; replace M2 := Lib.hid (M2.out.below hb); clear hb; replace hkt := M2.out.1; replace hk4 := M2.out.2.1))
       exact ⟨⟨i + 1, by omega, by go_num, Lib.hid (fun j hj => by
        rcases Nat.lt_succ_iff_lt_or_eq.1 hj with h | rfl
        ·
         exact HN.out j h
        ·
         rw [HX.out]; exact ⟨of_decide_eq_false HZ1.out, of_decide_eq_false HZ2.out⟩), Lib.hid M2.out.2⟩, by simp [intOf]; omega⟩
    ·
     obtain rfl : i = n.trans.length := by omega
     obtain ⟨gb, hgb⟩ : ∃ gb, gb = wr.heap.size := ⟨_, rfl⟩
     have M3 : Hid (Mem [Loc.c2 gb 0 (.bool false) (.bool true), Loc.k4 w.heap.size (.int .i64 n.places) (.slice A n.trans.length c) (.int .i64 n.source) (.int .i64 n.sink), Loc.bl w.heap.size w] (wr.alloc (.cells #[.bool false, .bool true] 4))) := Lib.hid ⟨by rw [hgb]; simp [C2, go_sem], M.out.alloc _⟩
     have HGB0 := Lib.hid hgb
     clear hgb
     go_wp2_with fail
     rw [← HGB0.out]
     go_loopw [42, 6, 7, 8, 9] (fun v42 _ _ _ _ wr => ∃ k : Nat, k ≤ 2 ∧ v42 = .int .i64 k ∧ Hid ((0 < k → Good n false) ∧ (1 < k → Good n true)) ∧ Hid (Mem [Loc.c2 gb 0 (.bool false) (.bool true), Loc.k4 w.heap.size (.int .i64 n.places) (.slice A n.trans.length c) (.int .i64 n.source) (.int .i64 n.sink), Loc.bl w.heap.size w] wr)) (fun v42 _ _ _ _ _ => 2 - (intOf v42).toNat)
     case atStart => exact ⟨0, by omega, rfl, Lib.hid ⟨fun h => absurd h (by omega), fun h => absurd h (by omega)⟩, M3⟩
     case round =>
      clear M M3 hk4 HGB0
      obtain ⟨k, hk, rfl, HGB, M⟩ := hrel
      have hk4 := M.out.2.1
      have hc2 := M.out.1
      obtain rfl | rfl | rfl : k = 0 ∨ k = 1 ∨ k = 2 := by omega
      ·
       go_upto_region 16 with (go_at_call 75; refine (zlb n n.source false _ lo hi _ (HV.out.after M.out.2.2.1.1) HVB.out hss.1.1 hss.1.2).mono ?_; rintro e w5 ⟨pl, tl, A5, c5, B5, d5, rfl, hp, ht, hrf, hb⟩; have HP1 := Lib.hid hp; have HP2 := Lib.hid ht; have HRF := Lib.hid hrf; clear hp ht hrf; replace M := Lib.hid (M.out.below hb); clear hb)
       have HG : Hid (Good n false ↔ (false ∉ pl ∧ false ∉ tl)) := Lib.hid (RF.good (back := false) HRF.out)
       obtain ⟨z1, hz1⟩ : ∃ z, decide (false ∈ pl) = z := ⟨_, rfl⟩
       obtain ⟨z2, hz2⟩ : ∃ z, decide (false ∈ tl) = z := ⟨_, rfl⟩
       have HZ1 := Lib.hid hz1
       have HZ2 := Lib.hid hz2
       clear hz1 hz2
       have tok1 : True := trivial
       cases z1 with
       | true =>
        have HW : Hid (wfB n = false) := Lib.hid (zdi (fun h => (HG.out.1 (HIF.out.1 h).2.2.2.1).1 (of_decide_eq_true HZ1.out)))
        go_wp2_with (go_at_call 76; refine (zc1 HZ1.out _ _ _ _ HP1.out).mono ?_; rintro e w6 ⟨rfl, hb⟩; replace M := Lib.hid (M.out.below hb); replace HP2 := Lib.hid (Rd.after HP2.out hb); clear hb)
        exact HR.out _ _ ⟨by rw [HW.out]; rfl, M.out.2.2.1.1⟩
       | false =>
        cases z2 with
        | true =>
         have HW : Hid (wfB n = false) := Lib.hid (zdi (fun h => (HG.out.1 (HIF.out.1 h).2.2.2.1).2 (of_decide_eq_true HZ2.out)))
         go_wp2_with (first | (have _t := tok1; (go_at_call 76; refine (zc1 HZ1.out _ _ _ _ HP1.out).mono ?_; rintro e w6 ⟨rfl, hb⟩; replace M := Lib.hid (M.out.below hb); replace HP2 := Lib.hid (Rd.after HP2.out hb); clear hb); clear tok1) | (go_at_call 76; refine (zc1 HZ2.out _ _ _ _ HP2.out).mono ?_; rintro e w6 ⟨rfl, hb⟩; replace M := Lib.hid (M.out.below hb); clear hb))
         exact HR.out _ _ ⟨by rw [HW.out]; rfl, M.out.2.2.1.1⟩
        | false =>
         have HGD := Lib.hid (HG.out.2 ⟨of_decide_eq_false HZ1.out, of_decide_eq_false HZ2.out⟩)
         go_wp2_with (first | (have _t := tok1; (go_at_call 76; refine (zc1 HZ1.out _ _ _ _ HP1.out).mono ?_; rintro e w6 ⟨rfl, hb⟩; replace M := Lib.hid (M.out.below hb); replace HP2 := Lib.hid (Rd.after HP2.out hb); clear hb); clear tok1) | (go_at_call 76; refine (zc1 HZ2.out _ _ _ _ HP2.out).mono ?_; rintro e w6 ⟨rfl, hb⟩; replace M := Lib.hid (M.out.below hb); clear hb))
         exact ⟨⟨1, by omega, rfl, Lib.hid ⟨fun _ => HGD.out, fun h => absurd h (by omega)⟩, M⟩, by simp [intOf]⟩
      ·
       go_upto_region 16 with (go_at_call 75; refine (zlb n n.sink true _ lo hi _ (HV.out.after M.out.2.2.1.1) HVB.out hss.2.1 hss.2.2).mono ?_; rintro e w5 ⟨pl, tl, A5, c5, B5, d5, rfl, hp, ht, hrf, hb⟩; have HP1 := Lib.hid hp; have HP2 := Lib.hid ht; have HRF := Lib.hid hrf; clear hp ht hrf; replace M := Lib.hid (M.out.below hb); clear hb)
       have HG : Hid (Good n true ↔ (false ∉ pl ∧ false ∉ tl)) := Lib.hid (RF.good (back := true) HRF.out)
       obtain ⟨z1, hz1⟩ : ∃ z, decide (false ∈ pl) = z := ⟨_, rfl⟩
       obtain ⟨z2, hz2⟩ : ∃ z, decide (false ∈ tl) = z := ⟨_, rfl⟩
       have HZ1 := Lib.hid hz1
       have HZ2 := Lib.hid hz2
       clear hz1 hz2
       have tok1 : True := trivial
       cases z1 with
       | true =>
        have HW : Hid (wfB n = false) := Lib.hid (zdi (fun h => (HG.out.1 (HIF.out.1 h).2.2.2.2).1 (of_decide_eq_true HZ1.out)))
        go_wp2_with (go_at_call 76; refine (zc1 HZ1.out _ _ _ _ HP1.out).mono ?_; rintro e w6 ⟨rfl, hb⟩; replace M := Lib.hid (M.out.below hb); replace HP2 := Lib.hid (Rd.after HP2.out hb); clear hb)
        exact HR.out _ _ ⟨by rw [HW.out]; rfl, M.out.2.2.1.1⟩
       | false =>
        cases z2 with
        | true =>
         have HW : Hid (wfB n = false) := Lib.hid (zdi (fun h => (HG.out.1 (HIF.out.1 h).2.2.2.2).2 (of_decide_eq_true HZ2.out)))
         go_wp2_with (first | (have _t := tok1; (go_at_call 76; refine (zc1 HZ1.out _ _ _ _ HP1.out).mono ?_; rintro e w6 ⟨rfl, hb⟩; replace M := Lib.hid (M.out.below hb); replace HP2 := Lib.hid (Rd.after HP2.out hb); clear hb); clear tok1) | (go_at_call 76; refine (zc1 HZ2.out _ _ _ _ HP2.out).mono ?_; rintro e w6 ⟨rfl, hb⟩; replace M := Lib.hid (M.out.below hb); clear hb))
         exact HR.out _ _ ⟨by rw [HW.out]; rfl, M.out.2.2.1.1⟩
        | false =>
         have HGD := Lib.hid (HG.out.2 ⟨of_decide_eq_false HZ1.out, of_decide_eq_false HZ2.out⟩)
         go_wp2_with (first | (have _t := tok1; (go_at_call 76; refine (zc1 HZ1.out _ _ _ _ HP1.out).mono ?_; rintro e w6 ⟨rfl, hb⟩; replace M := Lib.hid (M.out.below hb); replace HP2 := Lib.hid (Rd.after HP2.out hb); clear hb); clear tok1) | (go_at_call 76; refine (zc1 HZ2.out _ _ _ _ HP2.out).mono ?_; rintro e w6 ⟨rfl, hb⟩; replace M := Lib.hid (M.out.below hb); clear hb))
         exact ⟨⟨2, by omega, rfl, Lib.hid ⟨fun _ => HGB.out.1 (by omega), fun _ => HGD.out⟩, M⟩, by simp [intOf]⟩
      ·
       go_wp2_with fail
       exact HR.out _ _ ⟨by rw [zka (HIF.out.2 ⟨HVB.out, HNE.out, HN.out, HGB.out.1 (by omega), HGB.out.2 (by omega)⟩)], M.out.2.2.1.1⟩
end Go.Proofs.YtohmldibkojkfaaGreatDoor
end
section
namespace Go.Proofs.YtohmldibkojkfaaGreatDoor
open Go.RowKit
section
variable {α : Type} {t e size bytes : Nat} {z : Value} {enc : α → List Value}
end
end Go.Proofs.YtohmldibkojkfaaGreatDoor
end
section
namespace Go.Proofs.YtohmldibkojkfaaGreatDoor
open Go.RowKit
theorem z1s {fn : Func} {R : Ending → World → Prop} {a : Act} {w : World} {t u : Tmp} {g : Nat} {x y z : Value} (hres : fn.results = #[.cell t 32, .tmp u]) (hd : a.defers = [])
  (ht : a.tmps.getD t undef = .pointer (some ⟨g, 0, none⟩)) (hu : a.tmps.getD u undef = z) (hB : K2 w g x y) (hR : R (.returned (.tuple #[.agg #[x, y], z])) w) : bodyPost Tryz.prog fn R .ret a w := by
 obtain ⟨h1, h2, h3, h4, h5⟩ := hB
 rw [Array.getD_eq_getD_getElem?] at ht hu
 exact bodyPost_ret (by simp only [results, hres]; simp [go_sem, ht, hu, h1, h2]) hd hR
set_option maxRecDepth 100000 in
set_option maxHeartbeats 1000000 in
theorem zxm (n d : Int) (w : World) (hn : -4611686018427387904 ≤ n ∧ n ≤ 4611686018427387904) (hd : 0 < d ∧ d ≤ 4611686018427387904) :
  Calls Tryz.prog 35 #[.int .i64 n, .int .i64 d] w fun e w' => e = .returned (.tuple #[.agg #[.int .i64 (zcy n d).n, .int .i64 (zcy n d).d], .int .i64 (zcy n d).e]) ∧ Below w.heap.size w w' := by
 have hne : d ≠ 0 := by omega
 have HE : Hid (zcy n d = FE.of (mkF n d)) := Lib.hid (by unfold zcy; rw [if_neg hne])
 have hd0 : (d == 0) = false := by simpa using hne
 have hdn : decide (d < 0) = false := by simp; omega
 have HK : Hid (K2 (w.alloc (.cells #[.int .i64 0, .int .i64 0] 32)) w.heap.size (.int .i64 0) (.int .i64 0)) := Lib.hid (K2.new _ _ _ _)
 have HB : Hid (Below w.heap.size w (w.alloc (.cells #[.int .i64 0, .int .i64 0] 32))) := Lib.hid ((Below.refl _ _).alloc (Nat.le_refl _) _)
 have hk := HK.out
 obtain ⟨x1, x2⟩ := hn
 obtain ⟨x3, x4⟩ := hd
 by_cases h0 : n < 0
 all_goals
  refine zas fun R hR => ?_
  have HR := Lib.hid hR
  clear hR
  go_enter Tryz.func35, Tryz.ntmps35
  go_wp2_with (first
   | (go_at_call 67; refine (z3l _ _ (by omega) (by omega)).mono ?_; rintro e w' ⟨rfl, rfl⟩)
   | (go_at_call 66; refine (z2t _ _ _ n _ (by omega) (by omega) (by omega) (by omega) (by first | (simp; done) | (simp; omega))).mono ?_; rintro e w3 ⟨rfl, hb3⟩; have HK3 := Lib.hid (K2.aft hb3 HK.out); have HB3 := Lib.hid (HB.out.trans (hb3.mono HB.out.size)); clear hb3; replace hk := HK3.out))
  have HDN : Hid ((d.natAbs : Int) = d) := Lib.hid (by omega)
  refine z1s rfl rfl rfl rfl (K2.set HK3.out _ _) (HR.out _ _ ⟨?_, HB3.out.trans (zyb (Nat.le_refl _))⟩)
  rw [HE.out, HDN.out]
  rfl
end Go.Proofs.YtohmldibkojkfaaGreatDoor
end
