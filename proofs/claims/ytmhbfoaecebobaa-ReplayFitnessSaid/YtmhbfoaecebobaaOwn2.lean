/-
  Append onto a row of the call's own, and the block in which the result lies: the same one, or a new one. Conditions: none.
-/
import Derived.Test.YtmhbfoaecebobaaOwn
namespace Go.Proofs.Ytmhbfoaecebobaa
set_option linter.unusedSimpArgs false
set_option linter.unusedVariables false
open Go.RowKit

theorem own_raise {W : World} {lo g t sz n : Nat} {v : Value} {cells : List Value} (h : W.ownsRow lo t sz v n cells) (hg : v.ownBlock = some g) : W.ownsRow g t sz v n cells := by
  refine ⟨h.1, ?_⟩
  rcases h.2 with ⟨rfl, h0⟩ | ⟨g', cap, cur, rfl, h1, h2⟩
  · cases hg
  · have e : g' = g := by simpa [Value.ownBlock] using hg
    subst e
    exact .inr ⟨g', cap, cur, rfl, Nat.le_refl _, h2⟩
/-- the law of append, onto a row of the call's own, whatever the source -/
theorem run_app2 {α : Type} {t e size bytes : Nat} {z : Value} {enc : α → List Value} (ti : TI t e size bytes z) (he : ∀ a, (enc a).length = size) (h1 : ∀ a, ∀ u ∈ enc a, u.oneCell' = true) (w : World) (ty : TypeId) {lo hi lo' hi' : Nat} {v vx : Value} {l xs : List α} {rest : List Loc}
    (hM : Mem (Loc.ow e size enc lo hi v l :: rest) w) (hA : Apart (fun k => lo ≤ k ∧ k < hi) rest) (hx : Rd size enc w lo' hi' vx xs) (hlen : (l.length + xs.length) * bytes ≤ 140737488355328) (hlen2 : l.length + xs.length ≤ maxLen) (hlo : lo ≤ w.heap.size) :
    ∃ A c w' g0 g1, (Builtin.append_ #[t, t] ty #[v, vx]).run Try.prog w = .ok (.slice A (l.length + xs.length) c) w' ∧ (g0 = lo ∧ g1 = hi ∨ g0 = w.heap.size ∧ g1 = w.heap.size + 1 ∧ w.heap.size < w'.heap.size) ∧ Mem (Loc.ow e size enc g0 g1 (.slice A (l.length + xs.length) c) (l ++ xs) :: rest) w' ∧ w.heap.size ≤ w'.heap.size ∧ Chg (fun k => lo ≤ k ∧ k < hi) w w' := by
  obtain ⟨i, ht, hi0, hz, hsize, hby, hzs, hsz⟩ := ti
  obtain ⟨ho, hr⟩ := hM
  obtain ⟨A, c, rfl, _, _⟩ := hx.form
  have fin : ∀ (v' : Value) (w' : World), w'.ownsRow lo e size v' (l.length + xs.length) (l.flatMap enc ++ xs.flatMap enc) → w.grownBy w' v.ownBlock → (v'.ownBlock = v.ownBlock ∨ v'.ownBlock = some w.heap.size) →
      ∃ A c g0 g1, v' = .slice A (l.length + xs.length) c ∧ (g0 = lo ∧ g1 = hi ∨ g0 = w.heap.size ∧ g1 = w.heap.size + 1 ∧ w.heap.size < w'.heap.size) ∧ Mem (Loc.ow e size enc g0 g1 (.slice A (l.length + xs.length) c) (l ++ xs) :: rest) w' ∧ w.heap.size ≤ w'.heap.size ∧ Chg (fun k => lo ≤ k ∧ k < hi) w w' := by
    intro v' w' h2 h3 h4
    have hown : ∃ g0 g1, (g0 = lo ∧ g1 = hi ∨ g0 = w.heap.size ∧ g1 = w.heap.size + 1 ∧ w.heap.size < w'.heap.size) ∧ Own e size enc w' g0 g1 v' (l ++ xs) := by
      rcases h4 with h4 | h4
      · exact ⟨lo, hi, .inl ⟨rfl, rfl⟩, by rw [List.length_append, List.flatMap_append]; exact h2, fun k hk => ho.2 k (h4 ▸ hk)⟩
      · exact ⟨w.heap.size, w.heap.size + 1, .inr ⟨rfl, rfl, (h2.lt _ h4).2⟩, by rw [List.length_append, List.flatMap_append]; exact own_raise h2 h4, fun k hk => by rw [h4] at hk; injection hk with hk; omega⟩
    obtain ⟨g0, g1, hg, hown⟩ := hown
    obtain ⟨A', c', hv', _, _⟩ := hown.form
    rw [List.length_append] at hv'
    subst hv'
    have hch : Chg (fun k => lo ≤ k ∧ k < hi) w w' := ⟨h3.os, h3.tape, h3.output, h3.size, fun k hk hd => h3.block k hk (fun e => hd ⟨(ho.1.lt k e.symm).1, ho.2 k e.symm⟩)⟩
    exact ⟨A', c', g0, g1, rfl, hg, ⟨hown, hr.chg hch hA⟩, h3.size, hch⟩
  rcases A with _ | ad
  · have hm : xs.length = 0 := by
      rcases Nat.eq_zero_or_pos xs.length with h0 | h0
      · exact h0
      · obtain ⟨b, off, h, _⟩ := RdC.cells hx h0
        cases h
    have hxs : xs = [] := List.eq_nil_of_length_eq_zero hm
    subst hxs
    have hrun : (Builtin.append_ #[t, t] ty #[v, .slice none ([] : List α).length c]).run Try.prog w = .ok v w := by
      rcases ho.1.2 with ⟨rfl, h0⟩ | ⟨g, cap, cur, rfl, _, _, hnc, _⟩
      · simp [Builtin.append_, run_underlying ht, sizeOf, typeInfo, hi0, Builtin.lenOf, Builtin.firstCells]
      · simp [Builtin.append_, run_underlying ht, sizeOf, typeInfo, hi0, Builtin.lenOf, Builtin.firstCells, hnc, storeCells]
    obtain ⟨A', c', g0, g1, hv, hg, hM', h5, h6⟩ := fin v w (by simpa using ho.1) (World.grownBy.refl w _) (.inl rfl)
    exact ⟨A', c', w, g0, g1, hrun.trans (by rw [hv]), hg, hM', h5, h6⟩
  · have hcells : ∀ j u, (xs.flatMap enc)[j]? = some u → w.cell? (ad.add j) = some u := by
      intro j u hu
      rcases Nat.eq_zero_or_pos xs.length with h0 | h0
      · have : xs = [] := List.eq_nil_of_length_eq_zero h0
        subst this
        simp at hu
      · obtain ⟨b, off, h, _, _, hc⟩ := RdC.cells hx h0
        rw [Option.some.inj h, add_off]
        exact hc j u hu
    obtain ⟨v', w', hrun, h2, h3, _, h5⟩ := run_append_own_at (P := Try.prog) w lo t ty e i z size bytes ht hi0 hz hsize hby hzs hsz v l.length (l.flatMap enc) ho.1 ad xs.length c (xs.flatMap enc) (flatMap_len he xs) hcells
      (fun u hu => by obtain ⟨a, _, ha⟩ := List.mem_flatMap.1 hu; exact h1 a u ha) hlen2 hlen hlo
    obtain ⟨A', c', g0, g1, hv, hg, hM', h6, h7⟩ := fin v' w' h2 h3 h5
    exact ⟨A', c', w', g0, g1, hrun.trans (by rw [hv]), hg, hM', h6, h7⟩

section
variable {α : Type} {t e size bytes : Nat} {z : Value} {enc : α → List Value}
theorem wp_app2 {o : Oper} {a : Act} {K : Act → World → Prop} {Q : Exit → Act → World → Prop} (s x : Operand) (ho : o.op = .call { callee := .builtin .append, args := #[s, x], argTypes := #[t, t] })
    (ti : TI t e size bytes z) (he : ∀ a, (enc a).length = size) (h1 : ∀ a, ∀ u ∈ enc a, u.oneCell' = true) {w : World} {lo hi lo' hi' : Nat} {v vx : Value} {l xs : List α} {rest : List Loc} (hs : a.eval s = v) (hvx : a.eval x = vx)
    (hM : Mem (Loc.ow e size enc lo hi v l :: rest) w) (hA : Apart (fun k => lo ≤ k ∧ k < hi) rest) (hx : Rd size enc w lo' hi' vx xs) (hlen : (l.length + xs.length) * bytes ≤ 140737488355328) (hlen2 : l.length + xs.length ≤ 9223372036854775807) (hlo : lo ≤ w.heap.size)
    (h : ∀ A c w' g0 g1, (g0 = lo ∧ g1 = hi ∨ g0 = w.heap.size ∧ g1 = w.heap.size + 1 ∧ w.heap.size < w'.heap.size) → Mem (Loc.ow e size enc g0 g1 (.slice A (l.length + xs.length) c) (l ++ xs) :: rest) w' → w.heap.size ≤ w'.heap.size → Chg (fun k => lo ≤ k ∧ k < hi) w w' → K (a.put o.dst (.slice A (l.length + xs.length) c)) w') : o.wp Try.prog a w K Q := by
  obtain ⟨A, c, w', g0, g1, hrun, hg, h2, h3, h4⟩ := run_app2 ti he h1 w o.type hM hA hx hlen (by unfold maxLen; omega) hlo
  unfold Oper.wp execOp
  simp only [ho, resolve, invoke, builtin, Sem.run_bind, Sem.run_pure, Result.andThen_ok, List.map_toArray, List.map_cons, List.map_nil, hs, hvx, hrun]
  exact h A c w' g0 g1 hg h2 h3 h4
theorem wpList_app2 {ops : Array Oper} {restO : List Oper} {o : Oper} {a : Act} {Q : Exit → Act → World → Prop} (hgd : o.guard = none) (s x : Operand) (ho : o.op = .call { callee := .builtin .append, args := #[s, x], argTypes := #[t, t] })
    (ti : TI t e size bytes z) (he : ∀ a, (enc a).length = size) (h1 : ∀ a, ∀ u ∈ enc a, u.oneCell' = true) {w : World} {lo hi lo' hi' : Nat} {v vx : Value} {l xs : List α} {rest : List Loc} (hs : a.eval s = v) (hvx : a.eval x = vx)
    (hM : Mem (Loc.ow e size enc lo hi v l :: rest) w) (hA : Apart (fun k => lo ≤ k ∧ k < hi) rest) (hx : Rd size enc w lo' hi' vx xs) (hlen : (l.length + xs.length) * bytes ≤ 140737488355328) (hlen2 : l.length + xs.length ≤ 9223372036854775807) (hlo : lo ≤ w.heap.size)
    (h : ∀ A c w' g0 g1, (g0 = lo ∧ g1 = hi ∨ g0 = w.heap.size ∧ g1 = w.heap.size + 1 ∧ w.heap.size < w'.heap.size) → Mem (Loc.ow e size enc g0 g1 (.slice A (l.length + xs.length) c) (l ++ xs) :: rest) w' → w.heap.size ≤ w'.heap.size → Chg (fun k => lo ≤ k ∧ k < hi) w w' → wpList Try.prog ops Q restO (a.put o.dst (.slice A (l.length + xs.length) c)) w') : wpList Try.prog ops Q (o :: restO) a w :=
  wpList_plain hgd fun _ hK => wp_app2 s x ho ti he h1 hs hvx hM hA hx hlen hlen2 hlo fun A c w' g0 g1 hg h2 h3 h4 => hK _ _ (h A c w' g0 g1 hg h2 h3 h4)
end
end Go.Proofs.Ytmhbfoaecebobaa
