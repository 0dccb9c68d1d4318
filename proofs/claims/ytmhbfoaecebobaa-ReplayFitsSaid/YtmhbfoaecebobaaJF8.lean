/-
  Texts joined: Set, Set2, Take, Play1, Sil, Play2. Conditions: none.
-/
import Derived.Test.YtmhbfoaecebobaaJF7
import Derived.Maps.Own
import Derived.Maps.Views
section
namespace Go.Proofs.Ytmhbfoaecebobaa
set_option linter.unusedSimpArgs false
set_option linter.unusedVariables false
open Go.RowKit Go.Maps Go.WideMaps

theorem str_law : Keyed Try.prog 9 := string_keyed Try.underlying9
theorem zeroBo (w : World) : (zeroValue 4).run Try.prog w = .ok (.bool false) w := by kernel_rfl
/-- block b is a map in which the keys of a list are true, and no others -/
def SetAt (w : World) (b : Nat) (ks : List (List UInt8)) : Prop :=
  ∃ D : DataW Unit, w.ownsMap Try.prog 9 (plainElem Try.prog 4) b ks.length D ∧ ∀ l : List UInt8, D.atKey (.string l) (.lit (.bool false)) = .lit (.bool (decide (l ∈ ks)))
theorem SetAt.made (w : World) : SetAt (w.alloc (.map #[] 0)) w.heap.size [] :=
  ⟨.map [], World.ownsMap_made w _ _ _, fun l => by simp [DataW.atKey]⟩
set_option maxRecDepth 100000 in
theorem plainElem_bool_inv {v : Value} {x : Bool} {ps : List MemPlace} (h : plainElem (H := Unit) Try.prog 4 v = some (.lit (.bool x), ps)) : v = .bool x := by
  unfold plainElem at h
  rw [Try.underlying4] at h
  split at h
  · simp at h; simp_all
  · simp_all
  · simp_all
  · cases h
set_option maxRecDepth 100000 in
theorem SetAt.look {w : World} {b : Nat} {ks : List (List UInt8)} (h : SetAt w b ks) (l : List UInt8) (hl : l.length ≤ 1000000) :
    (Instr.lookup 90 (.map (some b)) (.string ⟨l.toArray⟩) false).run Try.prog w = .ok (.bool (decide (l ∈ ks))) w := by
  obtain ⟨D, ho, hD⟩ := h
  obtain ⟨v, ps, hrun, hv⟩ := ho.lookup str_law Try.underlying90 (zeroBo w) (plainElem_bool Try.underlying4 false) (key := .string ⟨l.toArray⟩) (keyOf_string_mk Try.underlying9 (by simp [ByteArray.size, maxLen]; omega))
  simp only [] at hv
  rw [hD] at hv
  rw [plainElem_bool_inv hv] at hrun
  exact hrun
theorem ownsMap_isMap {w : World} {b n : Nat} {D : DataW Unit} (h : w.ownsMap Try.prog 9 (plainElem Try.prog 4) b n D) : IsMap D := by
  obtain ⟨es, clock, _, _, _, rfl⟩ := h
  exact ⟨_, rfl⟩
set_option maxRecDepth 100000 in
theorem SetAt.put {w : World} {b : Nat} {ks : List (List UInt8)} (h : SetAt w b ks) (l : List UInt8) (hl : l.length ≤ 1000000) (hk : ks.length ≤ 1000000) :
    ∃ w', (Instr.mapUpdate 90 (.map (some b)) (.string ⟨l.toArray⟩) (.bool true)).run Try.prog w = .ok () w' ∧ SetAt w' b (l :: ks) ∧ w.grownBy w' (some b) := by
  obtain ⟨D, ho, hD⟩ := h
  obtain ⟨w', hrun, h2, h3⟩ := ho.update str_law Try.underlying90 (by unfold maxLen; omega) (key := .string ⟨l.toArray⟩) (keyOf_string_mk Try.underlying9 (by simp [ByteArray.size, maxLen]; omega)) (plainElem_bool Try.underlying4 true)
  refine ⟨w', hrun, ⟨_, h2, fun l' => ?_⟩, h3⟩
  by_cases e : l' = l
  · subst e
    rw [atKey_put_same (ownsMap_isMap ho) (by first | trivial | simp [WideAt.IsKeyLit])]
    simp
  · rw [atKey_put_other (by intro h; injection h with h; exact e h), hD]
    simp [e]
end Go.Proofs.Ytmhbfoaecebobaa
end
section
namespace Go.Proofs.Ytmhbfoaecebobaa
set_option linter.unusedSimpArgs false
set_option linter.unusedVariables false
open Go.RowKit Go.Maps Go.WideMaps

theorem SetAt.keep {D : Nat → Prop} {w W : World} (hc : Chg D w W) {b : Nat} {ks : List (List UInt8)} (hd : ¬ D b) (h : SetAt w b ks) : SetAt W b ks := by
  obtain ⟨Dm, ⟨es, clock, hb, F, hs, hD⟩, h2⟩ := h
  exact ⟨Dm, ⟨es, clock, (hc.block b (Array.getElem?_eq_some_iff.1 hb).1 hd).trans hb, F, hs, hD⟩, h2⟩
theorem SetAt.lt {w : World} {b : Nat} {ks : List (List UInt8)} (h : SetAt w b ks) : b < w.heap.size := by
  obtain ⟨Dm, ho, _⟩ := h
  exact ho.lt
abbrev Loc.set (b : Nat) (ks : List (List UInt8)) : Loc := ⟨fun w => SetAt w b ks, fun k => k = b, fun h hd hp => SetAt.keep h (hd b rfl) hp⟩
/-- of the blocks of w0 only those in D have changed -/
abbrev Loc.cg (D : Nat → Prop) (w0 : World) : Loc :=
  ⟨fun W => Chg D w0 W, fun k => k < w0.heap.size ∧ ¬ D k, fun h hd hp => ⟨h.os.trans hp.os, h.tape.trans hp.tape, h.output.trans hp.output, Nat.le_trans hp.size h.size, fun k hk hD => (h.block k (Nat.lt_of_lt_of_le hk hp.size) (hd k ⟨hk, hD⟩)).trans (hp.block k hk hD)⟩⟩
theorem Chg.refl (D : Nat → Prop) (w : World) : Chg D w w := ⟨rfl, rfl, rfl, Nat.le_refl _, fun _ _ _ => rfl⟩
theorem Mem.step {a a' : Loc} {rest : List Loc} {D : Nat → Prop} {w W : World} (h : Mem (a :: rest) w) (h' : a'.P W) (hc : Chg D w W) (ha : Apart D rest) : Mem (a' :: rest) W := ⟨h', h.2.chg hc ha⟩

/-- m[k] = true -/
theorem wpList_put_set {ops : Array Oper} {rest : List Oper} {o : Oper} {a : Act} {Q : Exit → Act → World → Prop} {w : World} (hg : o.guard = none) (m x v : Operand)
    (hop : o.op = Op.mapUpdate 90 m x v ∨ o.op = Op.insert 90 m x v) {b : Nat} {ks : List (List UInt8)} {L : List Loc} (l : List UInt8) (hm : a.eval m = .map (some b)) (hx : a.eval x = .string ⟨l.toArray⟩) (hv : a.eval v = .bool true)
    (hM : Mem (Loc.set b ks :: L) w) (hA : Apart (fun k => k = b) L) (hl : l.length ≤ 1000000) (hk : ks.length ≤ 1000000)
    (hK : ∀ w', Mem (Loc.set b (l :: ks) :: L) w' → w.heap.size ≤ w'.heap.size → wpList Try.prog ops Q rest (a.put o.dst undef) w') : wpList Try.prog ops Q (o :: rest) a w := by
  refine wpList_plain hg fun K' hK' => ?_
  obtain ⟨w', hrun, h2, h3⟩ := hM.1.put l hl hk
  have hfin := hK' _ _ (hK w' ⟨h2, hM.2.chg (D := fun k => k = b) (Chg.below (w := w) (W := w) (Below.refl _ _) |> fun _ => ⟨h3.os, h3.tape, h3.output, h3.size, fun k hk hne => h3.block k hk (fun e => hne (by injection e))⟩) hA⟩ h3.size)
  unfold Oper.wp
  rcases hop with hop | hop
  · simp [execOp, hop, hm, hx, hv, hrun, Result.andThen]
    exact hfin
  · simp [execOp, hop, hm, hx, hv, hrun, Result.andThen]
    exact hfin
theorem SetAt.look' {w : World} {b : Nat} {ks : List (List UInt8)} (h : SetAt w b ks) (l : List UInt8) (hl : l.length ≤ 1000000) {z : Bool} (hz : decide (l ∈ ks) = z) :
    (Instr.lookup 90 (.map (some b)) (.string ⟨l.toArray⟩) false).run Try.prog w = .ok (.bool z) w := hz ▸ h.look l hl
/-- a number, and the values of the two slices -/
structure NdV where
  k : Int
  am : Option Addr
  nm : Nat
  cm : Nat
  ar : Option Addr
  nr : Nat
  cr : Nat
  deriving Inhabited
abbrev NdV.vm (x : NdV) : Value := .slice x.am x.nm x.cm
abbrev NdV.vr (x : NdV) : Value := .slice x.ar x.nr x.cr
abbrev encN (x : NdV) : List Value := [.int .i64 x.k, x.vm, x.vr]
theorem ti_node : TI 88 86 3 56 (.agg #[.int .i64 0, .slice none 0 0, .slice none 0 0]) := TI.mk Try.underlying88 (by kernel_rfl) rfl (by decide)
/-- a slice of numbers in a block of D -/
def RdB (D : Nat → Prop) (w : World) (v : Value) (l : List Int) : Prop := ∃ b, (0 < l.length → D b) ∧ RdI w b (b + 1) v l
theorem RdB.of {D : Nat → Prop} {w : World} {lo hi : Nat} {v : Value} {l : List Int} (h : RdI w lo hi v l) (hd : ∀ k, lo ≤ k → k < hi → D k) : RdB D w v l := by
  obtain ⟨h1, A, c, hv, h2, h3, h4⟩ := h
  rcases Nat.eq_zero_or_pos l.length with h0 | h0
  · exact ⟨0, fun h => by omega, h1, A, c, hv, h2, h3, fun h => by omega⟩
  · obtain ⟨b, off, hA, hl, hh, hc⟩ := h4 h0
    exact ⟨b, fun _ => hd b hl hh, h1, A, c, hv, h2, h3, fun _ => ⟨b, off, hA, Nat.le_refl _, by omega, hc⟩⟩
theorem RdB.nil (D : Nat → Prop) (w : World) : RdB D w (.slice none 0 0) [] := ⟨0, fun h => by simp at h, Rd.nil _ _ _⟩
theorem RdB.mono {D E : Nat → Prop} {w : World} {v : Value} {l : List Int} (h : RdB D w v l) (hd : ∀ k, D k → E k) : RdB E w v l := by
  obtain ⟨b, h1, h2⟩ := h
  exact ⟨b, fun h => hd b (h1 h), h2⟩
theorem RdB.keep {D E : Nat → Prop} {w W : World} (hc : Chg E w W) (hd : ∀ k, D k → ¬ E k) {v : Value} {l : List Int} (h : RdB D w v l) : RdB D W v l := by
  obtain ⟨b, h1, h2⟩ := h
  refine ⟨b, h1, ?_⟩
  rcases Nat.eq_zero_or_pos l.length with h0 | h0
  · obtain ⟨h3, A, c, hv, h4, h5, h6⟩ := h2
    exact ⟨h3, A, c, hv, h4, h5, fun h => by omega⟩
  · exact Rd.of_blocks h2 (fun k hk1 hk2 hk => hc.block k hk (by
      have : k = b := by omega
      rw [this]
      exact hd b (h1 h0)))
theorem RdB.rd {D : Nat → Prop} {w : World} {v : Value} {l : List Int} (h : RdB D w v l) : ∃ b, RdI w b (b + 1) v l := by
  obtain ⟨b, _, h⟩ := h
  exact ⟨b, h⟩
theorem RdB.within {D : Nat → Prop} {s hi : Nat} {w : World} {v : Value} {l : List Int} (h : RdB D w v l) (hd : ∀ k, D k → s ≤ k ∧ k < hi) : RdI w s hi v l := by
  obtain ⟨b, h1, h2, A, c, hv, h4, h5, h6⟩ := h
  refine ⟨h2, A, c, hv, h4, h5, fun hn => ?_⟩
  obtain ⟨b', off, hA, hl, hh, hc⟩ := h6 hn
  have := hd b (h1 hn)
  exact ⟨b', off, hA, by omega, by omega, hc⟩
/-- nodes whose markings lie in blocks of D, and whose runs in blocks of D from block s on -/
def RdNs (D : Nat → Prop) (s : Nat) (w : World) (vs : List NdV) (q : List Nd) : Prop :=
  vs.length = q.length ∧ ∀ i, i < q.length → (gti vs i).k = (gti q i).k ∧ RdB D w (gti vs i).vm (gti q i).m ∧ RdB (fun k => s ≤ k ∧ D k) w (gti vs i).vr (gti q i).run
theorem RdNs.keep {D E : Nat → Prop} {s : Nat} {w W : World} (hc : Chg E w W) (hd : ∀ k, D k → ¬ E k) {vs : List NdV} {q : List Nd} (h : RdNs D s w vs q) : RdNs D s W vs q :=
  ⟨h.1, fun i hi => ⟨(h.2 i hi).1, (h.2 i hi).2.1.keep hc hd, (h.2 i hi).2.2.keep hc (fun k hk => hd k hk.2)⟩⟩
abbrev Loc.ns (D : Nat → Prop) (s : Nat) (vs : List NdV) (q : List Nd) : Loc := ⟨fun w => RdNs D s w vs q, D, fun h hd hp => RdNs.keep h hd hp⟩
theorem RdNs.mono {D E : Nat → Prop} {s : Nat} {w : World} {vs : List NdV} {q : List Nd} (h : RdNs D s w vs q) (hd : ∀ k, D k → E k) : RdNs E s w vs q :=
  ⟨h.1, fun i hi => ⟨(h.2 i hi).1, (h.2 i hi).2.1.mono hd, (h.2 i hi).2.2.mono (fun k hk => ⟨hk.1, hd k hk.2⟩)⟩⟩
theorem RdNs.snoc {D : Nat → Prop} {s : Nat} {w : World} {vs : List NdV} {q : List Nd} (h : RdNs D s w vs q) {v : NdV} {x : Nd} (h1 : v.k = x.k) (h2 : RdB D w v.vm x.m) (h3 : RdB (fun k => s ≤ k ∧ D k) w v.vr x.run) : RdNs D s w (vs ++ [v]) (q ++ [x]) := by
  refine ⟨by simp [h.1], fun i hi => ?_⟩
  by_cases hl : i < q.length
  · rw [gti_pre hl, gti_pre (by rw [h.1]; exact hl)]
    exact h.2 i hl
  · obtain rfl : i = q.length := by simp at hi; omega
    have e1 : gti (vs ++ [v]) q.length = v := by rw [gti_app, if_neg (by rw [h.1]; omega), h.1, Nat.sub_self]; rfl
    have e2 : gti (q ++ [x]) q.length = x := by rw [gti_app, if_neg (by omega), Nat.sub_self]; rfl
    rw [e1, e2]
    exact ⟨h1, h2, h3⟩
theorem RdNs.nil (D : Nat → Prop) (s : Nat) (w : World) : RdNs D s w [] [] := ⟨rfl, fun i hi => absurd hi (by simp)⟩
abbrev RdNv := Rd 3 encN
abbrev OwnN := Own 86 3 encN
abbrev Loc.owN (lo hi : Nat) (v : Value) (l : List NdV) : Loc := Loc.ow 86 3 encN lo hi v l
theorem OwnN.at3 {w : World} {lo hi : Nat} {A : Option Addr} {c : Nat} {l : List NdV} (h : OwnN w lo hi (.slice A l.length c) l) {k : Nat} (hk : k < l.length) :
    ∃ b off, A = some ⟨b, off, none⟩ ∧ lo ≤ b ∧ b < hi ∧ C3 w b (off + k * 3) (.int .i64 (gti l k).k) (gti l k).vm (gti l k).vr := by
  obtain ⟨b, off, hA, h1, h2, hc⟩ := Rd.at_ h.rd (fun _ => rfl) (gti_get hk)
  exact ⟨b, off, hA, h1, h2, hc 0 _ rfl, hc 1 _ rfl, hc 2 _ rfl⟩
theorem oneN : ∀ a : NdV, ∀ u ∈ encN a, u.oneCell' = true := by
  intro a u hu
  simp at hu
  rcases hu with rfl | rfl | rfl <;> rfl
theorem RdNv.lit (W : World) (x : NdV) (t : TypeId) : RdNv (W.alloc (.cells #[.int .i64 x.k, x.vm, x.vr] t)) 0 (W.heap.size + 1) (.slice (some ⟨W.heap.size, 0, none⟩) 1 1) [x] := Rd.lit W t [x] _ 1 rfl rfl (by decide) (fun _ => rfl)
theorem Own.alloc {α : Type} {e size : Nat} {enc : α → List Value} {w : World} {lo hi : Nat} {v : Value} {l : List α} (h : Own e size enc w lo hi v l) (o : Obj) : Own e size enc (w.alloc o) lo hi v l := Own.keep (Chg.alloc w o) (fun _ _ h => h) h
theorem Own.below {α : Type} {e size : Nat} {enc : α → List Value} {w W : World} {lo hi : Nat} {v : Value} {l : List α} (h : Own e size enc w lo hi v l) (hb : Below w.heap.size w W) : Own e size enc W lo hi v l := Own.keep (Chg.below hb) (fun _ _ h => h) h
end Go.Proofs.Ytmhbfoaecebobaa
end
section
namespace Go.Proofs.Ytmhbfoaecebobaa
set_option linter.unusedSimpArgs false
set_option linter.unusedVariables false
open Go.RowKit

abbrev plA (n : Net) (vt vm : Value) (c : Cnt) (vr : Value) (big : Bool) : Array Value := #[.int .i64 n.places, vt, .int .i64 n.source, .int .i64 n.sink, vm, .int .i64 c.p, .int .i64 c.c, .int .i64 c.m, .int .i64 c.r, vr, .bool big]
def PB (cs : Array Value) (g : Nat) (w : World) : Prop := w.heap[g]? = some (.cells cs 70 (0, 0))
abbrev Loc.pb (cs : Array Value) (g : Nat) : Loc := ⟨fun w => PB cs g w, fun k => k = g, fun h hd hp => (h.block g (Array.getElem?_eq_some_iff.1 hp).1 (hd g rfl)).trans hp⟩
abbrev K11 (w : World) (g : Nat) (a0 a1 a2 a3 a4 a5 a6 a7 a8 a9 a10 : Value) : Prop :=
  w.cell? ⟨g, 0, none⟩ = some a0 ∧ w.cell? ⟨g, 1, none⟩ = some a1 ∧ w.cell? ⟨g, 2, none⟩ = some a2 ∧ w.cell? ⟨g, 3, none⟩ = some a3 ∧ w.cell? ⟨g, 4, none⟩ = some a4 ∧ w.cell? ⟨g, 5, none⟩ = some a5 ∧ w.cell? ⟨g, 6, none⟩ = some a6 ∧ w.cell? ⟨g, 7, none⟩ = some a7 ∧ w.cell? ⟨g, 8, none⟩ = some a8 ∧ w.cell? ⟨g, 9, none⟩ = some a9 ∧ w.cell? ⟨g, 10, none⟩ = some a10 ∧
  w.frozen? ⟨g, 5, none⟩ = false ∧ w.frozen? ⟨g, 6, none⟩ = false ∧ w.frozen? ⟨g, 7, none⟩ = false ∧ w.frozen? ⟨g, 8, none⟩ = false ∧ w.frozen? ⟨g, 9, none⟩ = false ∧ w.frozen? ⟨g, 10, none⟩ = false
theorem PB.lt {cs : Array Value} {g : Nat} {w : World} (h : PB cs g w) : g < w.heap.size := (Array.getElem?_eq_some_iff.1 h).1
theorem PB.k11 {a0 a1 a2 a3 a4 a5 a6 a7 a8 a9 a10 : Value} {g : Nat} {w : World} (h : PB #[a0, a1, a2, a3, a4, a5, a6, a7, a8, a9, a10] g w) : K11 w g a0 a1 a2 a3 a4 a5 a6 a7 a8 a9 a10 := by
  have hc : ∀ i, w.cell? ⟨g, i, none⟩ = #[a0, a1, a2, a3, a4, a5, a6, a7, a8, a9, a10][i]? := fun i => cell_of_row w g i _ _ _ h
  have hf : ∀ i, w.frozen? ⟨g, i, none⟩ = false := fun i => by simp [World.frozen?, show w.heap[g]? = _ from h]
  exact ⟨hc 0, hc 1, hc 2, hc 3, hc 4, hc 5, hc 6, hc 7, hc 8, hc 9, hc 10, hf _, hf _, hf _, hf _, hf _, hf _⟩
theorem PB.set {cs cs' : Array Value} {g : Nat} {w : World} (h : PB cs g w) (i : Nat) (u : Value) (he : cs.setIfInBounds i u = cs') : PB cs' g (w.setCell ⟨g, i, none⟩ u) := by
  subst he
  unfold PB at h ⊢
  simp [World.setCell, Array.getElem?_modify, h]
abbrev plD (g gm r0 r1 : Nat) : Nat → Prop := fun k => k = g ∨ k = gm ∨ (r0 ≤ k ∧ k < r1)

theorem Mem.step2 {a b b' : Loc} {rest : List Loc} {D : Nat → Prop} {w W : World} (h : Mem (a :: b :: rest) w) (h' : b'.P W) (hc : Chg D w W) (ha : Apart D (a :: rest)) : Mem (a :: b' :: rest) W := ⟨a.keep hc (fun k hk hd => ha.1 k hk hd) h.1, h', h.2.2.chg hc ha.2⟩
set_option maxRecDepth 100000 in
set_option maxHeartbeats 4000000 in
theorem take_any (n : Net) (s : Pl) (t g gm np cm r0 r1 lo hi : Nat) (vt vr : Value) (w : World) (hv : RdT w lo hi vt n.trans) (hval : validB n = true) (ht : t < n.trans.length) (hpt : PT n s) (hcp : s.c.p ≤ 1000000000) (hcc : s.c.c ≤ 1000000000) (hrun : s.run.length ≤ 1000000)
    (hnp : s.m.length = np) (hM : Mem [Loc.pb (plA n (vt) (.slice (some ⟨gm, 0, none⟩) np cm) (s).c vr (s).big) g, Loc.owI gm (gm + 1) (.slice (some ⟨gm, 0, none⟩) np cm) (s).m, Loc.owI r0 r1 vr (s).run] w) (hg : g ≠ gm) (hgr : g < r0 ∨ r1 ≤ g) (hmr : gm < r0 ∨ r1 ≤ gm) (h1 : hi ≤ g) (h2 : hi ≤ gm) (h3 : hi ≤ r0) (h4 : r1 ≤ w.heap.size) (h5 : r0 ≤ w.heap.size) :
    Calls Try.prog 75 #[.pointer (some ⟨g, 0, none⟩), .int .i64 t] w fun e w' => ∃ vr' r0' r1', e = .returned (.tuple #[]) ∧ Mem [Loc.pb (plA n (vt) (.slice (some ⟨gm, 0, none⟩) np cm) (takeP n t s).c vr' (takeP n t s).big) g, Loc.owI gm (gm + 1) (.slice (some ⟨gm, 0, none⟩) np cm) (takeP n t s).m, Loc.owI r0' r1' vr' (takeP n t s).run] w' ∧ (r0' = r0 ∧ r1' = r1 ∨ w.heap.size ≤ r0') ∧ r0' ≤ w'.heap.size ∧ r1' ≤ w'.heap.size ∧ Chg (plD g gm r0 r1) w w' := by
  obtain ⟨A, c, rfl, hc, hmm⟩ := hv.form
  obtain ⟨b4, off4, vi, vo, rfl, _, _, hct, hri, hro⟩ := RdT.at3 hv ht
  obtain ⟨Ai, ci, rfl, hci, hmi⟩ := hri.form
  obtain ⟨Ao, co, rfl, hco, hmo⟩ := hro.form
  obtain ⟨Ar, cr, rfl, hcr, hmr2⟩ := hM.2.2.1.form
  have HTR := Lib.hid (trans_in hval ht)
  have HPT := Lib.hid hpt
  have HPL := Lib.hid (validB_places hval)
  have HTK : Hid (takeP n t s = takeEnd (takeOut (gti n.trans t).out (takeIn (gti n.trans t).inn s)) t) := Lib.hid rfl
  clear hv hpt hval
  obtain ⟨x, hx⟩ : ∃ x, gti n.trans t = x := ⟨_, rfl⟩
  rw [hx] at HTR HTK hct hri hro hci hmi hco hmo
  clear hx
  generalize takeP n t s = sE at *
  have M : Hid (Mem [Loc.pb (plA n (.slice (some ⟨b4, off4, none⟩) n.trans.length c) (.slice (some ⟨gm, 0, none⟩) np cm) (s).c (.slice Ar s.run.length cr) (s).big) g, Loc.owI gm (gm + 1) (.slice (some ⟨gm, 0, none⟩) np cm) (s).m, Loc.owI r0 r1 (.slice Ar s.run.length cr) (s).run, Loc.k3 w.heap.size (.string x.label) (.slice Ai x.inn.length ci) (.slice Ao x.out.length co), Loc.rdI lo hi (.slice Ai x.inn.length ci) x.inn, Loc.rdI lo hi (.slice Ao x.out.length co) x.out, Loc.cg (plD g gm r0 r1) w] (w.alloc (.cells #[.string x.label, .slice Ai x.inn.length ci, .slice Ao x.out.length co] 46))) := Lib.hid (by
    have hb : Below w.heap.size w (w.alloc (.cells #[.string x.label, .slice Ai x.inn.length ci, .slice Ao x.out.length co] 46)) := (Below.refl _ _).alloc (Nat.le_refl _) _
    have hal := hM.below hb
    exact ⟨hal.1, hal.2.1, hal.2.2.1, K3.new w _ _ _ _, hri.after hb, hro.after hb, ⟨hb.os, hb.tape, hb.output, hb.size, fun k hk _ => hb.block k hk⟩, True.intro⟩)
  have hgw : g < w.heap.size := PB.lt hM.1
  have hgmw : gm < w.heap.size := by
    have hnz := HPL.out.1
    have hln := HPT.out.len
    obtain ⟨g', cap, hv', _, h5, h6⟩ := Own.blk hM.2.1 (by omega)
    injection hv' with hv' _ _
    injection hv' with hv'
    injection hv' with hv' _ _
    omega
  have HMw := Lib.hid hM
  have HK11 := PB.k11 hM.1
  have HNP := Lib.hid hnp
  clear hM hri hro hnp
  refine calls_cps fun R hR => ?_
  have HR := Lib.hid hR
  clear hR
  go_enter Try.func75, Try.ntmps75
  have hk3 := M.out.2.2.2.1
  go_wp2_with fail
  have hgm : gm ≠ g := fun e => hg e.symm
  go_loopw [20, 6] (fun v20 _ wr => ∃ (j : Nat) (sj : Pl), j ≤ x.inn.length ∧ v20 = .int .i64 j ∧ Hid (takeIn (x.inn.drop j) sj = takeIn x.inn s) ∧ Hid (PT n sj) ∧ Hid (sj.run = s.run ∧ sj.big = s.big ∧ sj.c.p = s.c.p ∧ sj.c.c = s.c.c + j ∧ sj.m.length = np) ∧ Hid (Mem [Loc.pb (plA n (.slice (some ⟨b4, off4, none⟩) n.trans.length c) (.slice (some ⟨gm, 0, none⟩) np cm) (sj).c (.slice Ar s.run.length cr) (sj).big) g, Loc.owI gm (gm + 1) (.slice (some ⟨gm, 0, none⟩) np cm) (sj).m, Loc.owI r0 r1 (.slice Ar s.run.length cr) (sj).run, Loc.k3 w.heap.size (.string x.label) (.slice Ai x.inn.length ci) (.slice Ao x.out.length co), Loc.rdI lo hi (.slice Ai x.inn.length ci) x.inn, Loc.rdI lo hi (.slice Ao x.out.length co) x.out, Loc.cg (plD g gm r0 r1) w] wr)) (fun v20 _ _ => x.inn.length - (intOf v20).toNat)
  case atStart => exact ⟨0, s, Nat.zero_le _, rfl, Lib.hid (by simp), HPT, Lib.hid ⟨rfl, rfl, rfl, by simp, HNP.out⟩, M⟩
  case round =>
    clear M hk3 HK11
    obtain ⟨j, sj, hj, rfl, HT, HP, HS, M⟩ := hrel
    have hk3 := M.out.2.2.2.1
    have hk11 := PB.k11 M.out.1
    by_cases hlt : j < x.inn.length
    · have hkr := HTR.out.1 (gti x.inn j) (gti_mem hlt)
      have HD : Hid (takeIn (x.inn.drop j) sj = takeIn (x.inn.drop (j + 1)) (takeIn1 sj (gti x.inn j))) := Lib.hid (by rw [drop_gti hlt]; rfl)
      obtain ⟨bi, oi, rfl, _, _, hci2⟩ := RdI.at1 M.out.2.2.2.2.1 hlt
      obtain ⟨kk, hkk⟩ : ∃ k : Nat, gti x.inn j = k := ⟨(gti x.inn j).toNat, by omega⟩
      rw [hkk] at HD hci2 hkr
      clear hkk
      have hln := HP.out.len
      have hsl := HS.out.2.2.2.2
      have hk1 : kk < np := by omega
      have hat := OwnI.at1 M.out.2.1 (k := kk) (by omega)
      have hsm := HP.out.small
      have hm0 := hsm.2.2 kk
      have hcj := HS.out.2.2.2.1
      have hc0 := HP.out.c0
      have hmc := HP.out.mc
      have hpj := HS.out.2.2.1
      have hj40 := HTR.out.2.2.1
      have hb1 : 0 ≤ sj.c.c ∧ sj.c.c ≤ 1000000040 ∧ 0 ≤ sj.c.m ∧ sj.c.m ≤ 1000000040 ∧ 0 ≤ gti sj.m kk ∧ gti sj.m kk ≤ 1000000000 := by omega
      have HPn : Hid (PT n (takeIn1 sj kk)) := Lib.hid (HP.out.in1 hkr.1 hkr.2)
      clear hsm hm0 hcj hc0 hmc hpj hln hsl hj40
      obtain ⟨q1, q2, q3, q4, q5, q6⟩ := hb1
      by_cases hpos : 0 < gti sj.m kk
      · have HE : Hid (takeIn1 sj kk = ⟨sj.m.set kk (gti sj.m kk - 1), ⟨sj.c.p, sj.c.c + 1, sj.c.m, sj.c.r⟩, sj.run, sj.big⟩) := Lib.hid (by unfold takeIn1; simp only [Int.toNat_natCast]; rw [if_pos hpos])
        have hd1 : decide ((0 : Int) < gti sj.m kk) = true := by simpa using hpos
        go_wp2_with fail
        have MS1 := Mem.step (a' := Loc.pb (plA n (.slice (some ⟨b4, off4, none⟩) n.trans.length c) (.slice (some ⟨gm, 0, none⟩) np cm) ⟨sj.c.p, sj.c.c + 1, sj.c.m, sj.c.r⟩ (.slice Ar s.run.length cr) sj.big) g) M.out (PB.set M.out.1 6 (.int .i64 (sj.c.c + 1)) rfl) (Chg.set _ g 6 _) (by (repeat' (first | exact True.intro | refine And.intro (fun k hk e => ?_) ?_)) <;> (first | exact e | ((try dsimp only [Loc.c1, Loc.c2, Loc.k1, Loc.k2, Loc.k3, Loc.k4, Loc.k6, Loc.fr, Loc.bl, Loc.own, Loc.sz, Loc.rd, Loc.rdI, Loc.rdS, Loc.rdM, Loc.rdT, Loc.ow, Loc.owI, Loc.owN, Loc.set, Loc.ns, Loc.cg, Loc.pb, silD, plD] at hk e) <;> omega)))
        have MS2 := Mem.step2 (b' := Loc.owI gm (gm + 1) (.slice (some ⟨gm, 0, none⟩) np cm) (sj.m.set kk (gti sj.m kk - 1))) MS1 (OwnI.set MS1.2.1 kk (gti sj.m kk - 1)) (Chg.set _ gm kk _) (by (repeat' (first | exact True.intro | refine And.intro (fun k hk e => ?_) ?_)) <;> (first | exact e | ((try dsimp only [Loc.c1, Loc.c2, Loc.k1, Loc.k2, Loc.k3, Loc.k4, Loc.k6, Loc.fr, Loc.bl, Loc.own, Loc.sz, Loc.rd, Loc.rdI, Loc.rdS, Loc.rdM, Loc.rdT, Loc.ow, Loc.owI, Loc.owN, Loc.set, Loc.ns, Loc.cg, Loc.pb, silD, plD] at hk e) <;> omega)))
        exact ⟨⟨j + 1, takeIn1 sj kk, by omega, by go_num, Lib.hid (HD.out ▸ HT.out), HPn, Lib.hid (by
          rw [HE.out]
          refine ⟨HS.out.1, HS.out.2.1, HS.out.2.2.1, ?_, ?_⟩
          · have := HS.out.2.2.2.1; simp; omega
          · simpa using HS.out.2.2.2.2), Lib.hid (by rw [HE.out]; exact MS2)⟩, by simp [intOf]; omega⟩
      · have HE : Hid (takeIn1 sj kk = ⟨sj.m, ⟨sj.c.p, sj.c.c + 1, sj.c.m + 1, sj.c.r⟩, sj.run, sj.big⟩) := Lib.hid (by unfold takeIn1; simp only [Int.toNat_natCast]; rw [if_neg hpos])
        have hd1 : decide ((0 : Int) < gti sj.m kk) = false := by simpa using hpos
        go_wp2_with fail
        have MS1 := Mem.step (a' := Loc.pb (plA n (.slice (some ⟨b4, off4, none⟩) n.trans.length c) (.slice (some ⟨gm, 0, none⟩) np cm) ⟨sj.c.p, sj.c.c + 1, sj.c.m, sj.c.r⟩ (.slice Ar s.run.length cr) sj.big) g) M.out (PB.set M.out.1 6 (.int .i64 (sj.c.c + 1)) rfl) (Chg.set _ g 6 _) (by (repeat' (first | exact True.intro | refine And.intro (fun k hk e => ?_) ?_)) <;> (first | exact e | ((try dsimp only [Loc.c1, Loc.c2, Loc.k1, Loc.k2, Loc.k3, Loc.k4, Loc.k6, Loc.fr, Loc.bl, Loc.own, Loc.sz, Loc.rd, Loc.rdI, Loc.rdS, Loc.rdM, Loc.rdT, Loc.ow, Loc.owI, Loc.owN, Loc.set, Loc.ns, Loc.cg, Loc.pb, silD, plD] at hk e) <;> omega)))
        have MS2 := Mem.step (a' := Loc.pb (plA n (.slice (some ⟨b4, off4, none⟩) n.trans.length c) (.slice (some ⟨gm, 0, none⟩) np cm) ⟨sj.c.p, sj.c.c + 1, sj.c.m + 1, sj.c.r⟩ (.slice Ar s.run.length cr) sj.big) g) MS1 (PB.set MS1.1 7 (.int .i64 (sj.c.m + 1)) rfl) (Chg.set _ g 7 _) (by (repeat' (first | exact True.intro | refine And.intro (fun k hk e => ?_) ?_)) <;> (first | exact e | ((try dsimp only [Loc.c1, Loc.c2, Loc.k1, Loc.k2, Loc.k3, Loc.k4, Loc.k6, Loc.fr, Loc.bl, Loc.own, Loc.sz, Loc.rd, Loc.rdI, Loc.rdS, Loc.rdM, Loc.rdT, Loc.ow, Loc.owI, Loc.owN, Loc.set, Loc.ns, Loc.cg, Loc.pb, silD, plD] at hk e) <;> omega)))
        exact ⟨⟨j + 1, takeIn1 sj kk, by omega, by go_num, Lib.hid (HD.out ▸ HT.out), HPn, Lib.hid (by
          rw [HE.out]
          refine ⟨HS.out.1, HS.out.2.1, HS.out.2.2.1, ?_, ?_⟩
          · have := HS.out.2.2.2.1; simp; omega
          · simpa using HS.out.2.2.2.2), Lib.hid (by rw [HE.out]; exact MS2)⟩, by simp [intOf]; omega⟩
    · obtain rfl : j = x.inn.length := by omega
      have HT1 : Hid (sj = takeIn x.inn s) := Lib.hid (by have := HT.out; rw [List.drop_length] at this; exact this)
      clear HT
      go_wp2_with fail
      go_loopw [63, 8] (fun v63 _ wr => ∃ (j : Nat) (s2 : Pl), j ≤ x.out.length ∧ v63 = .int .i64 j ∧ Hid (takeOut (x.out.drop j) s2 = takeOut x.out (takeIn x.inn s)) ∧ Hid (PT n s2) ∧ Hid (s2.run = s.run ∧ s2.big = s.big ∧ s2.c.p = s.c.p + j ∧ s2.m.length = np) ∧ Hid (Mem [Loc.pb (plA n (.slice (some ⟨b4, off4, none⟩) n.trans.length c) (.slice (some ⟨gm, 0, none⟩) np cm) (s2).c (.slice Ar s.run.length cr) (s2).big) g, Loc.owI gm (gm + 1) (.slice (some ⟨gm, 0, none⟩) np cm) (s2).m, Loc.owI r0 r1 (.slice Ar s.run.length cr) (s2).run, Loc.k3 w.heap.size (.string x.label) (.slice Ai x.inn.length ci) (.slice Ao x.out.length co), Loc.rdI lo hi (.slice Ai x.inn.length ci) x.inn, Loc.rdI lo hi (.slice Ao x.out.length co) x.out, Loc.cg (plD g gm r0 r1) w] wr)) (fun v63 _ _ => x.out.length - (intOf v63).toNat)
      case atStart => exact ⟨0, sj, Nat.zero_le _, rfl, Lib.hid (by rw [HT1.out]; rfl), HP, Lib.hid ⟨HS.out.1, HS.out.2.1, by have := HS.out.2.2.1; simp; omega, HS.out.2.2.2.2⟩, M⟩
      case round =>
        clear M hk3 hk11 HS HP HT1 hj
        obtain ⟨j, s2, hj, rfl, HT, HP, HS, M⟩ := hrel
        have hk3 := M.out.2.2.2.1
        have hk11 := PB.k11 M.out.1
        by_cases hlt : j < x.out.length
        · have hkr := HTR.out.2.1 (gti x.out j) (gti_mem hlt)
          have HD : Hid (takeOut (x.out.drop j) s2 = takeOut (x.out.drop (j + 1)) (takeOut1 s2 (gti x.out j))) := Lib.hid (by rw [drop_gti hlt]; rfl)
          obtain ⟨bi, oi, rfl, _, _, hci2⟩ := RdI.at1 M.out.2.2.2.2.2.1 hlt
          obtain ⟨kk, hkk⟩ : ∃ k : Nat, gti x.out j = k := ⟨(gti x.out j).toNat, by omega⟩
          rw [hkk] at HD hci2 hkr
          clear hkk
          have hln := HP.out.len
          have hsl := HS.out.2.2.2
          have hk1 : kk < np := by omega
          have hat := OwnI.at1 M.out.2.1 (k := kk) (by omega)
          have hsm := HP.out.small
          have hm0 := hsm.2.2 kk
          have hpj := HS.out.2.2.1
          have hj40 := HTR.out.2.2.2
          have hb1 : 0 ≤ s2.c.p ∧ s2.c.p ≤ 1000000040 ∧ 0 ≤ gti s2.m kk ∧ gti s2.m kk ≤ 1000000040 := by omega
          have HPn : Hid (PT n (takeOut1 s2 kk)) := Lib.hid (HP.out.out1 hkr.1 hkr.2)
          have HE : Hid (takeOut1 s2 kk = ⟨s2.m.set kk (gti s2.m kk + 1), ⟨s2.c.p + 1, s2.c.c, s2.c.m, s2.c.r⟩, s2.run, s2.big⟩) := Lib.hid rfl
          clear hsm hm0 hpj hln hsl hj40
          obtain ⟨q1, q2, q3, q4⟩ := hb1
          go_wp2_with fail
          have MS1 := Mem.step (a' := Loc.pb (plA n (.slice (some ⟨b4, off4, none⟩) n.trans.length c) (.slice (some ⟨gm, 0, none⟩) np cm) ⟨s2.c.p + 1, s2.c.c, s2.c.m, s2.c.r⟩ (.slice Ar s.run.length cr) s2.big) g) M.out (PB.set M.out.1 5 (.int .i64 (s2.c.p + 1)) rfl) (Chg.set _ g 5 _) (by (repeat' (first | exact True.intro | refine And.intro (fun k hk e => ?_) ?_)) <;> (first | exact e | ((try dsimp only [Loc.c1, Loc.c2, Loc.k1, Loc.k2, Loc.k3, Loc.k4, Loc.k6, Loc.fr, Loc.bl, Loc.own, Loc.sz, Loc.rd, Loc.rdI, Loc.rdS, Loc.rdM, Loc.rdT, Loc.ow, Loc.owI, Loc.owN, Loc.set, Loc.ns, Loc.cg, Loc.pb, silD, plD] at hk e) <;> omega)))
          have MS2 := Mem.step2 (b' := Loc.owI gm (gm + 1) (.slice (some ⟨gm, 0, none⟩) np cm) (s2.m.set kk (gti s2.m kk + 1))) MS1 (OwnI.set MS1.2.1 kk (gti s2.m kk + 1)) (Chg.set _ gm kk _) (by (repeat' (first | exact True.intro | refine And.intro (fun k hk e => ?_) ?_)) <;> (first | exact e | ((try dsimp only [Loc.c1, Loc.c2, Loc.k1, Loc.k2, Loc.k3, Loc.k4, Loc.k6, Loc.fr, Loc.bl, Loc.own, Loc.sz, Loc.rd, Loc.rdI, Loc.rdS, Loc.rdM, Loc.rdT, Loc.ow, Loc.owI, Loc.owN, Loc.set, Loc.ns, Loc.cg, Loc.pb, silD, plD] at hk e) <;> omega)))
          exact ⟨⟨j + 1, takeOut1 s2 kk, by omega, by go_num, Lib.hid (HD.out ▸ HT.out), HPn, Lib.hid (by
            rw [HE.out]
            refine ⟨HS.out.1, HS.out.2.1, ?_, ?_⟩
            · have := HS.out.2.2.1; simp; omega
            · simpa using HS.out.2.2.2), Lib.hid (by rw [HE.out]; exact MS2)⟩, by simp [intOf]; omega⟩
        · obtain rfl : j = x.out.length := by omega
          have HT1 : Hid (s2 = takeOut x.out (takeIn x.inn s)) := Lib.hid (by have := HT.out; rw [List.drop_length] at this; exact this)
          have HRL : Hid (s2.run.length = s.run.length) := Lib.hid (by rw [HS.out.1])
          have HEE : Hid (sE = ⟨s2.m, s2.c, s2.run ++ [(t : Int)], s2.big || decide (100 < maxL s2.m)⟩) := Lib.hid (by rw [HTK.out, ← HT1.out]; rfl)
          have HLP : Hid (0 < s2.m.length) := Lib.hid (by have := HP.out.len; have := HPL.out; omega)
          obtain ⟨zb, hzb⟩ : ∃ z, s2.big = z := ⟨_, rfl⟩
          rw [hzb] at HEE M hk11
          clear hzb HT HT1
          have hsz := M.out.2.2.2.2.2.2.1.size
          cases zb with
          | true =>
            go_wp2_with (first | (at_builtin; refine wpList_app2 rfl _ _ rfl ti_int (fun _ => rfl) oneI rfl rfl (Mem.cons (a := Loc.owI r0 r1 _ s2.run) (M.out.alloc _).2.2.1 (Mem.cons (a := Loc.pb _ g) (M.out.alloc _).1 (Mem.cons (a := Loc.owI gm (gm + 1) _ s2.m) (M.out.alloc _).2.1 (M.out.alloc _).2.2.2))) (by (repeat' (first | exact True.intro | refine And.intro (fun k hk e => ?_) ?_)) <;> (first | exact e | ((try dsimp only [Loc.c1, Loc.c2, Loc.k1, Loc.k2, Loc.k3, Loc.k4, Loc.k6, Loc.fr, Loc.bl, Loc.own, Loc.sz, Loc.rd, Loc.rdI, Loc.rdS, Loc.rdM, Loc.rdT, Loc.ow, Loc.owI, Loc.owN, Loc.set, Loc.ns, Loc.cg, Loc.pb, silD, plD] at hk e) <;> omega))) (RdI.lit1 _ _ _) (by rw [HRL.out]; simp; omega) (by rw [HRL.out]; simp; omega) (by simp; omega) ?_; intro A9 c9 w9 q0 q1 hq9 hM9 hs9 hch9; have M9 := Lib.hid hM9; simp only [World.size_alloc] at hs9 hq9; clear hM9 hch9; replace hk11 := PB.k11 M9.out.2.1; have MB := Lib.hid (Mem.step (a' := Loc.pb (plA n (.slice (some ⟨b4, off4, none⟩) n.trans.length c) (.slice (some ⟨gm, 0, none⟩) np cm) s2.c (.slice A9 (s2.run.length + 1) c9) true) g) (Mem.cons (a := Loc.pb _ g) M9.out.2.1 (Mem.cons (a := Loc.owI q0 q1 _ (s2.run ++ [(t : Int)])) M9.out.1 M9.out.2.2)) (PB.set M9.out.2.1 9 (.slice A9 (s2.run.length + 1) c9) rfl) (Chg.set _ g 9 _) (by (repeat' (first | exact True.intro | refine And.intro (fun k hk e => ?_) ?_)) <;> (first | exact e | ((try dsimp only [Loc.c1, Loc.c2, Loc.k1, Loc.k2, Loc.k3, Loc.k4, Loc.k6, Loc.fr, Loc.bl, Loc.own, Loc.sz, Loc.rd, Loc.rdI, Loc.rdS, Loc.rdM, Loc.rdT, Loc.ow, Loc.owI, Loc.owN, Loc.set, Loc.ns, Loc.cg, Loc.pb, silD, plD] at hk e) <;> omega))))))
            have MC := Mem.step (a' := Loc.pb (plA n (.slice (some ⟨b4, off4, none⟩) n.trans.length c) (.slice (some ⟨gm, 0, none⟩) np cm) s2.c (.slice A9 (s2.run.length + 1) c9) (true)) g) MB.out (PB.set MB.out.1 10 (.bool (true)) rfl) (Chg.set _ g 10 _) (by (repeat' (first | exact True.intro | refine And.intro (fun k hk e => ?_) ?_)) <;> (first | exact e | ((try dsimp only [Loc.c1, Loc.c2, Loc.k1, Loc.k2, Loc.k3, Loc.k4, Loc.k6, Loc.fr, Loc.bl, Loc.own, Loc.sz, Loc.rd, Loc.rdI, Loc.rdS, Loc.rdM, Loc.rdT, Loc.ow, Loc.owI, Loc.owN, Loc.set, Loc.ns, Loc.cg, Loc.pb, silD, plD] at hk e) <;> omega)))
            go_end0
            refine HR.out _ _ ⟨.slice A9 (s2.run.length + 1) c9, q0, q1, rfl, ?_, ?_, ?_, ?_, MC.2.2.2.2.2.2.1⟩
            · rw [HEE.out]
              exact ⟨MC.1, MC.2.2.1, MC.2.1, True.intro⟩
            · omega
            · simp only [size_setCell]; omega
            · simp only [size_setCell]; omega
          | false =>
            go_wp2_with (first
              | (at_builtin; refine wpList_app2 rfl _ _ rfl ti_int (fun _ => rfl) oneI rfl rfl (Mem.cons (a := Loc.owI r0 r1 _ s2.run) (M.out.alloc _).2.2.1 (Mem.cons (a := Loc.pb _ g) (M.out.alloc _).1 (Mem.cons (a := Loc.owI gm (gm + 1) _ s2.m) (M.out.alloc _).2.1 (M.out.alloc _).2.2.2))) (by (repeat' (first | exact True.intro | refine And.intro (fun k hk e => ?_) ?_)) <;> (first | exact e | ((try dsimp only [Loc.c1, Loc.c2, Loc.k1, Loc.k2, Loc.k3, Loc.k4, Loc.k6, Loc.fr, Loc.bl, Loc.own, Loc.sz, Loc.rd, Loc.rdI, Loc.rdS, Loc.rdM, Loc.rdT, Loc.ow, Loc.owI, Loc.owN, Loc.set, Loc.ns, Loc.cg, Loc.pb, silD, plD] at hk e) <;> omega))) (RdI.lit1 _ _ _) (by rw [HRL.out]; simp; omega) (by rw [HRL.out]; simp; omega) (by simp; omega) ?_; intro A9 c9 w9 q0 q1 hq9 hM9 hs9 hch9; have M9 := Lib.hid hM9; simp only [World.size_alloc] at hs9 hq9; clear hM9 hch9; replace hk11 := PB.k11 M9.out.2.1; have MB := Lib.hid (Mem.step (a' := Loc.pb (plA n (.slice (some ⟨b4, off4, none⟩) n.trans.length c) (.slice (some ⟨gm, 0, none⟩) np cm) s2.c (.slice A9 (s2.run.length + 1) c9) false) g) (Mem.cons (a := Loc.pb _ g) M9.out.2.1 (Mem.cons (a := Loc.owI q0 q1 _ (s2.run ++ [(t : Int)])) M9.out.1 M9.out.2.2)) (PB.set M9.out.2.1 9 (.slice A9 (s2.run.length + 1) c9) rfl) (Chg.set _ g 9 _) (by (repeat' (first | exact True.intro | refine And.intro (fun k hk e => ?_) ?_)) <;> (first | exact e | ((try dsimp only [Loc.c1, Loc.c2, Loc.k1, Loc.k2, Loc.k3, Loc.k4, Loc.k6, Loc.fr, Loc.bl, Loc.own, Loc.sz, Loc.rd, Loc.rdI, Loc.rdS, Loc.rdM, Loc.rdT, Loc.ow, Loc.owI, Loc.owN, Loc.set, Loc.ns, Loc.cg, Loc.pb, silD, plD] at hk e) <;> omega)))))
              | (go_at_call 98; refine (maxL_any s2.m _ gm (gm + 1) _ (Own.rd MB.out.2.2.1) HLP.out).mono ?_; rintro e w10 ⟨rfl, hb10⟩; replace MB := Lib.hid (MB.out.below hb10); have hz10 := hb10.size; simp only [size_setCell] at hz10; clear hb10; replace hk11 := PB.k11 MB.out.1))
            have MC := Mem.step (a' := Loc.pb (plA n (.slice (some ⟨b4, off4, none⟩) n.trans.length c) (.slice (some ⟨gm, 0, none⟩) np cm) s2.c (.slice A9 (s2.run.length + 1) c9) (decide ((100 : Int) < maxL s2.m))) g) MB.out (PB.set MB.out.1 10 (.bool (decide ((100 : Int) < maxL s2.m))) rfl) (Chg.set _ g 10 _) (by (repeat' (first | exact True.intro | refine And.intro (fun k hk e => ?_) ?_)) <;> (first | exact e | ((try dsimp only [Loc.c1, Loc.c2, Loc.k1, Loc.k2, Loc.k3, Loc.k4, Loc.k6, Loc.fr, Loc.bl, Loc.own, Loc.sz, Loc.rd, Loc.rdI, Loc.rdS, Loc.rdM, Loc.rdT, Loc.ow, Loc.owI, Loc.owN, Loc.set, Loc.ns, Loc.cg, Loc.pb, silD, plD] at hk e) <;> omega)))
            go_end0
            refine HR.out _ _ ⟨.slice A9 (s2.run.length + 1) c9, q0, q1, rfl, ?_, ?_, ?_, ?_, MC.2.2.2.2.2.2.1⟩
            · rw [HEE.out]
              exact ⟨MC.1, MC.2.2.1, MC.2.1, True.intro⟩
            · omega
            · simp only [size_setCell]; omega
            · simp only [size_setCell]; omega
end Go.Proofs.Ytmhbfoaecebobaa
end
section
namespace Go.Proofs.Ytmhbfoaecebobaa
set_option linter.unusedSimpArgs false
set_option linter.unusedVariables false
open Go.RowKit

theorem toList_inj {x a : ByteArray} : x.toList = a.toList ↔ x = a := by
  rw [ByteArray.toList_eq, ByteArray.toList_eq]
  constructor
  · intro h
    exact ByteArray.ext (Array.toList_inj.1 h)
  · intro h; rw [h]
set_option maxHeartbeats 1000000 in
theorem indexFT_any (f : FuncId) (hent : Ent f) (cap : Array Value) (p : Tr → Bool) (l : List Tr) (lo hi : Nat) (v : Value) (w : World) (hv : RdT w lo hi v l)
    (hf : ∀ k, k < l.length → ∀ vi vo W, Below w.heap.size w W → RdI W lo hi vi (gti l k).inn → RdI W lo hi vo (gti l k).out → Calls Try.prog f (#[trV (gti l k) vi vo] ++ cap) W fun e W' => e = .returned (.bool (p (gti l k))) ∧ Below W.heap.size W W') :
    Calls Try.prog 65 #[v, .func (.func f) #[] cap] w fun e w' => e = .returned (.int .i64 (firstAt p l)) ∧ Below w.heap.size w w' := by
  obtain ⟨A, c, rfl, hc, hm⟩ := hv.form
  unfold Ent at hent
  have HF := Lib.hid hf
  clear hf
  have HA := Lib.hid hv
  clear hv
  refine calls_cps fun R hR => ?_
  have HR := Lib.hid hR
  clear hR
  go_enter Try.func65, Try.ntmps65
  go_wp2
  go_loopw [8, 5] (fun i _ wr => ∃ k : Nat, k ≤ l.length ∧ i = .int .i64 k ∧ Hid (∀ j a, j < k → l[j]? = some a → p a = false) ∧ Hid (Below w.heap.size w wr)) (fun i _ _ => l.length - (intOf i).toNat)
  case atStart => exact ⟨0, Nat.zero_le _, rfl, Lib.hid (fun j a h => absurd h (by omega)), Lib.hid (Below.refl _ _)⟩
  case round =>
    obtain ⟨k, hk, rfl, HNO, HB⟩ := hrel
    by_cases hlt : k < l.length
    · obtain ⟨b, off, vi, vo, rfl, _, _, hcell, hri, hro⟩ := RdT.at3 (HA.out.after HB.out) hlt
      have HFk := Lib.hid (HF.out k hlt vi vo wr HB.out hri hro)
      obtain ⟨Ai, ci, rfl, hci, hmi⟩ := hri.form
      obtain ⟨Ao, co, rfl, hco, hmo⟩ := hro.form
      clear hri hro
      have HA2 := Lib.hid (gti_get hlt)
      generalize gti l k = a at *
      go_wp2_with fail
      refine HFk.out.mono ?_
      rintro e w1 ⟨rfl, hb1⟩
      have HB1 := Lib.hid hb1
      clear hb1
      cases hp : p a with
      | true =>
        have HP := Lib.hid hp
        clear hp
        go_wp2
        exact HR.out _ _ ⟨ret_int (firstAt_some HA2.out HP.out HNO.out).symm, HB.out.trans (HB1.out.mono HB.out.size)⟩
      | false =>
        have HP := Lib.hid hp
        clear hp
        go_wp2
        exact ⟨⟨k + 1, by omega, by go_num, Lib.hid (snoc_no HNO.out HA2.out HP.out), Lib.hid (HB.out.trans (HB1.out.mono HB.out.size))⟩, by simp [intOf]; omega⟩
    · go_wp2
      have hkl : k = l.length := by omega
      exact HR.out _ _ ⟨ret_int (firstAt_none (by rw [← hkl]; exact HNO.out)).symm, HB.out⟩

theorem ent_en11 : Ent 103 := ent_of Try.func103 (by kernel_rfl) rfl
theorem ent_en1 : Ent 102 := ent_of Try.func102 (by kernel_rfl) rfl
theorem ent_play1 : Ent 72 := ent_of Try.func72 (by kernel_rfl) rfl
theorem ent_play2 : Ent 76 := ent_of Try.func76 (by kernel_rfl) rfl
theorem ent_fin1 : Ent 77 := ent_of Try.func77 (by kernel_rfl) rfl
set_option maxHeartbeats 400000 in
theorem en11_any (m : List Int) (v : Value) (lo hi g : Nat) (p : Int) (w : World) (hg : C1 w g 0 v) (hv : RdI w lo hi v m) (h0 : 0 ≤ p) (h1 : p < m.length) :
    Calls Try.prog 103 #[.int .i64 p, .pointer (some ⟨g, 0, none⟩)] w fun e w' => e = .returned (.bool (decide (gti m p.toNat = 0))) ∧ Below w.heap.size w w' := by
  obtain ⟨k, rfl⟩ : ∃ k : Nat, p = k := ⟨p.toNat, by omega⟩
  have hlt : k < m.length := by omega
  clear h0 h1
  obtain ⟨A, c, rfl, hc, hm⟩ := hv.form
  obtain ⟨b, off, rfl, _, _, hcell⟩ := RdI.at1 hv hlt
  have HV := Lib.hid hv
  clear hv
  simp only [Int.toNat_natCast]
  refine calls_cps fun R hR => ?_
  have HR := Lib.hid hR
  clear hR
  go_enter Try.func103, Try.ntmps103
  go_wp2_with fail
  all_goals (refine HR.out _ _ ⟨ret_bool ?_, Below.refl _ _⟩ <;> (go_light; grind))
set_option maxRecDepth 100000 in
set_option maxHeartbeats 400000 in
theorem en1_any (t : Tr) (vi vo : Value) (act : ByteArray) (m : List Int) (v : Value) (lo hi lo' hi' gl gb : Nat) (w : World) (hl : C1 w gl 0 (.string act)) (hb : C1 w gb 0 v) (hi1 : RdI w lo hi vi t.inn) (ho1 : RdI w lo hi vo t.out) (hv : RdI w lo' hi' v m) (hin : ∀ p ∈ t.inn, 0 ≤ p ∧ p < m.length) :
    Calls Try.prog 102 #[trV t vi vo, .pointer (some ⟨gl, 0, none⟩), .pointer (some ⟨gb, 0, none⟩)] w fun e w' => e = .returned (.bool (enB2 m act t)) ∧ Below w.heap.size w w' := by
  obtain ⟨A2, c2, rfl, hc2, hm2⟩ := hi1.form
  obtain ⟨A3, c3, rfl, hc3, hm3⟩ := ho1.form
  have HV := Lib.hid hv
  have HI := Lib.hid hi1
  have HN := Lib.hid hin
  have HBB := Lib.hid hb
  have hgl := World.block_lt_of_cell? w _ hl
  dsimp only at hgl
  have hnl : gl ≠ w.heap.size := by omega
  have HC : Hid (∀ W, Below w.heap.size w W → Calls Try.prog 95 #[.slice A2 t.inn.length c2, .func (.func 103) #[] #[.pointer (some ⟨gb, 0, none⟩)]] W fun e w' => e = .returned (.bool (t.inn.any fun p => decide (gti m p.toNat = 0))) ∧ Below W.heap.size W w') :=
    Lib.hid (fun W hW => containsFI_any 103 ent_en11 #[.pointer (some ⟨gb, 0, none⟩)] (fun p => decide (gti m p.toNat = 0)) t.inn lo hi _ W (HI.out.after hW) (fun a ha W' hW' => en11_any m _ lo' hi' _ a W' (cell_aft hW' (cell_aft hW HBB.out)) ((HV.out.after hW).after hW') (HN.out a ha).1 (HN.out a ha).2))
  clear hv hi1 hin ho1 hb
  have hb0 : Below w.heap.size w (w.alloc (Obj.cells #[Value.string t.label, Value.slice A2 t.inn.length c2, .slice A3 t.out.length c3] 46)) := (Below.refl _ _).alloc (Nat.le_refl _) _
  have HB0 := Lib.hid hb0
  have HEN : Hid (enB2 m act t = (decide (t.label = act) && !t.inn.any fun p => decide (gti m p.toNat = 0))) := Lib.hid rfl
  clear hb0
  by_cases hla : t.label.toList = act.toList
  · have HLA := Lib.hid (toList_inj.1 hla)
    refine calls_cps fun R hR => ?_
    have HR := Lib.hid hR
    clear hR
    go_enter Try.func102, Try.ntmps102
    go_wp2_with (go_at_call 95; refine (HC.out _ HB0.out).mono ?_; rintro e w1 ⟨rfl, hb1⟩; replace HB0 := Lib.hid (HB0.out.trans (hb1.mono HB0.out.size)); clear hb1)
    exact HR.out _ _ ⟨ret_bool (by rw [HEN.out, decide_eq_true HLA.out]; rfl), HB0.out⟩
  · have HLA := Lib.hid (fun e => hla (toList_inj.2 e))
    refine calls_cps fun R hR => ?_
    have HR := Lib.hid hR
    clear hR
    go_enter Try.func102, Try.ntmps102
    go_wp2_with fail
    exact HR.out _ _ ⟨ret_bool (by rw [HEN.out, decide_eq_false HLA.out]; rfl), HB0.out⟩

/-- all places of all transitions are below k -/
def InOk (n : Net) (k : Nat) : Prop := ∀ i, i < n.trans.length → ∀ p ∈ (gti n.trans i).inn, 0 ≤ p ∧ p < (k : Int)
theorem InOk.of {n : Net} {k : Nat} (hv : validB n = true) (hk : (k : Int) = n.places) : InOk n k := fun i hi p hp => by have := (trans_in hv hi).1 p hp; omega
set_option maxRecDepth 100000 in
set_option maxHeartbeats 400000 in
theorem enabledP_any (n : Net) (m : List Int) (act : ByteArray) (g lo hi lo' hi' : Nat) (vt v : Value) (w : World) (hg : C1 w g 1 vt) (hv : RdT w lo hi vt n.trans) (hm : RdI w lo' hi' v m) (hin : InOk n m.length) :
    Calls Try.prog 73 #[.pointer (some ⟨g, 0, none⟩), v, .string act] w fun e w' => e = .returned (.int .i64 (enabledAt n m act)) ∧ Below w.heap.size w w' := by
  obtain ⟨A, c, rfl, hc, hmm⟩ := hv.form
  obtain ⟨A2, c2, rfl, hc2, hmm2⟩ := hm.form
  have hgw := World.block_lt_of_cell? w _ hg
  dsimp only at hgw
  have hg0 : g ≠ w.heap.size := by omega
  have hg1 : g ≠ w.heap.size + 1 := by omega
  have hb0 : Below w.heap.size w ((w.alloc (.cells #[.slice A2 m.length c2] 30)).alloc (.cells #[.string act] 9)) := ((Below.refl _ _).alloc (Nat.le_refl _) _).alloc (by simp) _
  have HB0 := Lib.hid hb0
  have HC := Lib.hid (indexFT_any 102 ent_en1 #[.pointer (some ⟨w.heap.size + 1, 0, none⟩), .pointer (some ⟨w.heap.size, 0, none⟩)] (enB2 m act) n.trans lo hi _ _ (hv.after hb0)
    (fun k hk vi vo W hW hvi hvo => en1_any (gti n.trans k) vi vo act m _ lo hi lo' hi' _ _ W (cell_aft hW (by simp [C1, go_sem])) (cell_aft hW (by simp [C1, go_sem])) hvi hvo ((hm.after hb0).after hW) (hin k hk)))
  have HE : Hid (enabledAt n m act = firstAt (enB2 m act) n.trans) := Lib.hid rfl
  clear hv hm hin hb0
  refine calls_cps fun R hR => ?_
  have HR := Lib.hid hR
  clear hR
  go_enter Try.func73, Try.ntmps73
  go_wp2_with (go_at_call 65; refine HC.out.mono ?_; rintro e w1 ⟨rfl, hb1⟩; replace HB0 := Lib.hid (HB0.out.trans (hb1.mono HB0.out.size)); clear hb1)
  exact HR.out _ _ ⟨ret_int HE.out.symm, HB0.out⟩
set_option maxHeartbeats 400000 in
theorem play1_any (n : Net) (m : List Int) (act : ByteArray) (g gp ga lo hi lo' hi' : Nat) (vt v : Value) (w : World) (hp : C1 w gp 0 (.pointer (some ⟨g, 0, none⟩))) (ha : C1 w ga 0 (.string act)) (hg : C1 w g 1 vt) (hv : RdT w lo hi vt n.trans) (hm : RdI w lo' hi' v m) (hin : InOk n m.length) :
    Calls Try.prog 72 #[v, .pointer (some ⟨gp, 0, none⟩), .pointer (some ⟨ga, 0, none⟩)] w fun e w' => e = .returned (.bool (goodA n act m)) ∧ Below w.heap.size w w' := by
  have HC := Lib.hid (enabledP_any n m act g lo hi lo' hi' vt v w hg hv hm hin)
  clear hv hm hin hg
  refine calls_cps fun R hR => ?_
  have HR := Lib.hid hR
  clear hR
  go_enter Try.func72, Try.ntmps72
  go_wp2_with (go_at_call 73; refine HC.out.mono ?_; rintro e w1 ⟨rfl, hb1⟩; have HB1 := Lib.hid hb1; clear hb1)
  exact HR.out _ _ ⟨ret_bool (by unfold goodA; go_light; grind), HB1.out⟩
set_option maxHeartbeats 400000 in
theorem play2_any (t : Tr) (vi vo : Value) (act : ByteArray) (ga : Nat) (w : World) (ha : C1 w ga 0 (.string act)) (hvi : ∃ A n c, vi = .slice A n c) (hvo : ∃ A n c, vo = .slice A n c) :
    Calls Try.prog 76 #[trV t vi vo, .pointer (some ⟨ga, 0, none⟩)] w fun e w' => e = .returned (.bool (labB act t)) ∧ Below w.heap.size w w' := by
  obtain ⟨A, k, c, rfl⟩ := hvi
  obtain ⟨B, k2, c2, rfl⟩ := hvo
  have hgl := World.block_lt_of_cell? w _ ha
  dsimp only at hgl
  have hnl : ga ≠ w.heap.size := by omega
  have hb0 : Below w.heap.size w (w.alloc (Obj.cells #[Value.string t.label, .slice A k c, .slice B k2 c2] 46)) := (Below.refl _ _).alloc (Nat.le_refl _) _
  have HB0 := Lib.hid hb0
  clear hb0
  refine calls_cps fun R hR => ?_
  have HR := Lib.hid hR
  clear hR
  go_enter Try.func76, Try.ntmps76
  go_wp2_with fail
  all_goals have hinj := @toList_inj t.label act
  all_goals exact HR.out _ _ ⟨ret_bool (by unfold labB; go_light; grind), HB0.out⟩
set_option maxHeartbeats 400000 in
theorem fin1_any (n : Net) (m : List Int) (g gp lo' hi' ks : Nat) (v : Value) (w : World) (hp : C1 w gp 0 (.pointer (some ⟨g, 0, none⟩))) (hks : n.sink = ks) (hg : C1 w g 3 (.int .i64 n.sink)) (hm : RdI w lo' hi' v m) (hk : ks < m.length) :
    Calls Try.prog 77 #[v, .pointer (some ⟨gp, 0, none⟩)] w fun e w' => e = .returned (.bool (goodF n m)) ∧ Below w.heap.size w w' := by
  have HE : Hid (goodF n m = decide (0 < gti m ks)) := Lib.hid (by unfold goodF; rw [hks]; rfl)
  rw [hks] at hg
  clear hks
  obtain ⟨A, c, rfl, hc, hmm⟩ := hm.form
  obtain ⟨b, off, rfl, _, _, hcell⟩ := RdI.at1 hm hk
  clear hm
  refine calls_cps fun R hR => ?_
  have HR := Lib.hid hR
  clear hR
  go_enter Try.func77, Try.ntmps77
  go_wp2_with fail
  all_goals exact HR.out _ _ ⟨ret_bool (by first | (rw [HE.out]; done) | (rw [HE.out]; go_light; grind)), Below.refl _ _⟩
end Go.Proofs.Ytmhbfoaecebobaa
end
section
namespace Go.Proofs.Ytmhbfoaecebobaa
set_option linter.unusedSimpArgs false
set_option linter.unusedVariables false
open Go.RowKit Go.Maps Go.WideMaps

/-- what a search returns -/
def RetW (w : World) (r : Option (List Int)) (e : Ending) (w' : World) : Prop :=
  ∃ A c, e = .returned (.tuple #[.slice A (r.getD []).length c, .bool r.isSome]) ∧ RdI w' w.heap.size w'.heap.size (.slice A (r.getD []).length c) (r.getD []) ∧ Below w.heap.size w w'
abbrev silD (hh gs qb : Nat) : Nat → Prop := fun k => k < hh ∧ k ≠ gs ∧ k ≠ qb
set_option maxRecDepth 100000 in
set_option maxHeartbeats 4000000 in
theorem silent_any (n : Net) (m : List Int) (vt v : Value) (lo hi lo' hi' : Nat) (f : FuncId) (hent : Ent f) (cap : Array Value) (good : List Int → Bool) (w : World) (hv : RdT w lo hi vt n.trans) (hm : RdI w lo' hi' v m) (hmk : markB n m = true) (hhi : hi' ≤ w.heap.size)
    (hg : ∀ (x : List Int) (lo hi : Nat) (v : Value) (W : World), markB n x = true → Below w.heap.size w W → RdI W lo hi v x → Calls Try.prog f (#[v] ++ cap) W fun e W' => e = .returned (.bool (good x)) ∧ Below W.heap.size W W') :
    Calls Try.prog 71 #[netV n vt, v, .func (.func f) #[] cap] w (RetW w (silE n good m)) := by
  obtain ⟨A, c, rfl, hc, hmm⟩ := hv.form
  obtain ⟨A2, c2, rfl, hc2, hmm2⟩ := hm.form
  have HV := Lib.hid hv
  have HW := Lib.hid hm
  have HG := Lib.hid hg
  have HMK := Lib.hid hmk
  have HML := Lib.hid (markB_len hmk)
  unfold Ent at hent
  clear hv hm hg hmk
  have hmmk := @run_makeMap Try.prog
  refine calls_cps fun R hR => ?_
  have HR := Lib.hid hR
  clear hR
  go_enter Try.func71, Try.ntmps71
  have M : Hid (Mem [Loc.k4 w.heap.size (.int .i64 n.places) (.slice A n.trans.length c) (.int .i64 n.source) (.int .i64 n.sink), Loc.bl w.heap.size w] (w.alloc (.cells #[.int .i64 n.places, .slice A n.trans.length c, .int .i64 n.source, .int .i64 n.sink] 24))) := Lib.hid ⟨K4.new w _ _ _ _ _, ⟨(Below.refl _ _).alloc (Nat.le_refl _) _, by simp⟩, True.intro⟩
  have hk4 := M.out.1
  have M2 : Hid (Mem [Loc.set (w.heap.size + 1) [], Loc.k4 w.heap.size (.int .i64 n.places) (.slice A n.trans.length c) (.int .i64 n.source) (.int .i64 n.sink), Loc.bl w.heap.size w] ((w.alloc (.cells #[.int .i64 n.places, .slice A n.trans.length c, .int .i64 n.source, .int .i64 n.sink] 24)).alloc (.map #[] 0))) := Lib.hid ⟨by have := SetAt.made (w.alloc (.cells #[.int .i64 n.places, .slice A n.trans.length c, .int .i64 n.source, .int .i64 n.sink] 24)); rw [World.size_alloc] at this; exact this, M.out.alloc _⟩
  go_wp2_with (first
    | (go_at_call 44; refine (key_any m lo' hi' _ _ (HW.out.after M2.out.2.2.1.1) (markB_small HMK.out) (by have := HML.out; omega) (by have := HML.out; intro e; rw [e] at this; simp at this)).mono ?_; rintro e w1 ⟨rfl, hb1⟩; replace M := Lib.hid (M2.out.below hb1); clear hb1 M2)
    | (refine wpList_put_set rfl _ _ _ (.inr rfl) (keyL m) rfl rfl rfl M.out (by (repeat' (first | exact True.intro | refine And.intro (fun k hk e => ?_) ?_)) <;> (first | exact e | ((try dsimp only [Loc.c1, Loc.c2, Loc.k1, Loc.k2, Loc.k3, Loc.k4, Loc.k6, Loc.fr, Loc.bl, Loc.own, Loc.sz, Loc.rd, Loc.rdI, Loc.rdS, Loc.rdM, Loc.rdT, Loc.ow, Loc.owI] at hk e) <;> omega))) (by rw [keyL_len]; have := HML.out; omega) (by simp) ?_; intro w2 hM2 hs2; replace M := Lib.hid hM2; clear hM2; replace hk4 := M.out.2.1))
  have hgs : w.heap.size + 1 < w2.heap.size := SetAt.lt M.out.1
  obtain ⟨qb, hqb⟩ : ∃ b, b = w2.heap.size := ⟨_, rfl⟩
  have M0 : Hid (Mem [Loc.owN qb (qb + 1) (.slice (some ⟨qb, 0, none⟩) 1 1) [⟨0, A2, m.length, c2, none, 0, 0⟩], Loc.set (w.heap.size + 1) (keysOf [⟨0, m, []⟩]), Loc.ns (silD w2.heap.size (w.heap.size + 1) qb) (w.heap.size + 2) [⟨0, A2, m.length, c2, none, 0, 0⟩] [⟨0, m, []⟩], Loc.k4 w.heap.size (.int .i64 n.places) (.slice A n.trans.length c) (.int .i64 n.source) (.int .i64 n.sink), Loc.bl w.heap.size w] (w2.alloc (.cells #[.int .i64 0, .slice A2 m.length c2, .slice none 0 0] 86))) := Lib.hid (by
    have hal := M.out.alloc (.cells #[.int .i64 0, .slice A2 m.length c2, .slice none 0 0] 86)
    refine ⟨?_, hal.1, ?_, hal.2⟩
    · rw [hqb]
      exact Own.lit w2 86 _ _ _ 1 rfl rfl (Nat.le_refl _) (by decide) (fun _ => rfl)
    · refine RdNs.snoc (RdNs.nil _ _ _) (v := ⟨0, A2, m.length, c2, none, 0, 0⟩) (x := ⟨0, m, []⟩) rfl (RdB.of (HW.out.after hal.2.2.1.1) (fun k h1 h2 => ⟨by omega, by omega, by omega⟩)) (RdB.nil _ _))
  have HQ0 : Hid (QI n m [⟨0, m, []⟩]) := Lib.hid (QI.init HMK.out)
  have hqs : qb < w2.heap.size + 1 := by omega
  have hgq : w.heap.size + 1 < qb := by omega
  go_wp2_with fail
  rw [← hqb]
  go_loopw [10, 9, 11, 12, 13, 14, 15] (fun v10 v9 _ _ _ _ _ wr => ∃ (i : Nat) (q : List Nd) (vs : List NdV) (B : Option Addr) (d qb hh : Nat), i ≤ q.length ∧ v10 = .int .i64 i ∧ v9 = .slice B vs.length d ∧ hh ≤ wr.heap.size ∧ w.heap.size + 1 < qb ∧ qb < wr.heap.size ∧ Hid (QI n m q) ∧ Hid (silE n good m = srch n good (201 - i) i q) ∧ Hid (Mem [Loc.owN qb (qb + 1) (.slice B vs.length d) vs, Loc.set (w.heap.size + 1) (keysOf q), Loc.ns (silD hh (w.heap.size + 1) qb) (w.heap.size + 2) vs q, Loc.k4 w.heap.size (.int .i64 n.places) (.slice A n.trans.length c) (.int .i64 n.source) (.int .i64 n.sink), Loc.bl w.heap.size w] wr)) (fun v10 _ _ _ _ _ _ _ => 201 - (intOf v10).toNat)
  case atStart => exact ⟨0, _, _, _, 1, qb, w2.heap.size, Nat.zero_le _, rfl, rfl, by simp, hgq, by simp; omega, HQ0, Lib.hid rfl, M0⟩
  case round =>
    clear M M0 HQ0 hqs hgq hqb hk4 hgs hmmk
    obtain ⟨i, q, vs, B, d, qb, hh, hil, rfl, rfl, hhs, hgq, hqs, HQ, HI, M⟩ := hrel
    have hk4 := M.out.2.2.2.1
    have hvl := M.out.2.2.1.1
    have hql := HQ.out.len
    by_cases hlt : i < q.length
    · obtain ⟨hxm, hxr, hxt⟩ := HQ.out.at_ i hlt
      obtain ⟨bq, offq, rfl, _, _, hcq⟩ := OwnN.at3 M.out.1 (k := i) (by omega)
      have hlt' : i < vs.length := by omega
      obtain ⟨hxk, hxm2, hxr2⟩ := M.out.2.2.1.2 i hlt
      have HXM := Lib.hid hxm
      have HXR := Lib.hid hxr
      have HXT := Lib.hid hxt
      obtain ⟨bm, hxm3⟩ := hxm2.rd
      have HRM := Lib.hid hxm3
      have HRR := Lib.hid hxr2
      have HS1 : Hid (silE n good m = if good (gti q i).m then some (gti q i).run else srch n good (201 - (i + 1)) (i + 1) (roundS n (gti q i) q n.trans.length)) := Lib.hid (by
        rw [HI.out]
        have e : 201 - i = (201 - (i + 1)) + 1 := by omega
        rw [e, srch, if_pos hlt])
      have HRD : Hid (∀ k, k ≤ n.trans.length → QI n m (roundS n (gti q i) q k)) := Lib.hid (fun k hk => HQ.out.round hlt hk)
      have HRA : Hid (∀ k, i < (roundS n (gti q i) q k).length ∧ gti (roundS n (gti q i) q k) i = gti q i) := Lib.hid (roundS_at hlt (gti q i))
      have HVL := Lib.hid hvl
      clear HI hxm hxr hxt hxm2 hxm3 hxr2 HXT hvl
      obtain ⟨x, hx⟩ : ∃ x, gti q i = x := ⟨_, rfl⟩
      obtain ⟨xv, hxv⟩ : ∃ x, gti vs i = x := ⟨_, rfl⟩
      have HX := Lib.hid hx
      have HXV := Lib.hid hxv
      rw [hx] at HS1 HRD HRA HXM HXR HRM HRR hxk
      rw [hxv] at HRM HRR hxk hcq
      clear hx hxv
      obtain ⟨xk, am, nm, cm, ar, nr, cr⟩ := xv
      dsimp only at hxk hcq HRM HRR
      have hnm : nm = x.m.length := by obtain ⟨_, _, h, _⟩ := HRM.out.form; injection h
      have hnr : nr = x.run.length := by obtain ⟨_, h⟩ := HRR.out; obtain ⟨_, _, h, _⟩ := h.2.form; injection h
      subst hnm hnr hxk
      have M3 : Hid (Mem [Loc.k3 wr.heap.size (.int .i64 x.k) (.slice am x.m.length cm) (.slice ar x.run.length cr), Loc.owN qb (qb + 1) (.slice (some ⟨bq, offq, none⟩) vs.length d) vs, Loc.set (w.heap.size + 1) (keysOf q), Loc.ns (silD hh (w.heap.size + 1) qb) (w.heap.size + 2) vs q, Loc.k4 w.heap.size (.int .i64 n.places) (.slice A n.trans.length c) (.int .i64 n.source) (.int .i64 n.sink), Loc.bl w.heap.size w] (wr.alloc (.cells #[.int .i64 x.k, .slice am x.m.length cm, .slice ar x.run.length cr] 86))) :=
        Lib.hid ⟨K3.new wr _ _ _ _, M.out.alloc _⟩
      have HRM3 := Lib.hid (HRM.out.after ((Below.refl _ _).alloc (Nat.le_refl _) (.cells #[.int .i64 x.k, .slice am x.m.length cm, .slice ar x.run.length cr] 86)))
      have HRR3 := Lib.hid (HRR.out.keep (Chg.alloc wr (.cells #[.int .i64 x.k, .slice am x.m.length cm, .slice ar x.run.length cr] 86)) (fun _ _ h => h))
      clear M HRM HRR
      have hkx := M3.out.1
      go_wp2_with fail
      refine (HG.out x.m bm (bm + 1) _ _ HXM.out M3.out.2.2.2.2.2.1.1 HRM3.out).mono ?_
      rintro e w3 ⟨rfl, hb3⟩
      have M := Lib.hid (M3.out.below hb3)
      have HRR := Lib.hid (HRR3.out.keep (Chg.below hb3) (fun _ _ h => h))
      have hw3 := hb3.size
      simp only [World.size_alloc] at hw3
      clear M3 hb3 HRM3 HRR3 hcq
      generalize wr.heap.size = gx at *
      replace hkx := M.out.1
      replace hk4 := M.out.2.2.2.2.1
      obtain ⟨zg, hzg⟩ : ∃ z, good x.m = z := ⟨_, rfl⟩
      rw [hzg] at HS1
      rw [hzg]
      clear hzg
      cases zg with
      | true =>
        rw [if_pos rfl] at HS1
        go_wp2_with fail
        exact HR.out _ _ ⟨_, _, by rw [HS1.out]; rfl, by rw [HS1.out]; exact HRR.out.within (fun k hk => ⟨by omega, by omega⟩), M.out.2.2.2.2.2.1.1⟩
      | false =>
        rw [if_neg (by simp)] at HS1
        go_wp2_with fail
        go_loopw [42, 9, 12, 13, 14, 15] (fun v42 v9 _ _ _ _ wr2 => ∃ (k : Nat) (vs2 : List NdV) (B2 : Option Addr) (d2 qb2 hh2 : Nat), k ≤ n.trans.length ∧ v42 = .int .i64 k ∧ v9 = .slice B2 vs2.length d2 ∧ hh2 ≤ wr2.heap.size ∧ w.heap.size + 1 < qb2 ∧ qb2 < wr2.heap.size ∧ qb2 ≠ gx ∧ gx + 1 ≤ wr2.heap.size ∧ Hid (∃ r, vs2 = vs ++ r) ∧ Hid (Mem [Loc.set (w.heap.size + 1) (keysOf (roundS n x q k)), Loc.owN qb2 (qb2 + 1) (.slice B2 vs2.length d2) vs2, Loc.ns (silD hh2 (w.heap.size + 1) qb2) (w.heap.size + 2) vs2 (roundS n x q k), Loc.k3 gx (.int .i64 x.k) (.slice am x.m.length cm) (.slice ar x.run.length cr), Loc.k4 w.heap.size (.int .i64 n.places) (.slice A n.trans.length c) (.int .i64 n.source) (.int .i64 n.sink), Loc.bl w.heap.size w] wr2)) (fun v42 _ _ _ _ _ _ => n.trans.length - (intOf v42).toNat)
        case atStart => exact ⟨0, vs, _, d, qb, hh, Nat.zero_le _, rfl, rfl, by omega, hgq, by omega, by omega, hw3, Lib.hid ⟨[], by simp⟩, Lib.hid ⟨M.out.2.2.1, M.out.2.1, M.out.2.2.2.1, M.out.1, M.out.2.2.2.2⟩⟩
        case round =>
          clear M HRR hkx hk4
          obtain ⟨k, vs2, B2, d2, qb2, hh2, hk, rfl, rfl, hhs2, hgq2, hqs2, hqx, hws2, HPRE, M⟩ := hrel
          have hkx := M.out.2.2.2.1
          have hk4 := M.out.2.2.2.2.1
          by_cases hlt2 : k < n.trans.length
          · have HQ2 := Lib.hid (HRD.out k hk)
            have HX2 := Lib.hid (HRA.out k)
            have HR3 : Hid (roundS n x q (k + 1) = stepS n x (roundS n x q k) k) := Lib.hid rfl
            obtain ⟨q2, hq2⟩ : ∃ y, roundS n x q k = y := ⟨_, rfl⟩
            rw [hq2] at HQ2 HX2 HR3 M
            clear hq2
            have hvl2 := M.out.2.2.1.1
            have hq200 := HQ2.out.len
            have hvl200 : vs2.length ≤ 200 := by omega
            obtain ⟨b4, off4, vi, vo, rfl, _, _, hct, hri, hro⟩ := RdT.at3 (HV.out.after M.out.2.2.2.2.2.1.1) hlt2
            obtain ⟨Ai, ci, rfl, hci, hmi⟩ := hri.form
            obtain ⟨Ao, co, rfl, hco, hmo⟩ := hro.form
            have HFE := Lib.hid (fun (W : World) (hW : Below w.heap.size w W) (bb : Nat) (hr : RdI W bb (bb + 1) (.slice am x.m.length cm) x.m) => Fire_any n x.m k _ _ lo hi bb (bb + 1) W (HV.out.after hW) hr)
            have HFM : Hid ((FireE n x.m k).2 = 0 → markB n (FireE n x.m k).1 = true) := Lib.hid (FireE_mark HXM.out)
            have HST : Hid (stepS n x q2 k = if silB n k = false ∨ q2.length = 200 then q2 else if (FireE n x.m k).2 ≠ 0 ∨ (FireE n x.m k).1 ∈ q2.map Nd.m then q2 else q2 ++ [⟨0, (FireE n x.m k).1, x.run ++ [(k : Int)]⟩]) := Lib.hid rfl
            obtain ⟨⟨fl, fe⟩, hfe⟩ : ∃ r, FireE n x.m k = r := ⟨_, rfl⟩
            rw [hfe] at HFE HFM HST
            dsimp only at HFM HST
            clear hfe hri hro
            obtain ⟨zl, hzl⟩ : ∃ z, silB n k = z := ⟨_, rfl⟩
            rw [hzl] at HST
            unfold silB at hzl
            generalize gti n.trans k = tr at *
            have HVL2 := Lib.hid hvl2
            cases zl with
            | false =>
              have HSQ : Hid (roundS n x q (k + 1) = q2) := Lib.hid (by rw [HR3.out, HST.out, if_pos (.inl rfl)])
              clear hvl2
              go_wp2_with fail
              exact ⟨⟨k + 1, vs2, B2, d2, qb2, hh2, by omega, by go_num, rfl, by simp; omega, hgq2, by simp; omega, hqx, by simp; omega, HPRE, Lib.hid (by rw [HSQ.out]; exact M.out.alloc _)⟩, by simp [intOf]; omega⟩
            | true =>
              by_cases h200 : q2.length = 200
              · have HSQ : Hid (roundS n x q (k + 1) = q2) := Lib.hid (by rw [HR3.out, HST.out, if_pos (.inr h200)])
                have hd1 : ((vs2.length : Int) == 200) = true := by simp; omega
                have hd2 : decide ((vs2.length : Int) = 200) = true := by simp; omega
                clear hvl2 h200
                go_wp2_with fail
                exact ⟨⟨k + 1, vs2, B2, d2, qb2, hh2, by omega, by go_num, rfl, by simp; omega, hgq2, by simp; omega, hqx, by simp; omega, HPRE, Lib.hid (by rw [HSQ.out]; exact M.out.alloc _)⟩, by simp [intOf]; omega⟩
              · have hd1 : ((vs2.length : Int) == 200) = false := by simp; omega
                have hd2 : decide ((vs2.length : Int) = 200) = false := by simp; omega
                rw [if_neg (by simp [h200])] at HST
                have H200 := Lib.hid h200
                clear h200
                obtain ⟨nv, hnv⟩ : ∃ v, v = gti vs2 i := ⟨_, rfl⟩
                have hxm2 := (M.out.2.2.1.2 i HX2.out.1).2.1
                have hxr2 := (M.out.2.2.1.2 i HX2.out.1).2.2
                have hve : gti vs2 i = ⟨x.k, am, x.m.length, cm, ar, x.run.length, cr⟩ := by
                  obtain ⟨r, hr⟩ := HPRE.out
                  rw [hr, gti_pre hlt', HXV.out]
                rw [HX2.out.2, hve] at hxm2 hxr2
                have HVE := Lib.hid hve
                clear hve hnv nv
                obtain ⟨bm2, hxm3⟩ := hxm2.rd
                have HXM3 := Lib.hid (Rd.after hxm3 ((Below.refl _ _).alloc (Nat.le_refl _) (.cells #[.string tr.label, .slice Ai tr.inn.length ci, .slice Ao tr.out.length co] 46)))
                clear hxm2 hxm3 hvl2
                by_cases hfe : fe = 0
                · subst hfe
                  have HFK := Lib.hid (HFM.out rfl)
                  have HFL := Lib.hid (markB_len HFK.out)
                  have HFS := Lib.hid (markB_small HFK.out)
                  have HKY := Lib.hid (HQ2.out.key HFK.out)
                  have HKL : Hid ((keyL fl).length ≤ 1000000) := Lib.hid (by rw [keyL_len]; have := HFL.out; omega)
                  obtain ⟨zs, hzs⟩ : ∃ z, decide (fl ∈ q2.map Nd.m) = z := ⟨_, rfl⟩
                  rw [hzs] at HKY
                  have HZS := Lib.hid hzs
                  clear hzs
                  obtain ⟨gt, hgt⟩ : ∃ g, wr.heap.size + 1 = g := ⟨_, rfl⟩
                  have HGT := Lib.hid hgt
                  have hgt1 : wr.heap.size < gt := by omega
                  clear hgt
                  cases zs with
                  | true =>
                    have HSQ : Hid (roundS n x q (k + 1) = q2) := Lib.hid (by rw [HR3.out, HST.out, if_pos (.inr (of_decide_eq_true HZS.out))])
                    go_wp2_with (first
                      | (go_at_call 45; refine (HFE.out _ (M.out.alloc _).2.2.2.2.2.1.1 bm2 HXM3.out).mono ?_; rintro e w5 ⟨A5, c5, rfl, hr5, hb5⟩; replace M := Lib.hid ((M.out.alloc (.cells #[.string tr.label, .slice Ai tr.inn.length ci, .slice Ao tr.out.length co] 46)).below hb5); have hz5 := hb5.size; simp only [World.size_alloc] at hz5 hr5; have HR5 := Lib.hid hr5; clear hb5 hr5)
                      | (go_at_call 44; refine (key_any fl _ _ _ _ HR5.out HFS.out (by have := HFL.out; omega) (by have := HFL.out; intro e; rw [e] at this; simp at this)).mono ?_; rintro e w6 ⟨rfl, hb6⟩; replace M := Lib.hid (M.out.below hb6); have hz6 := hb6.size; have hlook := SetAt.look' M.out.1 (keyL fl) HKL.out HKY.out; clear hb6)
                      )
                    exact ⟨⟨k + 1, vs2, B2, d2, qb2, hh2, by omega, by go_num, rfl, by omega, hgq2, by omega, hqx, by omega, HPRE, Lib.hid (by rw [HSQ.out]; exact M.out)⟩, by simp [intOf]; omega⟩
                  | false =>
                    have HSQ : Hid (roundS n x q (k + 1) = q2 ++ [⟨0, fl, x.run ++ [(k : Int)]⟩]) := Lib.hid (by rw [HR3.out, HST.out, if_neg (by simp; have := of_decide_eq_false HZS.out; simpa using this)])
                    have HXL : Hid (x.run.length ≤ 200) := Lib.hid (by have := HXR.out; omega)
                    go_wp2_with (first
                      | (go_at_call 45; refine (HFE.out _ (M.out.alloc _).2.2.2.2.2.1.1 bm2 HXM3.out).mono ?_; rintro e w5 ⟨A5, c5, rfl, hr5, hb5⟩; have hz5 := hb5.size; simp only [World.size_alloc] at hz5 hr5; rw [HGT.out] at hr5 hz5; replace M : Hid (Mem [_, _, _, _, Loc.rdI gt w5.heap.size _ fl, _, _] w5) := Lib.hid (by have hal := ((M.out.alloc (.cells #[.string tr.label, .slice Ai tr.inn.length ci, .slice Ao tr.out.length co] 46)).below hb5); exact ⟨hal.1, hal.2.1, hal.2.2.1, hal.2.2.2.1, hr5, hal.2.2.2.2⟩); clear hb5 hr5)
                      | (go_at_call 44; refine (key_any fl _ _ _ _ M.out.2.2.2.2.1 HFS.out (by have := HFL.out; omega) (by have := HFL.out; intro e; rw [e] at this; simp at this)).mono ?_; rintro e w6 ⟨rfl, hb6⟩; replace M := Lib.hid (M.out.below hb6); have hz6 := hb6.size; have hlook := SetAt.look' M.out.1 (keyL fl) HKL.out HKY.out; clear hb6)
                      | (refine wpList_put_set rfl _ _ _ (.inl rfl) (keyL fl) rfl rfl rfl M.out (by (repeat' (first | exact True.intro | refine And.intro (fun k hk e => ?_) ?_)) <;> (first | exact e | ((try dsimp only [Loc.c1, Loc.c2, Loc.k1, Loc.k2, Loc.k3, Loc.k4, Loc.k6, Loc.fr, Loc.bl, Loc.own, Loc.sz, Loc.rd, Loc.rdI, Loc.rdS, Loc.rdM, Loc.rdT, Loc.ow, Loc.owI, Loc.owN, Loc.set, Loc.ns, Loc.cg, silD] at hk e) <;> omega))) HKL.out (by rw [keysOf_len]; omega) ?_; intro w7 hM7 hs7; replace M := Lib.hid hM7; clear hM7; replace hkx := M.out.2.2.2.1; replace hk4 := M.out.2.2.2.2.2.1)
                      | (go_at_call 46; have hxr3 := (M.out.2.2.1.2 i HX2.out.1).2.2; rw [HX2.out.2, HVE.out] at hxr3; obtain ⟨br, hbr⟩ := hxr3.rd; clear hxr3; refine (clone_any x.run _ br (br + 1) _ hbr (by have := HXL.out; omega)).mono ?_; rintro e w8 ⟨A8, c8, rfl, ho8, hb8⟩; replace M := Lib.hid (M.out.below hb8); have hz8 := hb8.size; have HO := Lib.hid ho8; clear hb8 ho8 hbr)
                      | (at_builtin; refine wpList_app2 rfl _ _ rfl ti_int (fun _ => rfl) oneI rfl rfl (Mem.cons (a := Loc.owI w7.heap.size w8.heap.size _ _) (HO.out.alloc _) (M.out.alloc _)) (by (repeat' (first | exact True.intro | refine And.intro (fun k hk e => ?_) ?_)) <;> (first | exact e | ((try dsimp only [Loc.c1, Loc.c2, Loc.k1, Loc.k2, Loc.k3, Loc.k4, Loc.k6, Loc.fr, Loc.bl, Loc.own, Loc.sz, Loc.rd, Loc.rdI, Loc.rdS, Loc.rdM, Loc.rdT, Loc.ow, Loc.owI, Loc.owN, Loc.set, Loc.ns, Loc.cg, silD] at hk e) <;> omega))) (RdI.lit1 _ _ _) (by have := HXL.out; simp; omega) (by have := HXL.out; simp; omega) (by simp; omega) ?_; intro A9 c9 w9 g0 g1 hg9 hM9 hs9 hch9; have M9 := Lib.hid hM9; simp only [World.size_alloc] at hs9 hg9; clear hM9 hch9; have tok9 : True := trivial)
                      | (have _t := tok9; at_builtin; refine wpList_app2 rfl _ _ rfl ti_node (fun _ => rfl) oneN rfl rfl (Mem.cons (a := Loc.owN qb2 (qb2 + 1) _ vs2) (M9.out.alloc _).2.2.1 (Mem.cons (a := Loc.owI g0 g1 _ (x.run ++ [(k : Int)])) (M9.out.alloc _).1 (Mem.cons (a := Loc.set _ _) (M9.out.alloc _).2.1 (M9.out.alloc _).2.2.2))) (by (repeat' (first | exact True.intro | refine And.intro (fun k hk e => ?_) ?_)) <;> (first | exact e | ((try dsimp only [Loc.c1, Loc.c2, Loc.k1, Loc.k2, Loc.k3, Loc.k4, Loc.k6, Loc.fr, Loc.bl, Loc.own, Loc.sz, Loc.rd, Loc.rdI, Loc.rdS, Loc.rdM, Loc.rdT, Loc.ow, Loc.owI, Loc.owN, Loc.set, Loc.ns, Loc.cg, silD] at hk e) <;> omega))) (RdNv.lit w9 ⟨0, A5, fl.length, c5, A9, x.run.length + 1, c9⟩ _) (by simp; omega) (by simp; omega) (by simp; omega) ?_; intro AA cA wA q0 q1 hgA hMA hsA hchA; have MA := Lib.hid hMA; simp only [World.size_alloc] at hsA hgA; clear hMA hchA))
                    have hq1 : q1 = q0 + 1 := by omega
                    subst hq1
                    have HNS : Hid (RdNs (silD wA.heap.size (w.heap.size + 1) q0) (w.heap.size + 2) wA (vs2 ++ [⟨0, A5, fl.length, c5, A9, x.run.length + 1, c9⟩]) (q2 ++ [⟨0, fl, x.run ++ [(k : Int)]⟩])) := Lib.hid (by
                      refine RdNs.snoc (RdNs.mono MA.out.2.2.2.1 (fun k hk => ?_)) rfl (RdB.of MA.out.2.2.2.2.2.1 (fun k h1 h2 => ?_)) (RdB.of (Own.rd MA.out.2.1) (fun k h1 h2 => ?_))
                      · have := hk.1; have := hk.2.1; have := hk.2.2
                        refine ⟨?_, ?_, ?_⟩ <;> omega
                      · refine ⟨?_, ?_, ?_⟩ <;> omega
                      · refine ⟨?_, ?_, ?_, ?_⟩ <;> omega)
                    exact ⟨⟨k + 1, vs2 ++ [⟨0, A5, fl.length, c5, A9, x.run.length + 1, c9⟩], AA, cA, q0, wA.heap.size, by omega, by go_num, by simp, Nat.le_refl _, by omega, by omega, by omega, by omega, Lib.hid (by obtain ⟨r, hr⟩ := HPRE.out; exact ⟨r ++ [_], by rw [hr, List.append_assoc]⟩), Lib.hid (by rw [HSQ.out, keysOf_snoc, List.length_append]; exact ⟨MA.out.2.2.1, MA.out.1, HNS.out, MA.out.2.2.2.2.1, MA.out.2.2.2.2.2.2⟩)⟩, by simp [intOf]; omega⟩
                · have HSQ : Hid (roundS n x q (k + 1) = q2) := Lib.hid (by rw [HR3.out, HST.out, if_pos (.inl hfe)])
                  go_wp2_with (go_at_call 45; refine (HFE.out _ (M.out.alloc _).2.2.2.2.2.1.1 bm2 HXM3.out).mono ?_; rintro e w5 ⟨A5, c5, rfl, hr5, hb5⟩; replace M := Lib.hid ((M.out.alloc (.cells #[.string tr.label, .slice Ai tr.inn.length ci, .slice Ao tr.out.length co] 46)).below hb5); have hz5 := hb5.size; simp only [World.size_alloc] at hz5; clear hb5 hr5)
                  exact ⟨⟨k + 1, vs2, B2, d2, qb2, hh2, by omega, by go_num, rfl, by omega, hgq2, by omega, hqx, by omega, HPRE, Lib.hid (by rw [HSQ.out]; exact M.out)⟩, by simp [intOf]; omega⟩
          · obtain rfl : k = n.trans.length := by omega
            have HAT := Lib.hid (HRA.out n.trans.length)
            go_wp2_with fail
            exact ⟨⟨i + 1, roundS n x q n.trans.length, vs2, B2, d2, qb2, hh2, by have := HAT.out.1; omega, by go_num, rfl, hhs2, hgq2, hqs2, Lib.hid (HRD.out _ (Nat.le_refl _)), HS1, Lib.hid ⟨M.out.2.1, M.out.1, M.out.2.2.1, M.out.2.2.2.2⟩⟩, by simp [intOf]; omega⟩
    · obtain rfl : i = q.length := by omega
      have hlt' : ¬ q.length < vs.length := by omega
      clear hvl
      have HE : Hid (silE n good m = none) := Lib.hid (by
        rw [HI.out]
        obtain h | ⟨k, h⟩ : 201 - q.length = 0 ∨ ∃ k, 201 - q.length = k + 1 := by
          rcases Nat.eq_zero_or_pos (201 - q.length) with h | h
          · exact .inl h
          · exact .inr ⟨201 - q.length - 1, by omega⟩
        · rw [h]; rfl
        · rw [h, srch, if_neg (by omega)])
      clear HI
      go_wp2_with fail
      exact HR.out _ _ ⟨none, 0, by rw [HE.out]; rfl, by rw [HE.out]; exact Rd.nil _ _ _, M.out.2.2.2.2.1.1⟩
end Go.Proofs.Ytmhbfoaecebobaa
end
section
namespace Go.Proofs.Ytmhbfoaecebobaa
set_option linter.unusedSimpArgs false
set_option linter.unusedVariables false
open Go.RowKit

theorem PM.c_ge {n : Net} {s : Pl} (h : PM n s) : 0 ≤ s.c.p ∧ 0 ≤ s.c.c ∧ 0 ≤ s.c.m := ⟨h.small.2.1, h.small.1, h.c0⟩
/-- the counters are small enough for k transitions more -/
structure Sm (s : Pl) (B : Nat) : Prop where
  p : s.c.p ≤ 40 * B
  c : s.c.c ≤ 40 * B
  r : s.c.r ≤ 40 * B
  l : s.run.length ≤ B
theorem Sm.take {n : Net} {s : Pl} {B : Nat} (h : Sm s B) (hv : validB n = true) {t : Nat} (ht : t < n.trans.length) : Sm (takeP n t s) (B + 1) := by
  obtain ⟨_, _, h1, h2⟩ := trans_in hv ht
  obtain ⟨h3, h4, h5, h6⟩ := takeP_c n t s
  rw [Int.toNat_natCast] at h3 h4
  refine ⟨?_, ?_, ?_, ?_⟩
  · rw [h4]; have := h.p; omega
  · rw [h3]; have := h.c; omega
  · rw [h5]; have := h.r; omega
  · rw [h6]; have := h.l; simp; omega
theorem Sm.all {n : Net} (hv : validB n = true) : ∀ {l : List Int} {s : Pl} {B : Nat}, Sm s B → (∀ t ∈ l, 0 ≤ t ∧ t < n.trans.length) → Sm (takeAll n l s) (B + l.length)
  | [], s, B, h, _ => h
  | t :: l, s, B, h, ht => by
    obtain ⟨h0, h1⟩ := ht t (List.mem_cons_self ..)
    obtain ⟨k, rfl⟩ : ∃ k : Nat, t = k := ⟨t.toNat, by omega⟩
    have := Sm.all hv (l := l) (h.take hv (t := k) (by omega)) (fun u hu => ht u (List.mem_cons_of_mem _ hu))
    rw [takeAll]
    have e : B + 1 + l.length = B + (↑k :: l).length := by simp; omega
    rw [← e]
    exact this
theorem PM.all {n : Net} (hv : validB n = true) : ∀ {l : List Int} {s : Pl}, PM n s → (∀ t ∈ l, 0 ≤ t ∧ t < n.trans.length) → PM n (takeAll n l s)
  | [], s, h, _ => h
  | t :: l, s, h, ht => PM.all hv (l := l) (s := takeP n t s) (h.take hv (ht t (List.mem_cons_self ..)).1 (ht t (List.mem_cons_self ..)).2) (fun u hu => ht u (List.mem_cons_of_mem _ hu))

set_option maxRecDepth 100000 in
set_option maxHeartbeats 2000000 in
theorem takeAll_any (n : Net) (s : Pl) (l : List Int) (B g gm np cm r0 r1 lo hi lw hw : Nat) (vt vr vl : Value) (w : World) (hv : RdT w lo hi vt n.trans) (hval : validB n = true) (hl : ∀ t ∈ l, 0 ≤ t ∧ t < n.trans.length) (hpm : PM n s) (hsm : Sm s B) (hB : B + l.length ≤ 900000)
    (hnp : s.m.length = np) (hM : Mem [Loc.pb (plA n (vt) (.slice (some ⟨gm, 0, none⟩) np cm) (s).c vr (s).big) g, Loc.owI gm (gm + 1) (.slice (some ⟨gm, 0, none⟩) np cm) (s).m, Loc.owI r0 r1 vr (s).run] w) (hg : g ≠ gm) (hgr : g < r0 ∨ r1 ≤ g) (hmr : gm < r0 ∨ r1 ≤ gm) (h1 : hi ≤ g) (h2 : hi ≤ gm) (h3 : hi ≤ r0) (h4 : r1 ≤ w.heap.size) (h5 : r0 ≤ w.heap.size)
    (hvl : RdI w lw hw vl l) (h6 : g < lw) (h7 : gm < lw) (h8 : r1 ≤ lw) (h9 : hw ≤ w.heap.size) :
    Calls Try.prog 74 #[.pointer (some ⟨g, 0, none⟩), vl] w fun e w' => ∃ vr' r0' r1', e = .returned (.tuple #[]) ∧ Mem [Loc.pb (plA n (vt) (.slice (some ⟨gm, 0, none⟩) np cm) (takeAll n l s).c vr' (takeAll n l s).big) g, Loc.owI gm (gm + 1) (.slice (some ⟨gm, 0, none⟩) np cm) (takeAll n l s).m, Loc.owI r0' r1' vr' (takeAll n l s).run] w' ∧ (r0' = r0 ∧ r1' = r1 ∨ w.heap.size ≤ r0') ∧ r0' ≤ w'.heap.size ∧ r1' ≤ w'.heap.size ∧ Chg (plD g gm r0 r1) w w' := by
  obtain ⟨A, c, rfl, hc, hmm⟩ := hvl.form
  have M : Hid (Mem [Loc.pb (plA n (vt) (.slice (some ⟨gm, 0, none⟩) np cm) (s).c vr (s).big) g, Loc.owI gm (gm + 1) (.slice (some ⟨gm, 0, none⟩) np cm) (s).m, Loc.owI r0 r1 vr (s).run, Loc.rdI lw hw (.slice A l.length c) l, Loc.rdT lo hi vt n.trans, Loc.cg (plD g gm r0 r1) w] w) := Lib.hid ⟨hM.1, hM.2.1, hM.2.2.1, hvl, hv, Chg.refl _ _, True.intro⟩
  have hgw : g < w.heap.size := PB.lt hM.1
  have hgmw : gm < w.heap.size := by
    have hnz := validB_places hval
    have hln := hpm.len
    obtain ⟨g', cap, hv', _, h5, h6⟩ := Own.blk hM.2.1 (by omega)
    injection hv' with hv' _ _
    injection hv' with hv'
    injection hv' with hv' _ _
    omega
  have HL := Lib.hid hl
  have HPM := Lib.hid hpm
  have HSM := Lib.hid hsm
  have HVAL := Lib.hid hval
  have HNP := Lib.hid hnp
  have HNL := Lib.hid (validB_places hval)
  clear hM hvl hv hl hpm hsm hval hnp
  refine calls_cps fun R hR => ?_
  have HR := Lib.hid hR
  clear hR
  go_enter Try.func74, Try.ntmps74
  go_wp2_with fail
  go_loopw [8, 5] (fun v8 _ wr => ∃ (j : Nat) (sj : Pl) (vrj : Value) (a0 a1 : Nat), j ≤ l.length ∧ v8 = .int .i64 j ∧ Hid (takeAll n (l.drop j) sj = takeAll n l s) ∧ Hid (PM n sj) ∧ Hid (Sm sj (B + j)) ∧ Hid (sj.m.length = np) ∧ (a0 = r0 ∧ a1 = r1 ∨ w.heap.size ≤ a0) ∧ a0 ≤ wr.heap.size ∧ a1 ≤ wr.heap.size ∧ Hid (Mem [Loc.pb (plA n (vt) (.slice (some ⟨gm, 0, none⟩) np cm) (sj).c vrj (sj).big) g, Loc.owI gm (gm + 1) (.slice (some ⟨gm, 0, none⟩) np cm) (sj).m, Loc.owI a0 a1 vrj (sj).run, Loc.rdI lw hw (.slice A l.length c) l, Loc.rdT lo hi vt n.trans, Loc.cg (plD g gm r0 r1) w] wr)) (fun v8 _ _ => l.length - (intOf v8).toNat)
  case atStart => exact ⟨0, s, vr, r0, r1, Nat.zero_le _, rfl, Lib.hid (by simp), HPM, HSM, HNP, .inl ⟨rfl, rfl⟩, h5, h4, M⟩
  case round =>
    clear M HPM HSM HNP
    obtain ⟨j, sj, vrj, a0, a1, hj, rfl, HT, HPM, HSM, HNP, haa, ha0, ha1, M⟩ := hrel
    by_cases hlt : j < l.length
    · have hkr := HL.out (gti l j) (gti_mem hlt)
      have HD : Hid (takeAll n (l.drop j) sj = takeAll n (l.drop (j + 1)) (takeP n (gti l j) sj)) := Lib.hid (by rw [drop_gti hlt]; rfl)
      obtain ⟨bi, oi, rfl, _, _, hci2⟩ := RdI.at1 M.out.2.2.2.1 hlt
      obtain ⟨kk, hkk⟩ : ∃ k : Nat, gti l j = k := ⟨(gti l j).toNat, by omega⟩
      rw [hkk] at HD hci2 hkr
      clear hkk
      have hkt : kk < n.trans.length := by omega
      have HTC := Lib.hid (take_any n sj kk g gm np cm a0 a1 lo hi vt vrj wr M.out.2.2.2.2.1 HVAL.out hkt HPM.out.pt (by have := HSM.out.p; omega) (by have := HSM.out.c; omega) (by have := HSM.out.l; omega) HNP.out ⟨M.out.1, M.out.2.1, M.out.2.2.1, True.intro⟩ hg (by omega) (by omega) h1 h2 (by omega) ha1 ha0)
      have HPn := Lib.hid (HPM.out.take HVAL.out hkr.1 hkr.2)
      have HSn := Lib.hid (HSM.out.take HVAL.out hkt)
      have hsw := M.out.2.2.2.2.2.1.size
      go_wp2_with (go_at_call 75; refine HTC.out.mono ?_; rintro e w1 ⟨vr2, b0, b1, rfl, hM2, hbb, hb0, hb1, hch⟩; have M2 : Hid (Mem [Loc.pb (plA n (vt) (.slice (some ⟨gm, 0, none⟩) np cm) (takeP n kk sj).c vr2 (takeP n kk sj).big) g, Loc.owI gm (gm + 1) (.slice (some ⟨gm, 0, none⟩) np cm) (takeP n kk sj).m, Loc.owI b0 b1 vr2 (takeP n kk sj).run, Loc.rdI lw hw (.slice (some ⟨bi, oi, none⟩) l.length c) l, Loc.rdT lo hi vt n.trans, Loc.cg (plD g gm r0 r1) w] w1) := Lib.hid ⟨hM2.1, hM2.2.1, hM2.2.2.1, Mem.chg hch M.out.2.2.2 (by (repeat' (first | exact True.intro | refine And.intro (fun k hk e => ?_) ?_)) <;> (first | exact e | ((try dsimp only [Loc.c1, Loc.c2, Loc.k1, Loc.k2, Loc.k3, Loc.k4, Loc.k6, Loc.fr, Loc.bl, Loc.own, Loc.sz, Loc.rd, Loc.rdI, Loc.rdS, Loc.rdM, Loc.rdT, Loc.ow, Loc.owI, Loc.owN, Loc.set, Loc.ns, Loc.cg, Loc.pb, silD, plD] at hk e) <;> omega)))⟩; have hs2 := hch.size; clear hM2 hch)
      refine ⟨⟨j + 1, takeP n kk sj, vr2, b0, b1, by omega, by go_num, Lib.hid (HD.out ▸ HT.out), HPn, HSn, Lib.hid (by have h1 := HPn.out.len; have h2 := HPM.out.len; have h3 := HNP.out; omega), by omega, hb0, hb1, M2⟩, by simp [intOf]; omega⟩
    · obtain rfl : j = l.length := by omega
      have HT1 : Hid (sj = takeAll n l s) := Lib.hid (by have := HT.out; rw [List.drop_length] at this; exact this)
      go_wp2_with fail
      go_end0
      refine HR.out _ _ ⟨vrj, a0, a1, rfl, ?_, haa, ha0, ha1, M.out.2.2.2.2.2.1⟩
      rw [← HT1.out]
      exact ⟨M.out.1, M.out.2.1, M.out.2.2.1, True.intro⟩
end Go.Proofs.Ytmhbfoaecebobaa
end
