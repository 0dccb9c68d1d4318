/-
  Laws of the walk for a map that is a set; what changed since a world. Conditions: none.
-/
import Derived.Test.YtmhbfoaecebobaaSet
import Derived.Test.YtmhbfoaecebobaaOwn2
import Derived.Test.YtmhbfoaecebobaaRepP
namespace Go.Proofs.Ytmhbfoaecebobaa
set_option linter.unusedSimpArgs false
set_option linter.unusedVariables false
open Go.RowKit Go.Maps Go.WideMaps

theorem SetAt.keep {D : Nat → Prop} {w W : World} (hc : Chg D w W) {b : Nat} {ks : List (List UInt8)} (hd : ¬ D b) (h : SetAt w b ks) : SetAt W b ks := by
  obtain ⟨Dm, ⟨es, clock, hb, F, hs, hD⟩, h2⟩ := h
  exact ⟨Dm, ⟨es, clock, (hc.block b (Array.getElem?_eq_some_iff.1 hb).1 hd).trans hb, F, hs, hD⟩, h2⟩
theorem SetAt.lt {w : World} {b : Nat} {ks : List (List UInt8)} (h : SetAt w b ks) : b < w.heap.size := by
  obtain ⟨Dm, ho, _⟩ := h
  exact ho.lt
abbrev Loc.set (b : Nat) (ks : List (List UInt8)) : Loc := ⟨fun w => SetAt w b ks, fun k => k = b, fun h hd hp => SetAt.keep h (hd b rfl) hp⟩
/-- of the blocks of w0 only those in D have changed -/
abbrev Loc.cg (D : Nat → Prop) (w0 : World) : Loc :=
  ⟨fun W => Chg D w0 W, fun k => k < w0.heap.size ∧ ¬ D k, fun h hd hp => ⟨h.os.trans hp.os, h.tape.trans hp.tape, h.output.trans hp.output, Nat.le_trans hp.size h.size, fun k hk hD => (h.block k (Nat.lt_of_lt_of_le hk hp.size) (hd k ⟨hk, hD⟩)).trans (hp.block k hk hD)⟩⟩
theorem Chg.refl (D : Nat → Prop) (w : World) : Chg D w w := ⟨rfl, rfl, rfl, Nat.le_refl _, fun _ _ _ => rfl⟩
theorem Mem.step {a a' : Loc} {rest : List Loc} {D : Nat → Prop} {w W : World} (h : Mem (a :: rest) w) (h' : a'.P W) (hc : Chg D w W) (ha : Apart D rest) : Mem (a' :: rest) W := ⟨h', h.2.chg hc ha⟩

/-- m[k] = true -/
theorem wpList_put_set {ops : Array Oper} {rest : List Oper} {o : Oper} {a : Act} {Q : Exit → Act → World → Prop} {w : World} (hg : o.guard = none) (m x v : Operand)
    (hop : o.op = Op.mapUpdate 90 m x v ∨ o.op = Op.insert 90 m x v) {b : Nat} {ks : List (List UInt8)} {L : List Loc} (l : List UInt8) (hm : a.eval m = .map (some b)) (hx : a.eval x = .string ⟨l.toArray⟩) (hv : a.eval v = .bool true)
    (hM : Mem (Loc.set b ks :: L) w) (hA : Apart (fun k => k = b) L) (hl : l.length ≤ 1000000) (hk : ks.length ≤ 1000000)
    (hK : ∀ w', Mem (Loc.set b (l :: ks) :: L) w' → w.heap.size ≤ w'.heap.size → wpList Try.prog ops Q rest (a.put o.dst undef) w') : wpList Try.prog ops Q (o :: rest) a w := by
  refine wpList_plain hg fun K' hK' => ?_
  obtain ⟨w', hrun, h2, h3⟩ := hM.1.put l hl hk
  have hfin := hK' _ _ (hK w' ⟨h2, hM.2.chg (D := fun k => k = b) (Chg.below (w := w) (W := w) (Below.refl _ _) |> fun _ => ⟨h3.os, h3.tape, h3.output, h3.size, fun k hk hne => h3.block k hk (fun e => hne (by injection e))⟩) hA⟩ h3.size)
  unfold Oper.wp
  rcases hop with hop | hop
  · simp [execOp, hop, hm, hx, hv, hrun, Result.andThen]
    exact hfin
  · simp [execOp, hop, hm, hx, hv, hrun, Result.andThen]
    exact hfin
/-- m[k] -/
theorem wpList_look_set {ops : Array Oper} {rest : List Oper} {o : Oper} {a : Act} {Q : Exit → Act → World → Prop} {w : World} (hg : o.guard = none) (m x : Operand)
    (hop : o.op = Op.lookup 90 m x false) {b : Nat} {ks : List (List UInt8)} (l : List UInt8) (hm : a.eval m = .map (some b)) (hx : a.eval x = .string ⟨l.toArray⟩)
    (hs : SetAt w b ks) (hl : l.length ≤ 1000000) {z : Bool} (hz : decide (l ∈ ks) = z)
    (hK : wpList Try.prog ops Q rest (a.put o.dst (.bool z)) w) : wpList Try.prog ops Q (o :: rest) a w := by
  subst hz
  refine wpList_plain hg fun K' hK' => ?_
  have hrun := hs.look l hl
  unfold Oper.wp
  simp [execOp, hop, hm, hx, hrun, Result.andThen, Oper.upon]
  exact hK' _ _ hK

theorem SetAt.look' {w : World} {b : Nat} {ks : List (List UInt8)} (h : SetAt w b ks) (l : List UInt8) (hl : l.length ≤ 1000000) {z : Bool} (hz : decide (l ∈ ks) = z) :
    (Instr.lookup 90 (.map (some b)) (.string ⟨l.toArray⟩) false).run Try.prog w = .ok (.bool z) w := hz ▸ h.look l hl
/-- a number, and the values of the two slices -/
structure NdV where
  k : Int
  am : Option Addr
  nm : Nat
  cm : Nat
  ar : Option Addr
  nr : Nat
  cr : Nat
  deriving Inhabited
abbrev NdV.vm (x : NdV) : Value := .slice x.am x.nm x.cm
abbrev NdV.vr (x : NdV) : Value := .slice x.ar x.nr x.cr
abbrev encN (x : NdV) : List Value := [.int .i64 x.k, x.vm, x.vr]
theorem ti_node : TI 88 86 3 56 (.agg #[.int .i64 0, .slice none 0 0, .slice none 0 0]) := TI.mk Try.underlying88 (by kernel_rfl) rfl (by decide)
/-- a slice of numbers in a block of D -/
def RdB (D : Nat → Prop) (w : World) (v : Value) (l : List Int) : Prop := ∃ b, (0 < l.length → D b) ∧ RdI w b (b + 1) v l
theorem RdB.of {D : Nat → Prop} {w : World} {lo hi : Nat} {v : Value} {l : List Int} (h : RdI w lo hi v l) (hd : ∀ k, lo ≤ k → k < hi → D k) : RdB D w v l := by
  obtain ⟨h1, A, c, hv, h2, h3, h4⟩ := h
  rcases Nat.eq_zero_or_pos l.length with h0 | h0
  · exact ⟨0, fun h => by omega, h1, A, c, hv, h2, h3, fun h => by omega⟩
  · obtain ⟨b, off, hA, hl, hh, hc⟩ := h4 h0
    exact ⟨b, fun _ => hd b hl hh, h1, A, c, hv, h2, h3, fun _ => ⟨b, off, hA, Nat.le_refl _, by omega, hc⟩⟩
theorem RdB.nil (D : Nat → Prop) (w : World) : RdB D w (.slice none 0 0) [] := ⟨0, fun h => by simp at h, Rd.nil _ _ _⟩
theorem RdB.mono {D E : Nat → Prop} {w : World} {v : Value} {l : List Int} (h : RdB D w v l) (hd : ∀ k, D k → E k) : RdB E w v l := by
  obtain ⟨b, h1, h2⟩ := h
  exact ⟨b, fun h => hd b (h1 h), h2⟩
theorem RdB.keep {D E : Nat → Prop} {w W : World} (hc : Chg E w W) (hd : ∀ k, D k → ¬ E k) {v : Value} {l : List Int} (h : RdB D w v l) : RdB D W v l := by
  obtain ⟨b, h1, h2⟩ := h
  refine ⟨b, h1, ?_⟩
  rcases Nat.eq_zero_or_pos l.length with h0 | h0
  · obtain ⟨h3, A, c, hv, h4, h5, h6⟩ := h2
    exact ⟨h3, A, c, hv, h4, h5, fun h => by omega⟩
  · exact Rd.of_blocks h2 (fun k hk1 hk2 hk => hc.block k hk (by
      have : k = b := by omega
      rw [this]
      exact hd b (h1 h0)))
theorem RdB.rd {D : Nat → Prop} {w : World} {v : Value} {l : List Int} (h : RdB D w v l) : ∃ b, RdI w b (b + 1) v l := by
  obtain ⟨b, _, h⟩ := h
  exact ⟨b, h⟩
theorem RdB.within {D : Nat → Prop} {s hi : Nat} {w : World} {v : Value} {l : List Int} (h : RdB D w v l) (hd : ∀ k, D k → s ≤ k ∧ k < hi) : RdI w s hi v l := by
  obtain ⟨b, h1, h2, A, c, hv, h4, h5, h6⟩ := h
  refine ⟨h2, A, c, hv, h4, h5, fun hn => ?_⟩
  obtain ⟨b', off, hA, hl, hh, hc⟩ := h6 hn
  have := hd b (h1 hn)
  exact ⟨b', off, hA, by omega, by omega, hc⟩
/-- nodes whose markings lie in blocks of D, and whose runs in blocks of D from block s on -/
def RdNs (D : Nat → Prop) (s : Nat) (w : World) (vs : List NdV) (q : List Nd) : Prop :=
  vs.length = q.length ∧ ∀ i, i < q.length → (gti vs i).k = (gti q i).k ∧ RdB D w (gti vs i).vm (gti q i).m ∧ RdB (fun k => s ≤ k ∧ D k) w (gti vs i).vr (gti q i).run
theorem RdNs.keep {D E : Nat → Prop} {s : Nat} {w W : World} (hc : Chg E w W) (hd : ∀ k, D k → ¬ E k) {vs : List NdV} {q : List Nd} (h : RdNs D s w vs q) : RdNs D s W vs q :=
  ⟨h.1, fun i hi => ⟨(h.2 i hi).1, (h.2 i hi).2.1.keep hc hd, (h.2 i hi).2.2.keep hc (fun k hk => hd k hk.2)⟩⟩
abbrev Loc.ns (D : Nat → Prop) (s : Nat) (vs : List NdV) (q : List Nd) : Loc := ⟨fun w => RdNs D s w vs q, D, fun h hd hp => RdNs.keep h hd hp⟩
theorem RdNs.mono {D E : Nat → Prop} {s : Nat} {w : World} {vs : List NdV} {q : List Nd} (h : RdNs D s w vs q) (hd : ∀ k, D k → E k) : RdNs E s w vs q :=
  ⟨h.1, fun i hi => ⟨(h.2 i hi).1, (h.2 i hi).2.1.mono hd, (h.2 i hi).2.2.mono (fun k hk => ⟨hk.1, hd k hk.2⟩)⟩⟩
theorem RdNs.snoc {D : Nat → Prop} {s : Nat} {w : World} {vs : List NdV} {q : List Nd} (h : RdNs D s w vs q) {v : NdV} {x : Nd} (h1 : v.k = x.k) (h2 : RdB D w v.vm x.m) (h3 : RdB (fun k => s ≤ k ∧ D k) w v.vr x.run) : RdNs D s w (vs ++ [v]) (q ++ [x]) := by
  refine ⟨by simp [h.1], fun i hi => ?_⟩
  by_cases hl : i < q.length
  · rw [gti_pre hl, gti_pre (by rw [h.1]; exact hl)]
    exact h.2 i hl
  · obtain rfl : i = q.length := by simp at hi; omega
    have e1 : gti (vs ++ [v]) q.length = v := by rw [gti_app, if_neg (by rw [h.1]; omega), h.1, Nat.sub_self]; rfl
    have e2 : gti (q ++ [x]) q.length = x := by rw [gti_app, if_neg (by omega), Nat.sub_self]; rfl
    rw [e1, e2]
    exact ⟨h1, h2, h3⟩
theorem RdNs.nil (D : Nat → Prop) (s : Nat) (w : World) : RdNs D s w [] [] := ⟨rfl, fun i hi => absurd hi (by simp)⟩
abbrev RdNv := Rd 3 encN
abbrev OwnN := Own 86 3 encN
abbrev Loc.owN (lo hi : Nat) (v : Value) (l : List NdV) : Loc := Loc.ow 86 3 encN lo hi v l
theorem OwnN.at3 {w : World} {lo hi : Nat} {A : Option Addr} {c : Nat} {l : List NdV} (h : OwnN w lo hi (.slice A l.length c) l) {k : Nat} (hk : k < l.length) :
    ∃ b off, A = some ⟨b, off, none⟩ ∧ lo ≤ b ∧ b < hi ∧ C3 w b (off + k * 3) (.int .i64 (gti l k).k) (gti l k).vm (gti l k).vr := by
  obtain ⟨b, off, hA, h1, h2, hc⟩ := Rd.at_ h.rd (fun _ => rfl) (gti_get hk)
  exact ⟨b, off, hA, h1, h2, hc 0 _ rfl, hc 1 _ rfl, hc 2 _ rfl⟩
theorem oneN : ∀ a : NdV, ∀ u ∈ encN a, u.oneCell' = true := by
  intro a u hu
  simp at hu
  rcases hu with rfl | rfl | rfl <;> rfl
theorem RdNv.lit (W : World) (x : NdV) (t : TypeId) : RdNv (W.alloc (.cells #[.int .i64 x.k, x.vm, x.vr] t)) 0 (W.heap.size + 1) (.slice (some ⟨W.heap.size, 0, none⟩) 1 1) [x] := Rd.lit W t [x] _ 1 rfl rfl (by decide) (fun _ => rfl)
theorem Own.alloc {α : Type} {e size : Nat} {enc : α → List Value} {w : World} {lo hi : Nat} {v : Value} {l : List α} (h : Own e size enc w lo hi v l) (o : Obj) : Own e size enc (w.alloc o) lo hi v l := Own.keep (Chg.alloc w o) (fun _ _ h => h) h
theorem Own.below {α : Type} {e size : Nat} {enc : α → List Value} {w W : World} {lo hi : Nat} {v : Value} {l : List α} (h : Own e size enc w lo hi v l) (hb : Below w.heap.size w W) : Own e size enc W lo hi v l := Own.keep (Chg.below hb) (fun _ _ h => h) h
end Go.Proofs.Ytmhbfoaecebobaa
