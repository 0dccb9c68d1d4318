/-
  Nets as they lie in memory; walks of casebooklaw42's few, and of petri's and casebookref21's places and Valid. Conditions: none.
-/
import Derived.Test.YtmhbfoaecebobaaPred
namespace Go.Proofs.Ytmhbfoaecebobaa
set_option linter.unusedSimpArgs false
set_option linter.unusedVariables false
open Go.RowKit

structure Tr where
  label : ByteArray
  inn : List Int
  out : List Int
  deriving Inhabited
structure Net where
  places : Int
  trans : List Tr
  source : Int
  sink : Int

/-- a slice that reads as a list of transitions -/
def RdT (w : World) (lo hi : Nat) (v : Value) (ts : List Tr) : Prop :=
  ∃ vs : List TrV, RdV w lo hi v vs ∧ vs.length = ts.length ∧ ∀ k, k < ts.length → (gti vs k).label = (gti ts k).label ∧ RdI w lo hi (gti vs k).vi (gti ts k).inn ∧ RdI w lo hi (gti vs k).vo (gti ts k).out
section
variable {w W : World} {lo hi : Nat} {v : Value} {l : List Tr}
theorem RdT.of_blocks (h : RdT w lo hi v l) (hk : ∀ b, lo ≤ b → b < hi → b < w.heap.size → W.heap[b]? = w.heap[b]?) : RdT W lo hi v l := by
  obtain ⟨vs, h1, h2, h3⟩ := h
  exact ⟨vs, h1.of_blocks hk, h2, fun k hk' => ⟨(h3 k hk').1, (h3 k hk').2.1.of_blocks hk, (h3 k hk').2.2.of_blocks hk⟩⟩
theorem RdT.after (h : RdT w lo hi v l) (hb : Below w.heap.size w W) : RdT W lo hi v l := h.of_blocks fun b _ _ hb' => hb.block b hb'
theorem RdT.mono {lo' hi' : Nat} (h : RdT w lo hi v l) (hl : lo' ≤ lo) (hh : hi ≤ hi') : RdT w lo' hi' v l := by
  obtain ⟨vs, h1, h2, h3⟩ := h
  exact ⟨vs, h1.mono hl hh, h2, fun k hk' => ⟨(h3 k hk').1, (h3 k hk').2.1.mono hl hh, (h3 k hk').2.2.mono hl hh⟩⟩
theorem RdT.form (h : RdT w lo hi v l) : ∃ A c, v = .slice A l.length c ∧ l.length ≤ c ∧ l.length ≤ 9223372036854775807 := by
  obtain ⟨vs, h1, h2, h3⟩ := h
  rw [← h2]
  exact h1.form
theorem RdT.at3 {A : Option Addr} {c : Nat} (h : RdT w lo hi (.slice A l.length c) l) {k : Nat} (hk : k < l.length) :
    ∃ b off vi vo, A = some ⟨b, off, none⟩ ∧ lo ≤ b ∧ b < hi ∧ C3 w b (off + k * 3) (.string (gti l k).label) vi vo ∧ RdI w lo hi vi (gti l k).inn ∧ RdI w lo hi vo (gti l k).out := by
  obtain ⟨vs, h1, h2, h3⟩ := h
  rw [← h2] at h1
  obtain ⟨b, off, hA, hl, hh, hc⟩ := RdV.at3 (k := k) h1 (by omega)
  rw [(h3 k hk).1] at hc
  exact ⟨b, off, _, _, hA, hl, hh, hc, (h3 k hk).2⟩
end
abbrev Loc.rdT (lo hi : Nat) (v : Value) (l : List Tr) : Loc :=
  ⟨fun w => RdT w lo hi v l, fun k => lo ≤ k ∧ k < hi, fun h hd hp => RdT.of_blocks hp (fun b h1 h2 h3 => h.block b h3 (hd b ⟨h1, h2⟩))⟩
abbrev K4 (w : World) (g : Nat) (a b c d : Value) : Prop := w.cell? ⟨g, 0, none⟩ = some a ∧ w.cell? ⟨g, 1, none⟩ = some b ∧ w.cell? ⟨g, 2, none⟩ = some c ∧ w.cell? ⟨g, 3, none⟩ = some d ∧ g < w.heap.size
theorem K4.of_block {W W' : World} {g : Nat} {a b c d : Value} (h : K4 W g a b c d) (he : W'.heap[g]? = W.heap[g]?) (hs : W.heap.size ≤ W'.heap.size) : K4 W' g a b c d := by
  obtain ⟨h1, h2, h3, h4, h7⟩ := h
  exact ⟨(World.cell?_of_block (w := W) he).trans h1, (World.cell?_of_block (w := W) he).trans h2, (World.cell?_of_block (w := W) he).trans h3, (World.cell?_of_block (w := W) he).trans h4, Nat.lt_of_lt_of_le h7 hs⟩
theorem K4.aft {W w1 : World} {g : Nat} {a b c d : Value} (hb : Below W.heap.size W w1) (h : K4 W g a b c d) : K4 w1 g a b c d := K4.of_block h (hb.block g h.2.2.2.2) hb.size
theorem K4.new (W : World) (a b c d : Value) (t : TypeId) : K4 (W.alloc (.cells #[a, b, c, d] t)) W.heap.size a b c d := by simp [K4, go_sem]
abbrev Loc.k4 (g : Nat) (a b c d : Value) : Loc := ⟨fun w => K4 w g a b c d, fun k => k = g, fun h hd hp => K4.of_block hp (h.block g hp.2.2.2.2 (hd g rfl)) h.size⟩

/-- a net, as an argument: n's transitions lie in blocks from lo on, below hi -/
abbrev netV (n : Net) (vt : Value) : Value := .agg #[.int .i64 n.places, vt, .int .i64 n.source, .int .i64 n.sink]

theorem few1_in (n : List Tr) (vs : List TrV) {w : World} {lo hi : Nat} (h2 : vs.length = n.length) (h3 : ∀ k, k < n.length → (gti vs k).label = (gti n k).label ∧ RdI w lo hi (gti vs k).vi (gti n k).inn ∧ RdI w lo hi (gti vs k).vo (gti n k).out) (a : TrV) (ha : a ∈ vs) :
    ∃ A n c B m d, a.vi = .slice A n c ∧ a.vo = .slice B m d := by
  obtain ⟨k, hk, rfl⟩ := List.mem_iff_getElem.1 ha
  obtain ⟨_, hi, ho⟩ := h3 k (by omega)
  have e : gti vs k = vs[k] := by unfold gti; rw [List.getElem?_eq_getElem hk]; rfl
  rw [e] at hi ho
  obtain ⟨A, c, h1, _⟩ := hi.form
  obtain ⟨B, d, h2, _⟩ := ho.form
  exact ⟨A, _, c, B, _, d, h1, h2⟩

end Go.Proofs.Ytmhbfoaecebobaa
