/-
  The last step of a law's row: a call that returns true and leaves what was there as it was; the arguments opened: numbers, words, steps, nets, costs, alignments. Conditions: none.
-/
import Derived.Test.YtmhbfoaecebobaaRows
import Derived.Test.YtmhbfoaecebobaaFire
import Derived.ProofKit
import Derived.Below
import Derived.ChangeSame
import Derived.ChangeSlices
import Derived.DataReads
namespace Go.Proofs.Ytmhbfoaecebobaa
set_option linter.unusedSimpArgs false
set_option linter.unusedVariables false
open Go.ChangeShapes Go.WideShapes Go.ChangeAt Go.RowKit

theorem own_knob : ownKnob Try.prog.godebug = none := by kernel_rfl
theorem laid_out : laidOutB Try.prog = true := by kernel_rfl

section
variable {H : Type} {enc : TypeId × Value → H}
set_option maxRecDepth 100000 in
theorem law_post {f : Func} {s : ChangeSpec} {W W' : World} {args : Array Value} {ds gs : List (DataW H)} {before : List MemPlace} {t : TypeId}
    (hW : DataW.Whole enc Try.prog f.params.toList s.vars false W args.toList ds gs before) (hr : f.resultTypes = #[t]) (ht : Try.prog.underlying t = some .bool)
    (hfn : (s.fn H (ds ++ gs)).results = [.lit (.bool true)] ∧ (s.fn H (ds ++ gs)).args = ds ∧ (s.fn H (ds ++ gs)).vars = []) (hv : s.vars = [])
    (hargs : DataW.TrodAll enc Try.prog W' 0 (fun b => decide (b < W.heap.size)) true f.params.toList args.toList ds before) (hb : Below W.heap.size W W') :
    s.post enc Try.prog f false true false false W args (.bool true) W' := by
  refine ⟨ds, gs, before, [], before, [], hW, ?_, ?_, ?_, World.keptBut_mono (fun p hp => ⟨hp, Or.inr (by simpa using hp)⟩) (hb.frame (· ∈ before)), fun h => by cases h⟩
  · rw [hfn.1, hr]
    exact trodAll_mk1 (shut_bool ht true)
  · rw [hfn.2.1]
    exact hargs
  · rw [hfn.2.2, hv]
    rfl

variable {w : World} {base : Nat} {sp : Nat → Bool} {held : Bool}
/-- a slice, opened: its elements by what each element's type gives -/
theorem open_rd {α : Type} {size : Nat} {en : α → List Value} {Pr : α → Prop} {t e : TypeId} (ht : Try.prog.underlying t = some (.slice e)) (hc : Try.prog.cellsOf e = size) (hpos : 0 < size) (hen : ∀ a, (en a).length = size)
    (hel : ∀ fuel cs (x : DataW H × List MemPlace), DataW.trod enc Try.prog w base sp held fuel e cs = some x → ∃ a, cs = en a ∧ Pr a)
    {fuel : Nat} {cs : List Value} {x : DataW H × List MemPlace} (h : DataW.trod enc Try.prog w base sp held fuel t cs = some x) : ∃ v l, cs = [v] ∧ Rd size en w 0 w.heap.size v l ∧ ∀ a ∈ l, Pr a := by
  rcases DataW.trod_slice ht h with ⟨rfl, _⟩ | ⟨a, len, cap, elems, rest, n, _, rfl, _, hb, hl, hm, hlen, helem, _⟩
  · exact ⟨_, [], rfl, Rd.nil _ _ _, fun a ha => by cases ha⟩
  · rw [hc] at helem
    have hx : ∀ i : Fin len, ∃ y, w.cells? base (a.add (i * size)) size = some (en y) ∧ Pr y := by
      intro i
      have h1 := helem i i.2
      have hi : (i : Nat) < elems.length := by rw [hlen]; exact i.2
      rw [List.getElem?_eq_getElem hi, Option.bind_eq_some_iff] at h1
      obtain ⟨cs', h2, h3⟩ := h1
      obtain ⟨y, rfl, hp⟩ := hel _ _ _ h3
      exact ⟨y, h2, hp⟩
    let f : Fin len → α := fun i => Classical.choose (hx i)
    have hf : ∀ i : Fin len, w.cells? base (a.add ((i : Nat) * size)) size = some (en (f i)) ∧ Pr (f i) := fun i => Classical.choose_spec (hx i)
    have hlf : (List.ofFn f).length = len := by simp
    have hcell : ∀ (k : Nat) (hk : k < len) (r : Nat), r < size → w.cell? ((a.add (k * size)).add r) = (en (f ⟨k, hk⟩))[r]? := by
      intro k hk r hr
      exact (World.cells?_some (hf ⟨k, hk⟩).1).2.2 r hr
    refine ⟨_, List.ofFn f, rfl, ⟨flatMap_len hen _, some a, cap, by rw [hlf], by rw [hlf]; exact hl, by rw [hlf]; exact Nat.le_trans hl hm, fun hn => ?_⟩, fun y hy => ?_⟩
    · rw [hlf] at hn
      have hspot : a.spot = none := by
        have h0 := hcell 0 hn 0 hpos
        have h1 : ((a.add (0 * size)).add 0) = a := by simp [Addr.add]
        rw [h1] at h0
        obtain ⟨u, hu⟩ : ∃ u, (en (f ⟨0, hn⟩))[0]? = some u := ⟨_, List.getElem?_eq_getElem (by rw [hen]; exact hpos)⟩
        rw [hu] at h0
        exact World.cell?_spot h0
      obtain ⟨b, off, s⟩ := a
      simp only at hspot
      subst hspot
      have hall : ∀ j u, ((List.ofFn f).flatMap en)[j]? = some u → w.cell? ⟨b, off + j, none⟩ = some u := by
        intro j u hu
        have hj : j < len * size := by
          have := (List.getElem?_eq_some_iff.1 hu).1
          rw [flatMap_len hen, hlf] at this
          exact this
        have hk : j / size < len := (Nat.div_lt_iff_lt_mul hpos).2 hj
        have hr : j % size < size := Nat.mod_lt _ hpos
        have hg := hcell (j / size) hk (j % size) hr
        obtain ⟨u', hu'⟩ : ∃ u', (en (f ⟨j / size, hk⟩))[j % size]? = some u' := ⟨_, List.getElem?_eq_getElem (by rw [hen]; exact hr)⟩
        have hfm := flatMap_get hen (List.ofFn f) (j / size) (f ⟨j / size, hk⟩) (j % size) u' (by simp [hk]) hu'
        have hjj : j / size * size + j % size = j := Nat.div_add_mod' j size
        rw [hjj, hu] at hfm
        rw [hu', add_off, add_off, Nat.add_assoc, hjj] at hg
        rw [hg, ← hfm]
      have hblk : b < w.heap.size := by
        obtain ⟨u, hu⟩ : ∃ u, ((List.ofFn f).flatMap en)[0]? = some u := ⟨_, List.getElem?_eq_getElem (by rw [flatMap_len hen, hlf]; exact Nat.mul_pos hn hpos)⟩
        exact World.block_lt_of_cell? _ _ (hall 0 u hu)
      exact ⟨b, off, rfl, Nat.zero_le _, hblk, hall⟩
    · obtain ⟨i, hi⟩ := List.mem_ofFn.1 hy
      rw [← hi]
      exact (hf i).2

theorem ints_open {fuel : Nat} {cs : List Value} {x : DataW H × List MemPlace} (h : DataW.trod enc Try.prog w base sp held fuel 30 cs = some x) : ∃ v l, cs = [v] ∧ RdI w 0 w.heap.size v l := by
  obtain ⟨v, l, h1, h2, _⟩ := open_rd (en := encI) (Pr := fun _ => True) (size := 1) Try.underlying30 (by kernel_rfl) (by decide) (fun _ => rfl) (fun fuel cs x h => by
    obtain ⟨n, rfl, _⟩ := DataW.trod_int Try.underlying3 h
    exact ⟨n, rfl, True.intro⟩) h
  exact ⟨v, l, h1, h2⟩
theorem strs_open {fuel : Nat} {cs : List Value} {x : DataW H × List MemPlace} (h : DataW.trod enc Try.prog w base sp held fuel 25 cs = some x) : ∃ v l, cs = [v] ∧ RdS w 0 w.heap.size v l := by
  obtain ⟨v, l, h1, h2, _⟩ := open_rd (en := encS) (Pr := fun _ => True) (size := 1) Try.underlying25 (by kernel_rfl) (by decide) (fun _ => rfl) (fun fuel cs x h => by
    obtain ⟨n, rfl, _⟩ := DataW.trod_string Try.underlying9 h
    exact ⟨n, rfl, True.intro⟩) h
  exact ⟨v, l, h1, h2⟩
set_option maxRecDepth 100000 in
theorem trans_open {fuel : Nat} {cs : List Value} {x : DataW H × List MemPlace} (h : DataW.trod enc Try.prog w base sp held fuel 46 cs = some x) : ∃ m : TrV, cs = encV m ∧ ∃ inn out, RdI w 0 w.heap.size m.vi inn ∧ RdI w 0 w.heap.size m.vo out := by
  obtain ⟨xs, n, _, _, hlen, hl, hg⟩ := DataW.trod_struct Try.underlying46 h
  have hc : Try.prog.cellsOf 46 = 3 := by kernel_rfl
  have hi : Try.prog.cellsOf 30 = 1 := by kernel_rfl
  have hs : Try.prog.cellsOf 9 = 1 := by kernel_rfl
  match cs, hlen.trans hc, xs, hl with
  | [c0, c1, c2], _, [x0, x1, x2], _ =>
    have g0 := hg 0 _ rfl
    have g1 := hg 1 _ rfl
    have g2 := hg 2 _ rfl
    simp [hi, hs] at g0 g1 g2
    obtain ⟨n0, e0, _⟩ := DataW.trod_string Try.underlying9 g0
    obtain ⟨v1, l1, e1, r1⟩ := ints_open g1
    obtain ⟨v2, l2, e2, r2⟩ := ints_open g2
    injection e0 with e0
    injection e1 with e1
    injection e2 with e2
    exact ⟨⟨n0, v1, v2⟩, by rw [e0, e1, e2], l1, l2, r1, r2⟩
theorem rdT_of {v : Value} {vs : List TrV} (h : RdV w 0 w.heap.size v vs) (hp : ∀ a ∈ vs, ∃ inn out, RdI w 0 w.heap.size a.vi inn ∧ RdI w 0 w.heap.size a.vo out) : ∃ ts : List Tr, RdT w 0 w.heap.size v ts := by
  have hx : ∀ a : TrV, ∃ t : Tr, a ∈ vs → (a.label = t.label ∧ RdI w 0 w.heap.size a.vi t.inn ∧ RdI w 0 w.heap.size a.vo t.out) := by
    intro a
    by_cases ha : a ∈ vs
    · obtain ⟨inn, out, h1, h2⟩ := hp a ha
      exact ⟨⟨a.label, inn, out⟩, fun _ => ⟨rfl, h1, h2⟩⟩
    · exact ⟨⟨a.label, [], []⟩, fun h => absurd h ha⟩
  let f : TrV → Tr := fun a => Classical.choose (hx a)
  have hf : ∀ a, a ∈ vs → (a.label = (f a).label ∧ RdI w 0 w.heap.size a.vi (f a).inn ∧ RdI w 0 w.heap.size a.vo (f a).out) := fun a => Classical.choose_spec (hx a)
  refine ⟨vs.map f, vs, h, by simp, fun k hk => ?_⟩
  rw [List.length_map] at hk
  have e : gti (vs.map f) k = f (gti vs k) := by
    unfold gti
    rw [List.getElem?_map, List.getElem?_eq_getElem hk]
    rfl
  rw [e]
  exact hf _ (gti_mem hk)
set_option maxRecDepth 100000 in
theorem net_open {fuel : Nat} {cs : List Value} {x : DataW H × List MemPlace} (h : DataW.trod enc Try.prog w base sp held fuel 24 cs = some x) : ∃ (n : Net) (vt : Value), cs = [.int .i64 n.places, vt, .int .i64 n.source, .int .i64 n.sink] ∧ RdT w 0 w.heap.size vt n.trans := by
  obtain ⟨xs, n, _, _, hlen, hl, hg⟩ := DataW.trod_struct Try.underlying24 h
  have hc : Try.prog.cellsOf 24 = 4 := by kernel_rfl
  have hi : Try.prog.cellsOf 3 = 1 := by kernel_rfl
  have hs : Try.prog.cellsOf 22 = 1 := by kernel_rfl
  match cs, hlen.trans hc, xs, hl with
  | [c0, c1, c2, c3], _, [x0, x1, x2, x3], _ =>
    have g0 := hg 0 _ rfl
    have g1 := hg 1 _ rfl
    have g2 := hg 2 _ rfl
    have g3 := hg 3 _ rfl
    simp [hi, hs] at g0 g1 g2 g3
    obtain ⟨n0, e0, _⟩ := DataW.trod_int Try.underlying3 g0
    obtain ⟨v1, vs, e1, r1, p1⟩ := open_rd (en := encV) (Pr := fun m => ∃ inn out, RdI w 0 w.heap.size m.vi inn ∧ RdI w 0 w.heap.size m.vo out) (size := 3) Try.underlying22 (by kernel_rfl) (by decide) (fun _ => rfl) (fun fuel cs x h => trans_open h) g1
    obtain ⟨n2, e2, _⟩ := DataW.trod_int Try.underlying3 g2
    obtain ⟨n3, e3, _⟩ := DataW.trod_int Try.underlying3 g3
    obtain ⟨ts, rt⟩ := rdT_of r1 p1
    injection e0 with e0
    injection e1 with e1
    injection e2 with e2
    injection e3 with e3
    exact ⟨⟨n0, ts, n2, n3⟩, v1, by rw [e0, e1, e2, e3], rt⟩
variable {b0 : Nat} {r : Reach} {v : Value} {d : DataW H} {p : List MemPlace}
set_option maxRecDepth 100000 in
theorem open_net (hv : Value.okWide Try.prog w r b0 24 v) (h : DataW.Trod enc Try.prog w base sp held 24 v d p) : ∃ (n : Net) (vt : Value), v = netV n vt ∧ RdT w 0 w.heap.size vt n.trans := by
  obtain ⟨cs, rfl, hsz⟩ := okWide_struct Try.underlying24 hv
  obtain ⟨fuel, hf⟩ := h
  obtain ⟨n, vt, ha, hr⟩ := net_open hf
  refine ⟨n, vt, ?_, hr⟩
  simp [Value.cells] at ha
  rw [show cs = cs.toList.toArray by simp, ha]
set_option maxRecDepth 100000 in
theorem open_ints' (hv : Value.okWide Try.prog w r b0 30 v) (h : DataW.Trod enc Try.prog w base sp held 30 v d p) : ∃ l, RdI w 0 w.heap.size v l := by
  obtain ⟨a, n, c, rfl⟩ := okWide_slice Try.underlying30 hv
  obtain ⟨fuel, hf⟩ := h
  obtain ⟨v', l, ha, hr⟩ := ints_open hf
  simp [Value.cells] at ha
  subst ha
  exact ⟨l, hr⟩
set_option maxRecDepth 100000 in
theorem open_strs' (hv : Value.okWide Try.prog w r b0 25 v) (h : DataW.Trod enc Try.prog w base sp held 25 v d p) : ∃ l, RdS w 0 w.heap.size v l := by
  obtain ⟨a, n, c, rfl⟩ := okWide_slice Try.underlying25 hv
  obtain ⟨fuel, hf⟩ := h
  obtain ⟨v', l, ha, hr⟩ := strs_open hf
  simp [Value.cells] at ha
  subst ha
  exact ⟨l, hr⟩
end
end Go.Proofs.Ytmhbfoaecebobaa
