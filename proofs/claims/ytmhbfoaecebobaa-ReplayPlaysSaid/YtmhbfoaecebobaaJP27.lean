/-
  Texts joined: Great, Open, RPy. Conditions: none.
-/
import Derived.Test.YtmhbfoaecebobaaJP17
import Derived.Test.YtmhbfoaecebobaaRows
import Derived.Test.YtmhbfoaecebobaaJP10
import Derived.ProofKit
import Derived.Below
import Derived.ChangeSame
import Derived.ChangeSlices
import Derived.DataReads
import Derived.Test.YtmhbfoaecebobaaJP26
import Derived.ChangeShapes
section
namespace Go.Proofs.Ytmhbfoaecebobaa
set_option linter.unusedSimpArgs false
set_option linter.unusedVariables false
open Go.RowKit

theorem ent_long : Ent 24 := ent_of Try.func24 (by kernel_rfl) rfl
theorem ent_great1 : Ent 26 := ent_of Try.func26 (by kernel_rfl) rfl
set_option maxHeartbeats 400000 in
theorem long_any (a : ByteArray) (w : World) : Calls Try.prog 24 #[.string a] w fun e w' => e = .returned (.bool (decide ((100 : Int) < a.size))) ∧ Below w.heap.size w w' := by
  refine calls_cps fun R hR => ?_
  have HR := Lib.hid hR
  clear hR
  go_enter Try.func24, Try.ntmps24
  go_wp2_with fail
  exact HR.out _ _ ⟨rfl, Below.refl _ _⟩
def great1B (a : TrV) : Bool := decide (50 < lenOfV a.vi) || decide (50 < lenOfV a.vo) || decide (100 < a.label.size)
set_option maxHeartbeats 1000000 in
theorem great1_any (a : TrV) (h : ∃ A n c B m d, a.vi = .slice A n c ∧ a.vo = .slice B m d) (w : World) : Calls Try.prog 26 #[.agg #[.string a.label, a.vi, a.vo]] w fun e w' => e = .returned (.bool (great1B a)) ∧ Below w.heap.size w w' := by
  obtain ⟨A, n, c, B, m, d, hi, ho⟩ := h
  have HE : Hid (great1B a = (decide (50 < n) || decide (50 < m) || decide ((100 : Int) < a.label.size))) := Lib.hid (by
    have e : decide (100 < a.label.size) = decide ((100 : Int) < a.label.size) := by rw [decide_eq_decide]; omega
    unfold great1B; rw [hi, ho, ← e]; simp [lenOfV] <;> rfl)
  rw [hi, ho]
  clear hi ho
  have HB : Hid (Below w.heap.size w (w.alloc (.cells #[.string a.label, .slice A n c, .slice B m d] 46))) := Lib.hid ((Below.refl _ _).alloc (Nat.le_refl _) _)
  by_cases h1 : 50 < n
  · have hd1 : decide ((50 : Int) < n) = true := by simp; omega
    refine calls_cps fun R hR => ?_
    have HR := Lib.hid hR
    clear hR
    go_enter Try.func26, Try.ntmps26
    go_wp2_with fail
    exact HR.out _ _ ⟨ret_bool (by rw [HE.out, decide_eq_true h1]; rfl), HB.out⟩
  · have hd1 : decide ((50 : Int) < n) = false := by simp; omega
    by_cases h2 : 50 < m
    · have hd2 : decide ((50 : Int) < m) = true := by simp; omega
      refine calls_cps fun R hR => ?_
      have HR := Lib.hid hR
      clear hR
      go_enter Try.func26, Try.ntmps26
      go_wp2_with fail
      exact HR.out _ _ ⟨ret_bool (by rw [HE.out, decide_eq_true h2]; simp), HB.out⟩
    · have hd2 : decide ((50 : Int) < m) = false := by simp; omega
      refine calls_cps fun R hR => ?_
      have HR := Lib.hid hR
      clear hR
      go_enter Try.func26, Try.ntmps26
      go_wp2_with (go_at_call 24; refine (long_any _ _).mono ?_; rintro e w1 ⟨rfl, hb1⟩; replace HB := Lib.hid (HB.out.trans (hb1.mono HB.out.size)); clear hb1)
      exact HR.out _ _ ⟨ret_bool (by rw [HE.out, decide_eq_false h1, decide_eq_false h2]; rfl), HB.out⟩
theorem great1_in (n : List Tr) (vs : List TrV) {w : World} {lo hi : Nat} (h2 : vs.length = n.length) (h3 : ∀ k, k < n.length → (gti vs k).label = (gti n k).label ∧ RdI w lo hi (gti vs k).vi (gti n k).inn ∧ RdI w lo hi (gti vs k).vo (gti n k).out) (a : TrV) (ha : a ∈ vs) :
    ∃ A n c B m d, a.vi = .slice A n c ∧ a.vo = .slice B m d := by
  obtain ⟨k, hk, rfl⟩ := List.mem_iff_getElem.1 ha
  obtain ⟨_, hi, ho⟩ := h3 k (by omega)
  have e : gti vs k = vs[k] := by unfold gti; rw [List.getElem?_eq_getElem hk]; rfl
  rw [e] at hi ho
  obtain ⟨A, c, h1, _⟩ := hi.form
  obtain ⟨B, d, h2, _⟩ := ho.form
  exact ⟨A, _, c, B, _, d, h1, h2⟩

set_option maxRecDepth 100000 in
set_option maxHeartbeats 8000000 in
theorem great_any (n : Net) (l : List ByteArray) (lo hi lo' hi' : Nat) (vt v : Value) (w : World) (hn : RdT w lo hi vt n.trans) (hv : RdS w lo' hi' v l) :
    Calls Try.prog 9 #[netV n vt, v] w fun e w' => ∃ z, e = .returned (.bool z) ∧ Below w.heap.size w w' := by
  have HC := Lib.hid (fun (W : World) (hW : Below w.heap.size w W) => containsFS_any 24 ent_long #[] (fun a => decide ((100 : Int) < a.size)) l lo' hi' v W (hv.after hW) (fun a _ W _ => long_any a W))
  obtain ⟨vs, h1, h2, h3⟩ := hn
  have HV := Lib.hid (fun (W : World) (hW : Below w.heap.size w W) => containsFV_any 26 ent_great1 #[] great1B vs lo hi vt W (h1.after hW) (fun a ha W _ => great1_any a (great1_in n.trans vs h2 h3 a ha) W))
  obtain ⟨A, c, rfl, hc, hm⟩ := hv.form
  obtain ⟨B, d, rfl, hd, hm2⟩ := h1.form
  clear hv h1 h3 h2
  refine calls_cps fun R hR => ?_
  have HR := Lib.hid hR
  clear hR
  go_enter Try.func9, Try.ntmps9
  have M : Hid (Mem [Loc.k4 w.heap.size (.int .i64 n.places) (.slice B vs.length d) (.int .i64 n.source) (.int .i64 n.sink), Loc.bl w.heap.size w] (w.alloc (.cells #[.int .i64 n.places, .slice B vs.length d, .int .i64 n.source, .int .i64 n.sink] 24))) := Lib.hid ⟨K4.new w _ _ _ _ _, ⟨(Below.refl _ _).alloc (Nat.le_refl _) _, by simp⟩, True.intro⟩
  have hk4 := M.out.1
  have tT : vs.length ≤ 12 ∨ (12 < vs.length ∧ vs.length ≤ 60) ∨ (60 < vs.length ∧ vs.length ≤ 100) ∨ 100 < vs.length := by omega
  have tP : n.places ≤ 12 ∨ (12 < n.places ∧ n.places ≤ 40) ∨ 40 < n.places := by omega
  have tL : l.length ≤ 30 ∨ (30 < l.length ∧ l.length ≤ 200) ∨ (200 < l.length ∧ l.length ≤ 1000) ∨ 1000 < l.length := by omega
  rcases tT with t | t | t | t
  case inr.inl =>
    have d1 : decide ((12 : Int) < vs.length) = true := by simp; omega
    have d2 : decide ((vs.length : Int) ≤ 60) = true := by simp; omega
    go_wp2_with fail
    exact HR.out _ _ ⟨_, rfl, M.out.2.1.1⟩
  case inr.inr.inr =>
    have d1 : decide ((12 : Int) < vs.length) = true := by simp; omega
    have d2 : decide ((vs.length : Int) ≤ 60) = false := by simp; omega
    have d3 : decide ((100 : Int) < vs.length) = true := by simp; omega
    go_wp2_with fail
    exact HR.out _ _ ⟨_, rfl, M.out.2.1.1⟩
  case' inl =>
    have d1 : decide ((12 : Int) < vs.length) = false := by simp; omega
  case' inr.inr.inl =>
    have d1 : decide ((12 : Int) < vs.length) = true := by simp; omega
    have d2 : decide ((vs.length : Int) ≤ 60) = false := by simp; omega
  all_goals
    have d3 : decide ((100 : Int) < vs.length) = false := by simp; omega
    rcases tP with p | p | p
  all_goals first
    | (have e1 : decide ((12 : Int) < n.places) = true := by simp; omega
       have e2 : decide (n.places ≤ 40) = true := by simp; omega
       go_wp2_with fail
       exact HR.out _ _ ⟨_, rfl, M.out.2.1.1⟩)
    | (have e1 : decide ((12 : Int) < n.places) = false := by simp; omega
       skip)
    | (have e1 : decide ((12 : Int) < n.places) = true := by simp; omega
       have e2 : decide (n.places ≤ 40) = false := by simp; omega
       skip)
  all_goals rcases tL with q | q | q | q
  all_goals first
    | (have f1 : decide ((30 : Int) < l.length) = true := by simp; omega
       have f2 : decide ((l.length : Int) ≤ 200) = true := by simp; omega
       go_wp2_with fail
       exact HR.out _ _ ⟨_, rfl, M.out.2.1.1⟩)
    | (have f1 : decide ((30 : Int) < l.length) = true := by simp; omega
       have f2 : decide ((l.length : Int) ≤ 200) = false := by simp; omega
       have f3 : decide ((1000 : Int) < l.length) = true := by simp; omega
       go_wp2_with fail
       exact HR.out _ _ ⟨_, rfl, M.out.2.1.1⟩)
    | (have f1 : decide ((30 : Int) < l.length) = false := by simp; omega
       have f3 : decide ((1000 : Int) < l.length) = false := by simp; omega
       skip)
    | (have f1 : decide ((30 : Int) < l.length) = true := by simp; omega
       have f2 : decide ((l.length : Int) ≤ 200) = false := by simp; omega
       have f3 : decide ((1000 : Int) < l.length) = false := by simp; omega
       skip)
  all_goals
    obtain ⟨za, hza⟩ : ∃ z, l.any (fun a => decide ((100 : Int) < a.size)) = z := ⟨_, rfl⟩
    rw [hza] at HC
    clear hza
    cases za
    all_goals go_wp2_with (first
      | (go_at_call 23; refine (HC.out _ M.out.2.1.1).mono ?_; rintro e w1 ⟨rfl, hb1⟩; replace M := Lib.hid (M.out.below hb1); clear hb1; replace hk4 := M.out.1)
      | (go_at_call 25; refine (HV.out _ M.out.2.1.1).mono ?_; rintro e w1 ⟨rfl, hb1⟩; replace M := Lib.hid (M.out.below hb1); clear hb1; replace hk4 := M.out.1))
    all_goals exact HR.out _ _ ⟨_, rfl, M.out.2.1.1⟩
end Go.Proofs.Ytmhbfoaecebobaa
end
section
namespace Go.Proofs.Ytmhbfoaecebobaa
set_option linter.unusedSimpArgs false
set_option linter.unusedVariables false
open Go.ChangeShapes Go.WideShapes Go.ChangeAt Go.RowKit

theorem own_knob : ownKnob Try.prog.godebug = none := by kernel_rfl
theorem laid_out : laidOutB Try.prog = true := by kernel_rfl

section
variable {H : Type} {enc : TypeId × Value → H}
set_option maxRecDepth 100000 in
theorem law_post {f : Func} {s : ChangeSpec} {W W' : World} {args : Array Value} {ds gs : List (DataW H)} {before : List MemPlace} {t : TypeId}
    (hW : DataW.Whole enc Try.prog f.params.toList s.vars false W args.toList ds gs before) (hr : f.resultTypes = #[t]) (ht : Try.prog.underlying t = some .bool)
    (hfn : (s.fn H (ds ++ gs)).results = [.lit (.bool true)] ∧ (s.fn H (ds ++ gs)).args = ds ∧ (s.fn H (ds ++ gs)).vars = []) (hv : s.vars = [])
    (hargs : DataW.TrodAll enc Try.prog W' 0 (fun b => decide (b < W.heap.size)) true f.params.toList args.toList ds before) (hb : Below W.heap.size W W') :
    s.post enc Try.prog f false true false false W args (.bool true) W' := by
  refine ⟨ds, gs, before, [], before, [], hW, ?_, ?_, ?_, World.keptBut_mono (fun p hp => ⟨hp, Or.inr (by simpa using hp)⟩) (hb.frame (· ∈ before)), fun h => by cases h⟩
  · rw [hfn.1, hr]
    exact trodAll_mk1 (shut_bool ht true)
  · rw [hfn.2.1]
    exact hargs
  · rw [hfn.2.2, hv]
    rfl

variable {w : World} {base : Nat} {sp : Nat → Bool} {held : Bool}
/-- a slice, opened: its elements by what each element's type gives -/
theorem open_rd {α : Type} {size : Nat} {en : α → List Value} {Pr : α → Prop} {t e : TypeId} (ht : Try.prog.underlying t = some (.slice e)) (hc : Try.prog.cellsOf e = size) (hpos : 0 < size) (hen : ∀ a, (en a).length = size)
    (hel : ∀ fuel cs (x : DataW H × List MemPlace), DataW.trod enc Try.prog w base sp held fuel e cs = some x → ∃ a, cs = en a ∧ Pr a)
    {fuel : Nat} {cs : List Value} {x : DataW H × List MemPlace} (h : DataW.trod enc Try.prog w base sp held fuel t cs = some x) : ∃ v l, cs = [v] ∧ Rd size en w 0 w.heap.size v l ∧ ∀ a ∈ l, Pr a := by
  rcases DataW.trod_slice ht h with ⟨rfl, _⟩ | ⟨a, len, cap, elems, rest, n, _, rfl, _, hb, hl, hm, hlen, helem, _⟩
  · exact ⟨_, [], rfl, Rd.nil _ _ _, fun a ha => by cases ha⟩
  · rw [hc] at helem
    have hx : ∀ i : Fin len, ∃ y, w.cells? base (a.add (i * size)) size = some (en y) ∧ Pr y := by
      intro i
      have h1 := helem i i.2
      have hi : (i : Nat) < elems.length := by rw [hlen]; exact i.2
      rw [List.getElem?_eq_getElem hi, Option.bind_eq_some_iff] at h1
      obtain ⟨cs', h2, h3⟩ := h1
      obtain ⟨y, rfl, hp⟩ := hel _ _ _ h3
      exact ⟨y, h2, hp⟩
    let f : Fin len → α := fun i => Classical.choose (hx i)
    have hf : ∀ i : Fin len, w.cells? base (a.add ((i : Nat) * size)) size = some (en (f i)) ∧ Pr (f i) := fun i => Classical.choose_spec (hx i)
    have hlf : (List.ofFn f).length = len := by simp
    have hcell : ∀ (k : Nat) (hk : k < len) (r : Nat), r < size → w.cell? ((a.add (k * size)).add r) = (en (f ⟨k, hk⟩))[r]? := by
      intro k hk r hr
      exact (World.cells?_some (hf ⟨k, hk⟩).1).2.2 r hr
    refine ⟨_, List.ofFn f, rfl, ⟨flatMap_len hen _, some a, cap, by rw [hlf], by rw [hlf]; exact hl, by rw [hlf]; exact Nat.le_trans hl hm, fun hn => ?_⟩, fun y hy => ?_⟩
    · rw [hlf] at hn
      have hspot : a.spot = none := by
        have h0 := hcell 0 hn 0 hpos
        have h1 : ((a.add (0 * size)).add 0) = a := by simp [Addr.add]
        rw [h1] at h0
        obtain ⟨u, hu⟩ : ∃ u, (en (f ⟨0, hn⟩))[0]? = some u := ⟨_, List.getElem?_eq_getElem (by rw [hen]; exact hpos)⟩
        rw [hu] at h0
        exact World.cell?_spot h0
      obtain ⟨b, off, s⟩ := a
      simp only at hspot
      subst hspot
      have hall : ∀ j u, ((List.ofFn f).flatMap en)[j]? = some u → w.cell? ⟨b, off + j, none⟩ = some u := by
        intro j u hu
        have hj : j < len * size := by
          have := (List.getElem?_eq_some_iff.1 hu).1
          rw [flatMap_len hen, hlf] at this
          exact this
        have hk : j / size < len := (Nat.div_lt_iff_lt_mul hpos).2 hj
        have hr : j % size < size := Nat.mod_lt _ hpos
        have hg := hcell (j / size) hk (j % size) hr
        obtain ⟨u', hu'⟩ : ∃ u', (en (f ⟨j / size, hk⟩))[j % size]? = some u' := ⟨_, List.getElem?_eq_getElem (by rw [hen]; exact hr)⟩
        have hfm := flatMap_get hen (List.ofFn f) (j / size) (f ⟨j / size, hk⟩) (j % size) u' (by simp [hk]) hu'
        have hjj : j / size * size + j % size = j := Nat.div_add_mod' j size
        rw [hjj, hu] at hfm
        rw [hu', add_off, add_off, Nat.add_assoc, hjj] at hg
        rw [hg, ← hfm]
      have hblk : b < w.heap.size := by
        obtain ⟨u, hu⟩ : ∃ u, ((List.ofFn f).flatMap en)[0]? = some u := ⟨_, List.getElem?_eq_getElem (by rw [flatMap_len hen, hlf]; exact Nat.mul_pos hn hpos)⟩
        exact World.block_lt_of_cell? _ _ (hall 0 u hu)
      exact ⟨b, off, rfl, Nat.zero_le _, hblk, hall⟩
    · obtain ⟨i, hi⟩ := List.mem_ofFn.1 hy
      rw [← hi]
      exact (hf i).2

theorem ints_open {fuel : Nat} {cs : List Value} {x : DataW H × List MemPlace} (h : DataW.trod enc Try.prog w base sp held fuel 30 cs = some x) : ∃ v l, cs = [v] ∧ RdI w 0 w.heap.size v l := by
  obtain ⟨v, l, h1, h2, _⟩ := open_rd (en := encI) (Pr := fun _ => True) (size := 1) Try.underlying30 (by kernel_rfl) (by decide) (fun _ => rfl) (fun fuel cs x h => by
    obtain ⟨n, rfl, _⟩ := DataW.trod_int Try.underlying3 h
    exact ⟨n, rfl, True.intro⟩) h
  exact ⟨v, l, h1, h2⟩
theorem strs_open {fuel : Nat} {cs : List Value} {x : DataW H × List MemPlace} (h : DataW.trod enc Try.prog w base sp held fuel 25 cs = some x) : ∃ v l, cs = [v] ∧ RdS w 0 w.heap.size v l := by
  obtain ⟨v, l, h1, h2, _⟩ := open_rd (en := encS) (Pr := fun _ => True) (size := 1) Try.underlying25 (by kernel_rfl) (by decide) (fun _ => rfl) (fun fuel cs x h => by
    obtain ⟨n, rfl, _⟩ := DataW.trod_string Try.underlying9 h
    exact ⟨n, rfl, True.intro⟩) h
  exact ⟨v, l, h1, h2⟩
set_option maxRecDepth 100000 in
theorem trans_open {fuel : Nat} {cs : List Value} {x : DataW H × List MemPlace} (h : DataW.trod enc Try.prog w base sp held fuel 46 cs = some x) : ∃ m : TrV, cs = encV m ∧ ∃ inn out, RdI w 0 w.heap.size m.vi inn ∧ RdI w 0 w.heap.size m.vo out := by
  obtain ⟨xs, n, _, _, hlen, hl, hg⟩ := DataW.trod_struct Try.underlying46 h
  have hc : Try.prog.cellsOf 46 = 3 := by kernel_rfl
  have hi : Try.prog.cellsOf 30 = 1 := by kernel_rfl
  have hs : Try.prog.cellsOf 9 = 1 := by kernel_rfl
  match cs, hlen.trans hc, xs, hl with
  | [c0, c1, c2], _, [x0, x1, x2], _ =>
    have g0 := hg 0 _ rfl
    have g1 := hg 1 _ rfl
    have g2 := hg 2 _ rfl
    simp [hi, hs] at g0 g1 g2
    obtain ⟨n0, e0, _⟩ := DataW.trod_string Try.underlying9 g0
    obtain ⟨v1, l1, e1, r1⟩ := ints_open g1
    obtain ⟨v2, l2, e2, r2⟩ := ints_open g2
    injection e0 with e0
    injection e1 with e1
    injection e2 with e2
    exact ⟨⟨n0, v1, v2⟩, by rw [e0, e1, e2], l1, l2, r1, r2⟩
theorem rdT_of {v : Value} {vs : List TrV} (h : RdV w 0 w.heap.size v vs) (hp : ∀ a ∈ vs, ∃ inn out, RdI w 0 w.heap.size a.vi inn ∧ RdI w 0 w.heap.size a.vo out) : ∃ ts : List Tr, RdT w 0 w.heap.size v ts := by
  have hx : ∀ a : TrV, ∃ t : Tr, a ∈ vs → (a.label = t.label ∧ RdI w 0 w.heap.size a.vi t.inn ∧ RdI w 0 w.heap.size a.vo t.out) := by
    intro a
    by_cases ha : a ∈ vs
    · obtain ⟨inn, out, h1, h2⟩ := hp a ha
      exact ⟨⟨a.label, inn, out⟩, fun _ => ⟨rfl, h1, h2⟩⟩
    · exact ⟨⟨a.label, [], []⟩, fun h => absurd h ha⟩
  let f : TrV → Tr := fun a => Classical.choose (hx a)
  have hf : ∀ a, a ∈ vs → (a.label = (f a).label ∧ RdI w 0 w.heap.size a.vi (f a).inn ∧ RdI w 0 w.heap.size a.vo (f a).out) := fun a => Classical.choose_spec (hx a)
  refine ⟨vs.map f, vs, h, by simp, fun k hk => ?_⟩
  rw [List.length_map] at hk
  have e : gti (vs.map f) k = f (gti vs k) := by
    unfold gti
    rw [List.getElem?_map, List.getElem?_eq_getElem hk]
    rfl
  rw [e]
  exact hf _ (gti_mem hk)
set_option maxRecDepth 100000 in
theorem net_open {fuel : Nat} {cs : List Value} {x : DataW H × List MemPlace} (h : DataW.trod enc Try.prog w base sp held fuel 24 cs = some x) : ∃ (n : Net) (vt : Value), cs = [.int .i64 n.places, vt, .int .i64 n.source, .int .i64 n.sink] ∧ RdT w 0 w.heap.size vt n.trans := by
  obtain ⟨xs, n, _, _, hlen, hl, hg⟩ := DataW.trod_struct Try.underlying24 h
  have hc : Try.prog.cellsOf 24 = 4 := by kernel_rfl
  have hi : Try.prog.cellsOf 3 = 1 := by kernel_rfl
  have hs : Try.prog.cellsOf 22 = 1 := by kernel_rfl
  match cs, hlen.trans hc, xs, hl with
  | [c0, c1, c2, c3], _, [x0, x1, x2, x3], _ =>
    have g0 := hg 0 _ rfl
    have g1 := hg 1 _ rfl
    have g2 := hg 2 _ rfl
    have g3 := hg 3 _ rfl
    simp [hi, hs] at g0 g1 g2 g3
    obtain ⟨n0, e0, _⟩ := DataW.trod_int Try.underlying3 g0
    obtain ⟨v1, vs, e1, r1, p1⟩ := open_rd (en := encV) (Pr := fun m => ∃ inn out, RdI w 0 w.heap.size m.vi inn ∧ RdI w 0 w.heap.size m.vo out) (size := 3) Try.underlying22 (by kernel_rfl) (by decide) (fun _ => rfl) (fun fuel cs x h => trans_open h) g1
    obtain ⟨n2, e2, _⟩ := DataW.trod_int Try.underlying3 g2
    obtain ⟨n3, e3, _⟩ := DataW.trod_int Try.underlying3 g3
    obtain ⟨ts, rt⟩ := rdT_of r1 p1
    injection e0 with e0
    injection e1 with e1
    injection e2 with e2
    injection e3 with e3
    exact ⟨⟨n0, ts, n2, n3⟩, v1, by rw [e0, e1, e2, e3], rt⟩
variable {b0 : Nat} {r : Reach} {v : Value} {d : DataW H} {p : List MemPlace}
set_option maxRecDepth 100000 in
theorem open_net (hv : Value.okWide Try.prog w r b0 24 v) (h : DataW.Trod enc Try.prog w base sp held 24 v d p) : ∃ (n : Net) (vt : Value), v = netV n vt ∧ RdT w 0 w.heap.size vt n.trans := by
  obtain ⟨cs, rfl, hsz⟩ := okWide_struct Try.underlying24 hv
  obtain ⟨fuel, hf⟩ := h
  obtain ⟨n, vt, ha, hr⟩ := net_open hf
  refine ⟨n, vt, ?_, hr⟩
  simp [Value.cells] at ha
  rw [show cs = cs.toList.toArray by simp, ha]
set_option maxRecDepth 100000 in
theorem open_ints' (hv : Value.okWide Try.prog w r b0 30 v) (h : DataW.Trod enc Try.prog w base sp held 30 v d p) : ∃ l, RdI w 0 w.heap.size v l := by
  obtain ⟨a, n, c, rfl⟩ := okWide_slice Try.underlying30 hv
  obtain ⟨fuel, hf⟩ := h
  obtain ⟨v', l, ha, hr⟩ := ints_open hf
  simp [Value.cells] at ha
  subst ha
  exact ⟨l, hr⟩
set_option maxRecDepth 100000 in
theorem open_strs' (hv : Value.okWide Try.prog w r b0 25 v) (h : DataW.Trod enc Try.prog w base sp held 25 v d p) : ∃ l, RdS w 0 w.heap.size v l := by
  obtain ⟨a, n, c, rfl⟩ := okWide_slice Try.underlying25 hv
  obtain ⟨fuel, hf⟩ := h
  obtain ⟨v', l, ha, hr⟩ := strs_open hf
  simp [Value.cells] at ha
  subst ha
  exact ⟨l, hr⟩
end
end Go.Proofs.Ytmhbfoaecebobaa
end
section
namespace Go.Proofs.Ytmhbfoaecebobaa.Aw
set_option linter.unusedSimpArgs false
set_option linter.unusedVariables false
open Go.RowKit Go.Proofs
variable {P : Program} [IsP P]

/-- before the law is called -/
def G0 (W : World) : Cx := { base := 0, w0 := W, w := W, mu := fun _ => none, St := fun b _ => b < W.heap.size }
theorem pure_law {P : Program} {f : FuncId} {args : List AV} (hp : Pure P f args (eB true)) (W : World) (vargs : Array Value) (hsz : vargs.size = args.length) (hrep : ∀ (j : Nat) v x, vargs[j]? = some v → args[j]? = some x → Rep (G0 W) v x) :
    Calls P f vargs W fun e w' => e = .returned (.bool true) ∧ Below W.heap.size W w' :=
  (hp.call (G0 W) vargs (fun b o h => h) hsz hrep).mono (by
    rintro e w' ⟨v, G', rfl, rfl, hb, _, _, _, hr⟩
    exact ⟨by rw [rep_s hr], hb⟩)
theorem rep_net0 {W : World} {lo hi : Nat} {vt : Value} {n : Net} (h : RdT W lo hi vt n.trans) : Rep (G0 W) (netV n vt) (eN n) :=
  .agg _ _ rfl (by intro c hc; simp at hc; rcases hc with rfl | rfl | rfl | rfl <;> rfl) (fun j v x hv hx => by
    match j, hv, hx with
    | 0, hv, hx => simp at hv hx; subst hv hx; exact .s _
    | 1, hv, hx => simp at hv hx; subst hv hx; exact rdT_rep (G := G0 W) h (fun b o _ _ h => h)
    | 2, hv, hx => simp at hv hx; subst hv hx; exact .s _
    | 3, hv, hx => simp at hv hx; subst hv hx; exact .s _
    | j + 4, hv, hx => simp at hv)
theorem pureE_prog {f : FuncId} {args : List AV} {R : AV → Prop} (h : PureE Try.prog f args R) : PureE P f args R := by rw [IsP.eq (P := P)]; exact h
/-- a yes or no that is not told -/
theorem someB_pure {f : FuncId} {args : List AV} (he : Ent f) (h : ∀ (G : Cx) (vargs : Array Value), (∀ b o, G.St b o → b < G.w.heap.size) → vargs.size = args.length → (∀ (j : Nat) v x, vargs[j]? = some v → args[j]? = some x → Rep G v x) → Calls Try.prog f vargs G.w fun e w' => ∃ z, e = .returned (.bool z) ∧ Below G.w.heap.size G.w w') : PureE P f args (fun r => ∃ z, r = eB z) :=
  pureE_prog ⟨he, by rintro r ⟨z, rfl⟩; exact .s _, fun G vargs hst hsz hrep => (h G vargs hst hsz hrep).mono (by
    rintro e w' ⟨z, rfl, hb⟩
    refine ⟨_, newCx G w', eB z, ⟨z, rfl⟩, rfl, rfl, hb, fun b o h => .inl h, fun b o h => ?_, fun b o h => ?_, .s _⟩
    · exact h.imp (fun h => h) (fun h => h.1)
    · rcases h with h | h
      · have := hst b o h; have := hb.size; show b < w'.heap.size; omega
      · exact h.2)⟩
theorem awake_pf : Pure P 8 [] (eB true) :=
  retB_pure (ent_of Try.func8 rfl rfl) fun G vargs hst hsz hrep => by
    obtain ⟨q⟩ := vargs
    match q, hsz with
    | [], _ => exact awake_any G.w
/-- a net, a list of names -/
theorem argsNS {G : Cx} {vargs : Array Value} {n : Net} {l : List ByteArray} (hst : ∀ b o, G.St b o → b < G.w.heap.size) (hsz : vargs.size = [eN n, eL eS l].length) (hrep : ∀ (j : Nat) v y, vargs[j]? = some v → [eN n, eL eS l][j]? = some y → Rep G v y) :
    ∃ vt v, vargs = #[netV n vt, v] ∧ RdT G.w 0 G.w.heap.size vt n.trans ∧ RdS G.w 0 G.w.heap.size v l := by
  obtain ⟨q⟩ := vargs
  match q, hsz with
  | [a, b], _ =>
    obtain ⟨vt, rfl, h1⟩ := rep_net (hrep 0 a _ rfl rfl) hst
    exact ⟨vt, b, rfl, h1, rep_rdS (hrep 1 b _ rfl rfl) hst⟩
theorem great_pf (n : Net) (l : List ByteArray) : PureE P 9 [eN n, eL eS l] (fun r => ∃ z, r = eB z) :=
  someB_pure (ent_of Try.func9 rfl rfl) fun G vargs hst hsz hrep => by
    obtain ⟨vt, v, rfl, h1, h2⟩ := argsNS hst hsz hrep
    exact great_any n l _ _ _ _ vt v G.w h1 h2
theorem Play_pf (n : Net) (l : List ByteArray) : Pure P 10 [eN n, eL eS l] (ePl (PlayE n l)) :=
  pure_prog (pure_mk (ent_of Try.func10 rfl rfl) (.tup _ (lo_cons (by repeat' (first | exact Lo.s _ | exact Lo.emp | exact Lo.any | exact lo_nil | exact lo_nilE | refine lo_cons ?_ ?_ | refine lo_consE ?_ ?_ | refine lo_map ?_ | refine lo_mapE ?_ | refine Lo.cells ?_ | refine Lo.agg _ ?_ | refine Lo.ref _ ?_ | refine Lo.tup _ ?_ | refine Lo.fn _ _ ?_ | refine Lo.sl _ ?_ | intro _)) (lo_cons lo_I (lo_cons (.s _) lo_nil)))) fun G vargs hst hsz hrep => by
    obtain ⟨vt, v, rfl, h1, h2⟩ := argsNS hst hsz hrep
    refine (Play_any n l vt v _ _ _ _ G.w h1 h2 (Nat.le_refl _) (Nat.le_refl _)).mono ?_
    rintro e w' ⟨A3, k3, rfl, hr, hb⟩
    refine ⟨_, rfl, hb, .tup _ _ rfl (fun j v x hv hx => ?_)⟩
    match j, hv, hx with
    | 0, hv, hx =>
      simp at hv hx
      subst hv hx
      refine .agg _ _ rfl (by intro c hc; simp at hc; rcases hc with rfl | rfl | rfl | rfl <;> rfl) (fun j v x hv hx => ?_)
      match j, hv, hx with
      | 0, hv, hx => simp at hv hx; subst hv hx; exact .s _
      | 1, hv, hx => simp at hv hx; subst hv hx; exact .s _
      | 2, hv, hx => simp at hv hx; subst hv hx; exact .s _
      | 3, hv, hx => simp at hv hx; subst hv hx; exact .s _
      | j + 4, hv, hx => simp at hv
    | 1, hv, hx => simp at hv hx; subst hv hx; exact rdI_rep (G := newCx G w') hr (fun b o h1 h2 _ => newCx_st h1 h2)
    | 2, hv, hx => simp at hv hx; subst hv hx; exact .s _
    | j + 3, hv, hx => simp at hv)
theorem equalI_pf (a b : List Int) : Pure P 12 [eL eI a, eL eI b] (eB (decide (a = b))) :=
  retB_pure (ent_of Try.func12 rfl rfl) fun G vargs hst hsz hrep => by
    obtain ⟨q⟩ := vargs
    match q, hsz with
    | [x, y], _ => exact equalI_any a b _ _ _ _ x y G.w (rep_rdI (hrep 0 x _ rfl rfl) hst) (rep_rdI (hrep 1 y _ rfl rfl) hst)
set_option maxHeartbeats 4000000 in
theorem lawPlays_pf (n : Net) (l : List ByteArray) : Pure P 3 [eN n, eL eS l] (eB true) := by
  have h1 := awake_pf (P := P)
  have h2 := great_pf (P := P) n l
  have h3 := Play_pf (P := P) n l
  have h4 := rPlay_pf (P := P) n l
  obtain ⟨⟨⟨p, c, m, r⟩, run, e⟩, hR⟩ : ∃ r, PlayE n l = r := ⟨_, rfl⟩
  rw [hR] at h3 h4
  have h5 := equalI_pf (P := P) run run
  rw [decide_eq_true rfl] at h5
  refine aw_fn (by rw [IsP.eq (P := P)]; exact Try.func3) rfl rfl rfl rfl rfl (by repeat' (first | exact Lo.s _ | exact Lo.emp | exact Lo.any | exact lo_nil | exact lo_nilE | refine lo_cons ?_ ?_ | refine lo_consE ?_ ?_ | refine lo_map ?_ | refine lo_mapE ?_ | refine Lo.cells ?_ | refine Lo.agg _ ?_ | refine Lo.ref _ ?_ | refine Lo.tup _ ?_ | refine Lo.fn _ _ ?_ | refine Lo.sl _ ?_ | intro _)) (by repeat' (first | exact Lo.s _ | exact Lo.emp | exact Lo.any | exact lo_nil | exact lo_nilE | refine lo_cons ?_ ?_ | refine lo_consE ?_ ?_ | refine lo_map ?_ | refine lo_mapE ?_ | refine Lo.cells ?_ | refine Lo.agg _ ?_ | refine Lo.ref _ ?_ | refine Lo.tup _ ?_ | refine Lo.fn _ _ ?_ | refine Lo.sl _ ?_ | intro _)) (by simp only [argF]; rfl) ?_
  repeat (first | refine aw_seq ?_ | refine ath_n ?_ | refine aw_skip ?_ | refine abl_n ?_ | refine aw_block ?_)
  refine aw_region ?_
  refine ops_op rfl rfl (runs_none rfl) (does_box rfl rfl rfl rfl) ?_
  refine aops_weak (wk_froz (id := 0) rfl) (aops_weak (wk_ref (d := 2) rfl rfl rfl) ?_)
  refine ops_op rfl rfl (runs_none rfl) (mv_s (.inr rfl) rfl) ?_
  refine ops_nil ?_
  repeat (first | refine aw_seq ?_ | refine ath_n ?_ | refine aw_skip ?_ | refine abl_n ?_ | refine aw_block ?_)
  refine aw_region ?_
  refine ops_op rfl rfl (runs_none rfl) (does_call rfl rfl (h1) evc_nil) ?_
  first | refine ops_op rfl rfl (runs_none rfl) (does_notp rfl rfl) ?_ | refine ops_op rfl rfl (runs_none rfl) (does_not rfl rfl) ?_
  refine ops_nil ?_
  repeat (first | refine aw_seq ?_ | refine ath_n ?_ | refine aw_skip ?_ | refine abl_n ?_ | refine aw_block ?_)
  refine aw_false rfl ?_
  repeat (first | refine aw_seq ?_ | refine ath_n ?_ | refine aw_skip ?_ | refine abl_n ?_ | refine aw_block ?_)
  refine aw_region ?_
  first | refine ops_op rfl rfl (runs_none rfl) (does_load_refw rfl ta24 ti24 rfl rfl) ?_ | refine ops_op rfl rfl (runs_none rfl) (does_load_whole rfl ta24 ti24 rfl rfl rfl rfl rfl) ?_ | refine ops_op rfl rfl (runs_none rfl) (does_load_refs rfl ta24 ti24 rfl (Nat.le_of_ble_eq_true rfl)) ?_ | refine ops_op rfl rfl (runs_none rfl) (does_load_ptrs rfl ta24 ti24 rfl rfl rfl rfl (Nat.le_of_ble_eq_true rfl)) ?_
  first | refine ops_op rfl rfl (runs_none rfl) (mv_own (.inl rfl) rfl) ?_ | refine ops_op rfl rfl (runs_none rfl) (mv_sl (.inl rfl) rfl) ?_ | refine ops_op rfl rfl (runs_none rfl) (mv_s (.inl rfl) rfl) ?_ | refine ops_op rfl rfl (runs_none rfl) (mv_emp (.inl rfl) rfl) ?_
  refine ops_callE rfl rfl (runs_none rfl) rfl rfl (h2) (evc_cons rfl (evc_cons rfl evc_nil)) (fun rE hrE => ?_)
  refine ops_nil ?_
  repeat (first | refine aw_seq ?_ | refine ath_n ?_ | refine aw_skip ?_ | refine abl_n ?_ | refine aw_block ?_)
  obtain ⟨z, rfl⟩ := hrE
  refine aw_cond rfl (fun hz => ?_) (fun hz => ?_)
  · repeat (first | refine aw_seq ?_ | refine ath_n ?_ | refine aw_skip ?_ | refine abl_n ?_ | refine aw_block ?_)
    refine aw_region ?_
    refine ops_op rfl rfl (runs_none rfl) (mv_s (.inr rfl) rfl) ?_
    refine ops_nil ?_
    repeat (first | refine aw_seq ?_ | refine ath_n ?_ | refine aw_skip ?_ | refine abl_n ?_ | refine aw_block ?_)
    (refine aw_ret ?_; repeat (first | refine ath_r ?_ | refine abl_r ?_))
    exact post1 (.inr rfl) rfl rfl
  · repeat (first | refine aw_seq ?_ | refine ath_n ?_ | refine aw_skip ?_ | refine abl_n ?_ | refine aw_block ?_)
    refine aw_region ?_
    first | refine ops_op rfl rfl (runs_none rfl) (does_load_refw rfl ta24 ti24 rfl rfl) ?_ | refine ops_op rfl rfl (runs_none rfl) (does_load_whole rfl ta24 ti24 rfl rfl rfl rfl rfl) ?_ | refine ops_op rfl rfl (runs_none rfl) (does_load_refs rfl ta24 ti24 rfl (Nat.le_of_ble_eq_true rfl)) ?_ | refine ops_op rfl rfl (runs_none rfl) (does_load_ptrs rfl ta24 ti24 rfl rfl rfl rfl (Nat.le_of_ble_eq_true rfl)) ?_
    first | refine ops_op rfl rfl (runs_none rfl) (mv_own (.inl rfl) rfl) ?_ | refine ops_op rfl rfl (runs_none rfl) (mv_sl (.inl rfl) rfl) ?_ | refine ops_op rfl rfl (runs_none rfl) (mv_s (.inl rfl) rfl) ?_ | refine ops_op rfl rfl (runs_none rfl) (mv_emp (.inl rfl) rfl) ?_
    refine ops_op rfl rfl (runs_none rfl) (does_call rfl rfl (h3) (evc_cons rfl (evc_cons rfl evc_nil))) ?_
    first | refine ops_op rfl rfl (runs_none rfl) (mv_tup (.inl rfl) rfl) ?_ | refine ops_op rfl rfl (runs_none rfl) (mv_s (.inl rfl) rfl) ?_
    refine ops_op rfl rfl (runs_none rfl) (does_extract rfl rfl rfl) ?_
    refine ops_op rfl rfl (runs_none rfl) (does_extract rfl rfl rfl) ?_
    refine ops_op rfl rfl (runs_none rfl) (does_extract rfl rfl rfl) ?_
    refine ops_op rfl rfl (runs_none rfl) (does_alloc rfl ti29 rfl rfl) ?_
    refine ops_eff rfl (runs_none rfl) (does_store rfl ti29 rfl rfl rfl rfl rfl rfl (by decide) (by decide)) ?_
    first | refine ops_op rfl rfl (runs_none rfl) (mv_own (.inr rfl) rfl) ?_ | refine ops_op rfl rfl (runs_none rfl) (mv_sl (.inr rfl) rfl) ?_ | refine ops_op rfl rfl (runs_none rfl) (mv_s (.inr rfl) rfl) ?_ | refine ops_op rfl rfl (runs_none rfl) (mv_emp (.inr rfl) rfl) ?_
    refine ops_op rfl rfl (runs_none rfl) (mv_s (.inr rfl) rfl) ?_
    refine ops_nil ?_
    repeat (first | refine aw_seq ?_ | refine ath_n ?_ | refine aw_skip ?_ | refine abl_n ?_ | refine aw_block ?_)
    refine aw_region ?_
    first | refine ops_op rfl rfl (runs_none rfl) (does_load_refw rfl ta24 ti24 rfl rfl) ?_ | refine ops_op rfl rfl (runs_none rfl) (does_load_whole rfl ta24 ti24 rfl rfl rfl rfl rfl) ?_ | refine ops_op rfl rfl (runs_none rfl) (does_load_refs rfl ta24 ti24 rfl (Nat.le_of_ble_eq_true rfl)) ?_ | refine ops_op rfl rfl (runs_none rfl) (does_load_ptrs rfl ta24 ti24 rfl rfl rfl rfl (Nat.le_of_ble_eq_true rfl)) ?_
    first | refine ops_op rfl rfl (runs_none rfl) (mv_own (.inl rfl) rfl) ?_ | refine ops_op rfl rfl (runs_none rfl) (mv_sl (.inl rfl) rfl) ?_ | refine ops_op rfl rfl (runs_none rfl) (mv_s (.inl rfl) rfl) ?_ | refine ops_op rfl rfl (runs_none rfl) (mv_emp (.inl rfl) rfl) ?_
    refine ops_op rfl rfl (runs_none rfl) (does_call rfl rfl (h4) (evc_cons rfl (evc_cons rfl evc_nil))) ?_
    first | refine ops_op rfl rfl (runs_none rfl) (mv_tup (.inl rfl) rfl) ?_ | refine ops_op rfl rfl (runs_none rfl) (mv_s (.inl rfl) rfl) ?_
    refine ops_op rfl rfl (runs_none rfl) (does_extract rfl rfl rfl) ?_
    refine ops_op rfl rfl (runs_none rfl) (does_extract rfl rfl rfl) ?_
    refine ops_op rfl rfl (runs_none rfl) (does_extract rfl rfl rfl) ?_
    refine ops_op rfl rfl (runs_none rfl) (does_alloc rfl ti29 rfl rfl) ?_
    refine ops_eff rfl (runs_none rfl) (does_store rfl ti29 rfl rfl rfl rfl rfl rfl (by decide) (by decide)) ?_
    first | refine ops_op rfl rfl (runs_none rfl) (mv_own (.inr rfl) rfl) ?_ | refine ops_op rfl rfl (runs_none rfl) (mv_sl (.inr rfl) rfl) ?_ | refine ops_op rfl rfl (runs_none rfl) (mv_s (.inr rfl) rfl) ?_ | refine ops_op rfl rfl (runs_none rfl) (mv_emp (.inr rfl) rfl) ?_
    refine ops_op rfl rfl (runs_none rfl) (mv_s (.inr rfl) rfl) ?_
    refine ops_nil ?_
    repeat (first | refine aw_seq ?_ | refine ath_n ?_ | refine aw_skip ?_ | refine abl_n ?_ | refine aw_block ?_)
    refine aw_region ?_
    first | refine ops_op rfl rfl (runs_none rfl) (does_load_refw rfl ta29 ti29 rfl rfl) ?_ | refine ops_op rfl rfl (runs_none rfl) (does_load_whole rfl ta29 ti29 rfl rfl rfl rfl rfl) ?_ | refine ops_op rfl rfl (runs_none rfl) (does_load_refs rfl ta29 ti29 rfl (Nat.le_of_ble_eq_true rfl)) ?_ | refine ops_op rfl rfl (runs_none rfl) (does_load_ptrs rfl ta29 ti29 rfl rfl rfl rfl (Nat.le_of_ble_eq_true rfl)) ?_
    first | refine ops_op rfl rfl (runs_none rfl) (does_load_refw rfl ta29 ti29 rfl rfl) ?_ | refine ops_op rfl rfl (runs_none rfl) (does_load_whole rfl ta29 ti29 rfl rfl rfl rfl rfl) ?_ | refine ops_op rfl rfl (runs_none rfl) (does_load_refs rfl ta29 ti29 rfl (Nat.le_of_ble_eq_true rfl)) ?_ | refine ops_op rfl rfl (runs_none rfl) (does_load_ptrs rfl ta29 ti29 rfl rfl rfl rfl (Nat.le_of_ble_eq_true rfl)) ?_
    refine ops_op rfl rfl (runs_none rfl) (dec_ti rfl (does_eqa rfl rfl rfl te29 rfl rfl rfl)) ?_
    refine ops_op rfl rfl (runs_none rfl) (mv_s (.inl rfl) rfl) ?_
    first | refine ops_op rfl rfl (runs_y rfl rfl rfl) (mv_own (.inl rfl) rfl) ?_ | refine ops_op rfl rfl (runs_y rfl rfl rfl) (mv_sl (.inl rfl) rfl) ?_ | refine ops_op rfl rfl (runs_y rfl rfl rfl) (mv_s (.inl rfl) rfl) ?_ | refine ops_op rfl rfl (runs_y rfl rfl rfl) (mv_emp (.inl rfl) rfl) ?_ | refine ops_skip rfl rfl (runs_nt rfl rfl rfl) ?_ | refine ops_skip rfl rfl (runs_nu rfl rfl rfl) ?_
    first | refine ops_op rfl rfl (runs_y rfl rfl rfl) (mv_own (.inl rfl) rfl) ?_ | refine ops_op rfl rfl (runs_y rfl rfl rfl) (mv_sl (.inl rfl) rfl) ?_ | refine ops_op rfl rfl (runs_y rfl rfl rfl) (mv_s (.inl rfl) rfl) ?_ | refine ops_op rfl rfl (runs_y rfl rfl rfl) (mv_emp (.inl rfl) rfl) ?_ | refine ops_skip rfl rfl (runs_nt rfl rfl rfl) ?_ | refine ops_skip rfl rfl (runs_nu rfl rfl rfl) ?_
    first | refine ops_op rfl rfl (runs_y rfl rfl rfl) (does_call rfl rfl (h5) (evc_cons rfl (evc_cons rfl evc_nil))) ?_ | refine ops_skip rfl rfl (runs_nt rfl rfl rfl) ?_ | refine ops_skip rfl rfl (runs_nu rfl rfl rfl) ?_
    first | refine ops_op rfl rfl (runs_none rfl) (pickT_s rfl rfl rfl) ?_ | refine ops_op rfl rfl (runs_none rfl) (pickF_s rfl rfl rfl) ?_ | refine ops_op rfl rfl (runs_none rfl) (does_pickT rfl rfl rfl) ?_ | refine ops_op rfl rfl (runs_none rfl) (does_pickF rfl rfl rfl) ?_
    refine ops_op rfl rfl (runs_none rfl) (mv_s (.inl rfl) rfl) ?_
    first | refine ops_op rfl rfl (runs_y rfl rfl rfl) (mv_s (.inl rfl) rfl) ?_ | refine ops_skip rfl rfl (runs_nt rfl rfl rfl) ?_ | refine ops_skip rfl rfl (runs_nu rfl rfl rfl) ?_
    first | refine ops_op rfl rfl (runs_y rfl rfl rfl) (mv_s (.inl rfl) rfl) ?_ | refine ops_skip rfl rfl (runs_nt rfl rfl rfl) ?_ | refine ops_skip rfl rfl (runs_nu rfl rfl rfl) ?_
    first | refine ops_op rfl rfl (runs_y rfl rfl rfl) (dec_t rfl (does_eql rfl rfl rfl)) ?_ | refine ops_skip rfl rfl (runs_nt rfl rfl rfl) ?_ | refine ops_skip rfl rfl (runs_nu rfl rfl rfl) ?_
    first | refine ops_op rfl rfl (runs_none rfl) (pickT_s rfl rfl rfl) ?_ | refine ops_op rfl rfl (runs_none rfl) (pickF_s rfl rfl rfl) ?_ | refine ops_op rfl rfl (runs_none rfl) (does_pickT rfl rfl rfl) ?_ | refine ops_op rfl rfl (runs_none rfl) (does_pickF rfl rfl rfl) ?_
    refine ops_op rfl rfl (runs_none rfl) (mv_s (.inr rfl) rfl) ?_
    refine ops_nil ?_
    repeat (first | refine aw_seq ?_ | refine ath_n ?_ | refine aw_skip ?_ | refine abl_n ?_ | refine aw_block ?_)
    (refine aw_ret ?_; repeat (first | refine ath_r ?_ | refine abl_r ?_))
    exact post1 (.inr rfl) rfl rfl
end Go.Proofs.Ytmhbfoaecebobaa.Aw
namespace Go.Proofs.Ytmhbfoaecebobaa
open Go.ChangeShapes Go.WideShapes Go.ChangeAt Go.RowKit
set_option maxRecDepth 100000 in
theorem replayPlays_lifted (os : Os) (started : os.Started) (H : Type) (enc : TypeId × Value → H) :
    ReturnsInHanded {} Try.checked os 3 .any (Rows.replayPlaysSpec.pre6 enc Try.prog Try.f3 Rows.replayPlaysRow.domain false) (Rows.replayPlaysSpec.post enc Try.prog Try.f3 false true false false) := by
  refine returnsInHanded_of_change (C := Try.checked) own_knob started (by kernel_rfl) Try.func3
    (ChangeSpec.witness6 (enc := enc) (C := Try.checked) false ⟨#[], #[.agg #[.int .i64 0, .slice none 0 0, .int .i64 0, .int .i64 0], .slice none 0 0], []⟩ 8 (by kernel_rfl) (by kernel_rfl) (by kernel_rfl) (by kernel_rfl)) ?_
  intro W base args ds gs before hval0 hW hcnd _
  have hval : ∀ (j : Nat) t v, Try.f3.params[j]? = some t → args[j]? = some v → Value.okWide Try.prog W .any base t v := hval0
  have hW' := hW
  obtain ⟨p, q, hA0, hV, rfl, hfz, hnd⟩ := hW
  have hA : DataW.TrodAll enc Try.prog W 0 (fun _ => true) true Try.f3.params.toList args.toList ds p := hA0
  rw [Try.params3] at hA hval
  obtain ⟨v0, v1, d0, d1, p0, p1, rfl, rfl, rfl, h0, h1⟩ := trodAll_two hA
  obtain ⟨rfl, rfl⟩ := trodVars_none hV
  obtain ⟨n, vt, rfl, hn⟩ := open_net (hval 0 24 v0 rfl rfl) h0
  obtain ⟨l, hs⟩ := open_strs' (hval 1 25 v1 rfl rfl) h1
  simp only [List.append_nil] at hW'
  refine (Aw.pure_law (Aw.lawPlays_pf (P := Try.prog) n l) W #[netV n vt, v1] rfl (fun j v x hv hx => ?_)).mono fun e W' ⟨he, hb⟩ => ?_
  · match j, hv, hx with
    | 0, hv, hx => simp at hv hx; subst hv hx; exact Aw.rep_net0 hn
    | 1, hv, hx => simp at hv hx; subst hv hx; exact Aw.rdS_rep (G := Aw.G0 W) hs (fun b o _ _ h => h)
    | j + 2, hv, hx => simp at hv
  subst he
  have hp : ∀ x ∈ p0 ++ p1, x.block < W.heap.size := fun x hx => hW'.lt x (by simpa using hx)
  have hg := trodAll_mk2 (Below.trod laid_out (by kernel_rfl) (of_decide_eq_true (by kernel_rfl)) h0 hb (fun x hx => hp x (by simp [hx]))) (Below.trod laid_out (by kernel_rfl) (of_decide_eq_true (by kernel_rfl)) h1 hb (fun x hx => hp x (by simp [hx])))
  exact ⟨_, rfl, law_post (t := 4) hW' (by kernel_rfl) Try.underlying4 ⟨rfl, rfl, rfl⟩ rfl hg hb⟩

theorem replayPlays_holds : Rows.ReplayPlaysSaid :=
  OpenClaim.holds_of_wide 3 Try.f3 rfl rfl rfl rfl rfl rfl rfl ⟨rfl, rfl, rfl, rfl, rfl⟩ rfl rfl rfl rfl rfl (by kernel_rfl) Try.func3 (by kernel_rfl)
    (of_decide_eq_true (by kernel_rfl)) (by unfold Func.isWrapper; first | (rw [if_pos (by decide +kernel)]; kernel_rfl) | (rw [if_neg (by decide +kernel)]; exact ⟨rfl, rfl⟩))
    (fun os started H enc _ => replayPlays_lifted os started H enc)

#print axioms replayPlays_holds

end Go.Proofs.Ytmhbfoaecebobaa
end
