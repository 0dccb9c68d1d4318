/-
  Texts joined: ShOpB, ShH, ShRa, ShRb. Conditions: none.
-/
import Derived.Test.YtmoipmnhgdmkpaaGreatRows
import Derived.Test.YtmoipmnhgdmkpaaGreatJC10
import Derived.Test.YtmoipmnhgdmkpaaGreatJC7
import Derived.ProofKit
import Derived.Below
import Derived.ChangeShapes
import Derived.ChangeSame
import Derived.ChangeSlices
import Derived.DataReads
section
namespace Go.Proofs.YtmoipmnhgdmkpaaGreat
set_option linter.unusedSimpArgs false
set_option linter.unusedVariables false
open Go.ChangeShapes Go.WideShapes Go.ChangeAt Go.RowKit

theorem own_knob : ownKnob Tryz.prog.godebug = none := by kernel_rfl
theorem laid_out : laidOutB Tryz.prog = true := by kernel_rfl

section
variable {H : Type} {enc : TypeId × Value → H}
set_option maxRecDepth 100000 in
theorem law_post {f : Func} {s : ChangeSpec} {W W' : World} {args : Array Value} {ds gs : List (DataW H)} {before : List MemPlace} {t : TypeId}
    (hW : DataW.Whole enc Tryz.prog f.params.toList s.vars false W args.toList ds gs before) (hr : f.resultTypes = #[t]) (ht : Tryz.prog.underlying t = some .bool)
    (hfn : (s.fn H (ds ++ gs)).results = [.lit (.bool true)] ∧ (s.fn H (ds ++ gs)).args = ds ∧ (s.fn H (ds ++ gs)).vars = []) (hv : s.vars = [])
    (hargs : DataW.TrodAll enc Tryz.prog W' 0 (fun b => decide (b < W.heap.size)) true f.params.toList args.toList ds before) (hb : Below W.heap.size W W') :
    s.post enc Tryz.prog f false true false false W args (.bool true) W' := by
  refine ⟨ds, gs, before, [], before, [], hW, ?_, ?_, ?_, World.keptBut_mono (fun p hp => ⟨hp, Or.inr (by simpa using hp)⟩) (hb.frame (· ∈ before)), fun h => by cases h⟩
  · rw [hfn.1, hr]
    exact trodAll_mk1 (shut_bool ht true)
  · rw [hfn.2.1]
    exact hargs
  · rw [hfn.2.2, hv]
    rfl
end
namespace Aw
/-- before the law is called -/
def G0 (W : World) : Cx := { base := 0, w0 := W, w := W, mu := fun _ => none, St := fun b _ => b < W.heap.size }
theorem pure_law {P : Program} {f : FuncId} {args : List AV} (hp : Pure P f args (eB true)) (W : World) (vargs : Array Value) (hsz : vargs.size = args.length) (hrep : ∀ (j : Nat) v x, vargs[j]? = some v → args[j]? = some x → Rep (G0 W) v x) :
    Calls P f vargs W fun e w' => e = .returned (.bool true) ∧ Below W.heap.size W w' :=
  (hp.call (G0 W) vargs (fun b o h => h) hsz hrep).mono (by
    rintro e w' ⟨v, G', rfl, rfl, hb, _, _, _, hr⟩
    exact ⟨by rw [rep_s hr], hb⟩)
section
variable {H : Type} {enc : TypeId × Value → H} {w : World} {base : Nat} {sp : Nat → Bool} {held : Bool}
/-- cells of the store, seen -/
def Rc (w : World) (cs : List Value) (l : List AV) : Prop := cs.length = l.length ∧ (∀ c ∈ l, c.one = true) ∧ ∀ (j : Nat) v c, cs[j]? = some v → l[j]? = some c → Rep (G0 w) v c
theorem rc_nil : Rc w [] [] := ⟨rfl, by simp, fun j v c h => by simp at h⟩
theorem rc_cons {v : Value} {a : AV} {cs : List Value} {l : List AV} (h1 : Rep (G0 w) v a) (h2 : a.one = true) (h : Rc w cs l) : Rc w (v :: cs) (a :: l) :=
  ⟨by simp [h.1], fun c hc => by
    rcases List.mem_cons.1 hc with rfl | hc
    · exact h2
    · exact h.2.1 c hc, fun j u c hu hc => by
    cases j with
    | zero => simp at hu hc; subst hu hc; exact h1
    | succ j => simp at hu hc; exact h.2.2 j u c hu hc⟩
theorem rc_agg {vs : Array Value} {l : List AV} (h : Rc w vs.toList l) : Rep (G0 w) (.agg vs) (.agg l) :=
  .agg vs l (by simpa using h.1) h.2.1 (fun j v c hv hc => h.2.2 j v c (by simpa using hv) hc)
theorem addr_off (b off j : Nat) : (⟨b, off, none⟩ : Addr).add j = ⟨b, off + j, none⟩ := by unfold Addr.add; split <;> simp_all
theorem opens_sliceN {t e : TypeId} {β : Type} {f : β → AV} {size : Nat} (ht : Tryz.prog.underlying t = some (.slice e)) (hc : Tryz.prog.cellsOf e = size) (hpos : 0 < size) (hen : ∀ b, (f b).cells.length = size)
    {fuel : Nat} (hel : ∀ n, n < fuel → ∀ cs (x : DataW H × List MemPlace), DataW.trod enc Tryz.prog w base sp held n e cs = some x → ∃ b, Rc w cs (f b).cells)
    {cs : List Value} {x : DataW H × List MemPlace} (h : DataW.trod enc Tryz.prog w base sp held fuel t cs = some x) : ∃ (v : Value) (l : List β), cs = [v] ∧ Rep (G0 w) v (eL f l) := by
  rcases DataW.trod_slice ht h with ⟨rfl, _⟩ | ⟨a, len, cap, elems, rest, n, hfu, rfl, _, hb, hl, hm, hlen, helem, _⟩
  · exact ⟨_, [], rfl, .slnil none 0⟩
  · rw [hc] at helem
    have hx : ∀ i : Fin len, ∃ p : List Value × β, w.cells? base (a.add (i * size)) size = some p.1 ∧ Rc w p.1 (f p.2).cells := by
      intro i
      have h1 := helem i i.2
      have hi : (i : Nat) < elems.length := by rw [hlen]; exact i.2
      rw [List.getElem?_eq_getElem hi, Option.bind_eq_some_iff] at h1
      obtain ⟨cs', h2, h3⟩ := h1
      obtain ⟨y, hy⟩ := hel n (by omega) _ _ h3
      exact ⟨(cs', y), h2, hy⟩
    obtain ⟨g, hg⟩ : ∃ g : Fin len → List Value × β, ∀ i : Fin len, w.cells? base (a.add ((i : Nat) * size)) size = some (g i).1 ∧ Rc w (g i).1 (f (g i).2).cells := ⟨fun i => Classical.choose (hx i), fun i => Classical.choose_spec (hx i)⟩
    rcases Nat.eq_zero_or_pos len with h0 | hn
    · subst h0
      exact ⟨_, [], rfl, .slnil _ _⟩
    · have hspot : a.spot = none := by
        have h1 := World.cells?_some (hg ⟨0, hn⟩).1
        have h2 := h1.2.2 0 hpos
        have h3 : ((a.add (0 * size)).add 0) = a := by simp [Addr.add]
        rw [List.getElem?_eq_getElem (by rw [h1.2.1]; exact hpos)] at h2
        have h4 := World.cell?_spot h2
        simpa [Addr.add] using h4
      obtain ⟨b, off, s⟩ := a
      simp only at hspot
      subst hspot
      refine ⟨_, List.ofFn (fun i => (g i).2), rfl, ?_⟩
      have hlf : ((List.ofFn fun i => (g i).2).map f).length = len := by simp
      have hel2 : ∀ (k : Nat) e, ((List.ofFn fun i => (g i).2).map f)[k]? = some e → ∃ hk : k < len, e = f (g ⟨k, hk⟩).2 := by
        intro k e hk
        have hkl : k < len := by have := (List.getElem?_eq_some_iff.1 hk).1; rwa [hlf] at this
        refine ⟨hkl, ?_⟩
        rw [List.getElem?_map, List.getElem?_ofFn] at hk
        simp [hkl] at hk
        exact hk.symm
      have key : ∀ (k : Nat) e (j : Nat) c, ((List.ofFn fun i => (g i).2).map f)[k]? = some e → e.cells[j]? = some c → ∃ u, w.cell? ⟨b, off + k * size + j, none⟩ = some u ∧ Rep (G0 w) u c := by
        intro k e j c hk hc'
        obtain ⟨hkl, rfl⟩ := hel2 k e hk
        obtain ⟨q1, q2, q3⟩ := (hg ⟨k, hkl⟩).2
        have hcs := World.cells?_some (hg ⟨k, hkl⟩).1
        have hj : j < size := by rw [← hen (g ⟨k, hkl⟩).2]; exact (List.getElem?_eq_some_iff.1 hc').1
        have hj2 : j < (g ⟨k, hkl⟩).1.length := by rw [hcs.2.1]; exact hj
        have h5 := hcs.2.2 j hj
        rw [List.getElem?_eq_getElem hj2] at h5
        rw [addr_off, addr_off] at h5
        exact ⟨(g ⟨k, hkl⟩).1[j], h5, q3 j _ c (List.getElem?_eq_getElem hj2) hc'⟩
      have hR := Rep.sl (G := G0 w) b off cap size ((List.ofFn fun i => (g i).2).map f) (fun k j => (w.cell? ⟨b, off + k * size + j, none⟩).getD undef) (by rw [hlf]; exact hl) (by rw [hlf]; exact Nat.le_trans hl hm) (fun k e hk => by
          obtain ⟨hkl, rfl⟩ := hel2 k e hk
          exact ⟨hen _, (hg ⟨k, hkl⟩).2.2.1⟩) (fun k e j c hk hc' => by
          obtain ⟨u, h6, _⟩ := key k e j c hk hc'
          exact ⟨World.block_lt_of_cell? _ _ h6, by show w.cell? _ = _; rw [h6]; rfl⟩) (fun k e j c hk hc' => by
          obtain ⟨u, h6, h7⟩ := key k e j c hk hc'
          rw [h6]; exact h7)
      rw [hlf] at hR
      exact hR
theorem opens_slice {t e : TypeId} {β : Type} {f : β → AV} {size : Nat} (ht : Tryz.prog.underlying t = some (.slice e)) (hc : Tryz.prog.cellsOf e = size) (hpos : 0 < size) (hen : ∀ b, (f b).cells.length = size)
    (hel : ∀ fuel cs (x : DataW H × List MemPlace), DataW.trod enc Tryz.prog w base sp held fuel e cs = some x → ∃ b, Rc w cs (f b).cells)
    {fuel : Nat} {cs : List Value} {x : DataW H × List MemPlace} (h : DataW.trod enc Tryz.prog w base sp held fuel t cs = some x) : ∃ (v : Value) (l : List β), cs = [v] ∧ Rep (G0 w) v (eL f l) :=
  opens_sliceN ht hc hpos hen (fun n _ cs x h => hel n cs x h) h
theorem opens_int {fuel : Nat} {cs : List Value} {x : DataW H × List MemPlace} (h : DataW.trod enc Tryz.prog w base sp held fuel 3 cs = some x) : ∃ n : Int, Rc w cs (eI n).cells := by
  obtain ⟨n, rfl, _⟩ := DataW.trod_int Tryz.underlying3 h
  exact ⟨n, rc_cons (.s _) rfl rc_nil⟩
set_option maxRecDepth 100000 in
theorem opens_frac {fuel : Nat} {cs : List Value} {x : DataW H × List MemPlace} (h : DataW.trod enc Tryz.prog w base sp held fuel 41 cs = some x) : ∃ a : Fr, Rc w cs (eF a).cells := by
  obtain ⟨xs, n, _, _, hlen, hl, hg⟩ := DataW.trod_struct Tryz.underlying41 h
  have hc : Tryz.prog.cellsOf 41 = 2 := by kernel_rfl
  have hi : Tryz.prog.cellsOf 3 = 1 := by kernel_rfl
  match cs, hlen.trans hc, xs, hl with
  | [c0, c1], _, [x0, x1], _ =>
    have g0 := hg 0 _ rfl
    have g1 := hg 1 _ rfl
    simp [hi] at g0 g1
    obtain ⟨n0, e0, _⟩ := DataW.trod_int Tryz.underlying3 g0
    obtain ⟨n1, e1, _⟩ := DataW.trod_int Tryz.underlying3 g1
    injection e0 with e0
    injection e1 with e1
    subst e0 e1
    exact ⟨⟨n0, n1⟩, rc_cons (.s _) rfl (rc_cons (.s _) rfl rc_nil)⟩
theorem opens_ints {fuel : Nat} {cs : List Value} {x : DataW H × List MemPlace} (h : DataW.trod enc Tryz.prog w base sp held fuel 22 cs = some x) : ∃ (v : Value) (l : List Int), cs = [v] ∧ Rep (G0 w) v (eL eI l) :=
  opens_slice (size := 1) Tryz.underlying22 (by kernel_rfl) (by decide) (fun _ => rfl) (fun fuel cs x h => opens_int h) h
theorem opens_fracs {fuel : Nat} {cs : List Value} {x : DataW H × List MemPlace} (h : DataW.trod enc Tryz.prog w base sp held fuel 27 cs = some x) : ∃ (v : Value) (l : List Fr), cs = [v] ∧ Rep (G0 w) v (eL eF l) :=
  opens_slice (size := 2) Tryz.underlying27 (by kernel_rfl) (by decide) (fun _ => rfl) (fun fuel cs x h => opens_frac h) h
set_option maxRecDepth 100000 in
theorem opens_shift {fuel : Nat} {cs : List Value} {x : DataW H × List MemPlace} (h : DataW.trod enc Tryz.prog w base sp held fuel 36 cs = some x) : ∃ s : Sft, Rc w cs (eSh s).cells := by
  obtain ⟨xs, n, _, _, hlen, hl, hg⟩ := DataW.trod_struct Tryz.underlying36 h
  have hc : Tryz.prog.cellsOf 36 = 3 := by kernel_rfl
  have h1 : Tryz.prog.cellsOf 22 = 1 := by kernel_rfl
  have h2 : Tryz.prog.cellsOf 3 = 1 := by kernel_rfl
  match cs, hlen.trans hc, xs, hl with
  | [c0, c1, c2], _, [x0, x1, x2], _ =>
    have g0 := hg 0 _ rfl
    have g1 := hg 1 _ rfl
    have g2 := hg 2 _ rfl
    simp [h1, h2] at g0 g1 g2
    obtain ⟨v0, l0, e0, r0⟩ := opens_ints g0
    obtain ⟨k1, e1, _⟩ := DataW.trod_int Tryz.underlying3 g1
    obtain ⟨k2, e2, _⟩ := DataW.trod_int Tryz.underlying3 g2
    injection e0 with e0
    injection e1 with e1
    injection e2 with e2
    subst e0 e1 e2
    exact ⟨⟨l0, k1, k2⟩, rc_cons r0 rfl (rc_cons (.s _) rfl (rc_cons (.s _) rfl rc_nil))⟩
theorem opens_shifts {fuel : Nat} {cs : List Value} {x : DataW H × List MemPlace} (h : DataW.trod enc Tryz.prog w base sp held fuel 23 cs = some x) : ∃ (v : Value) (l : List Sft), cs = [v] ∧ Rep (G0 w) v (eL eSh l) :=
  opens_slice (size := 3) Tryz.underlying23 (by kernel_rfl) (by decide) (fun _ => rfl) (fun fuel cs x h => opens_shift h) h
set_option maxRecDepth 100000 in
theorem opens_plan {fuel : Nat} {cs : List Value} {x : DataW H × List MemPlace} (h : DataW.trod enc Tryz.prog w base sp held fuel 25 cs = some x) : ∃ s : Pln, Rc w cs (ePl s).cells := by
  obtain ⟨xs, n, _, _, hlen, hl, hg⟩ := DataW.trod_struct Tryz.underlying25 h
  have hc : Tryz.prog.cellsOf 25 = 2 := by kernel_rfl
  have h1 : Tryz.prog.cellsOf 22 = 1 := by kernel_rfl
  have h2 : Tryz.prog.cellsOf 3 = 1 := by kernel_rfl
  match cs, hlen.trans hc, xs, hl with
  | [c0, c1], _, [x0, x1], _ =>
    have g0 := hg 0 _ rfl
    have g1 := hg 1 _ rfl
    simp [h1, h2] at g0 g1
    obtain ⟨v0, l0, e0, r0⟩ := opens_ints g0
    obtain ⟨k1, e1, _⟩ := DataW.trod_int Tryz.underlying3 g1
    injection e0 with e0
    injection e1 with e1
    subst e0 e1
    exact ⟨⟨l0, k1⟩, rc_cons r0 rfl (rc_cons (.s _) rfl rc_nil)⟩
theorem eBr_four (b : Br) : (eBr b).cells.length = 4 := by
  obtain ⟨s, t, L, y⟩ := b
  rw [eBr_mk]; rfl
set_option maxRecDepth 100000 in
theorem opens_branch : ∀ (fuel : Nat) (cs : List Value) (x : DataW H × List MemPlace), DataW.trod enc Tryz.prog w base sp held fuel 29 cs = some x → ∃ b : Br, Rc w cs (eBr b).cells := by
  intro fuel
  induction fuel using Nat.strongRecOn with
  | _ fuel ih =>
    intro cs x h
    obtain ⟨xs, n, hfu, _, hlen, hl, hg⟩ := DataW.trod_struct Tryz.underlying29 h
    have hc : Tryz.prog.cellsOf 29 = 4 := by kernel_rfl
    have h1 : Tryz.prog.cellsOf 27 = 1 := by kernel_rfl
    have h2 : Tryz.prog.cellsOf 26 = 1 := by kernel_rfl
    have h3 : Tryz.prog.cellsOf 3 = 1 := by kernel_rfl
    match cs, hlen.trans hc, xs, hl with
    | [c0, c1, c2, c3], _, [x0, x1, x2, x3], _ =>
      have g0 := hg 0 _ rfl
      have g1 := hg 1 _ rfl
      have g2 := hg 2 _ rfl
      have g3 := hg 3 _ rfl
      simp [h1, h2, h3] at g0 g1 g2 g3
      obtain ⟨k0, e0, _⟩ := DataW.trod_int Tryz.underlying3 g0
      obtain ⟨k1, e1, _⟩ := DataW.trod_int Tryz.underlying3 g1
      obtain ⟨v2, l2, e2, r2⟩ := opens_sliceN (f := eBr) (size := 4) Tryz.underlying26 (by kernel_rfl) (by decide) eBr_four (fun n' hn' cs x h => ih n' (by omega) cs x h) g2
      obtain ⟨v3, l3, e3, r3⟩ := opens_fracs g3
      injection e0 with e0
      injection e1 with e1
      injection e2 with e2
      injection e3 with e3
      subst e0 e1 e2 e3
      refine ⟨.mk k0 k1 l2 l3, ?_⟩
      rw [eBr_mk]
      exact rc_cons (.s _) rfl (rc_cons (.s _) rfl (rc_cons r2 rfl (rc_cons r3 rfl rc_nil)))
variable {b0 : Nat} {r : Reach} {v : Value} {d : DataW H} {p : List MemPlace}
set_option maxRecDepth 100000 in
theorem open_ints (hv : Value.okWide Tryz.prog w r b0 22 v) (h : DataW.Trod enc Tryz.prog w base sp held 22 v d p) : ∃ l : List Int, Rep (G0 w) v (eL eI l) := by
  obtain ⟨a, n, c, rfl⟩ := okWide_slice Tryz.underlying22 hv
  obtain ⟨fuel, hf⟩ := h
  obtain ⟨v', l, ha, hr⟩ := opens_ints hf
  simp [Value.cells] at ha
  subst ha
  exact ⟨l, hr⟩
set_option maxRecDepth 100000 in
theorem open_shifts (hv : Value.okWide Tryz.prog w r b0 23 v) (h : DataW.Trod enc Tryz.prog w base sp held 23 v d p) : ∃ l : List Sft, Rep (G0 w) v (eL eSh l) := by
  obtain ⟨a, n, c, rfl⟩ := okWide_slice Tryz.underlying23 hv
  obtain ⟨fuel, hf⟩ := h
  obtain ⟨v', l, ha, hr⟩ := opens_shifts hf
  simp [Value.cells] at ha
  subst ha
  exact ⟨l, hr⟩
set_option maxRecDepth 100000 in
theorem open_plan (hv : Value.okWide Tryz.prog w r b0 25 v) (h : DataW.Trod enc Tryz.prog w base sp held 25 v d p) : ∃ q : Pln, Rep (G0 w) v (ePl q) := by
  obtain ⟨cs, rfl, hsz⟩ := okWide_struct Tryz.underlying25 hv
  obtain ⟨fuel, hf⟩ := h
  obtain ⟨q, ha⟩ := opens_plan hf
  exact ⟨q, rc_agg (vs := cs) ha⟩
set_option maxRecDepth 100000 in
theorem open_branch (hv : Value.okWide Tryz.prog w r b0 29 v) (h : DataW.Trod enc Tryz.prog w base sp held 29 v d p) : ∃ q : Br, Rep (G0 w) v (eBr q) := by
  obtain ⟨cs, rfl, hsz⟩ := okWide_struct Tryz.underlying29 hv
  obtain ⟨fuel, hf⟩ := h
  obtain ⟨q, ha⟩ := opens_branch fuel _ _ hf
  obtain ⟨s, t, L, y⟩ := q
  refine ⟨.mk s t L y, ?_⟩
  rw [eBr_mk] at ha ⊢
  exact rc_agg (vs := cs) ha
end
end Aw
end Go.Proofs.YtmoipmnhgdmkpaaGreat
end
section
namespace Go.Proofs.YtmoipmnhgdmkpaaGreat.Aw
set_option linter.unusedSimpArgs false
set_option linter.unusedVariables false
set_option linter.unusedSectionVars false
open Go.RowKit Go.Proofs
variable {P : Program} [IsP P]

def headK (d : List Int) (l : List Sft) (p : Pln) : Prop := zde d l = true ∧ cntB l p.c = true ∧ shE d l p.c < 0 ∧ p.cost = prcP l p.c l.length
instance (d : List Int) (l : List Sft) (p : Pln) : Decidable (headK d l p) := by unfold headK; infer_instance
def chkE (d : List Int) (l : List Sft) (p : Pln) (b : Br) : Bool := if headK d l p then (rgtE d l p.cost b (zeroI l.length) (mostL l) 20000).1 else false
set_option maxHeartbeats 4000000 in
theorem check_pf (d : List Int) (l : List Sft) (p : Pln) (b : Br) : Pure P 7 [eL eI d, eL eSh l, ePl p, eBr b] (eB (chkE d l p b)) := by
  have HI : chkE d l p b = if headK d l p then (rgtE d l p.cost b (zeroI l.length) (mostL l) 20000).1 else false := rfl
  generalize chkE d l p b = R at HI ⊢
  obtain ⟨s, t, L, y⟩ := b
  have hlo : ∀ x ∈ [eL eI d, eL eSh l, ePl p, eBr (.mk s t L y)], Lo 0 x := zae (by repeat' (first | exact Lo.s _ | exact zaj | refine zae ?_ ?_ | refine zak ?_ | refine Lo.cells ?_ | refine Lo.agg _ ?_ | refine Lo.ref _ ?_ | refine Lo.tup _ ?_ | refine Lo.fn _ _ ?_ | refine Lo.sl _ ?_ | intro _)) (zae (zak lo_Sh) (zae (by repeat' (first | exact Lo.s _ | exact zaj | refine zae ?_ ?_ | refine zak ?_ | refine Lo.cells ?_ | refine Lo.agg _ ?_ | refine Lo.ref _ ?_ | refine Lo.tup _ ?_ | refine Lo.fn _ _ ?_ | refine Lo.sl _ ?_ | intro _)) (zae (lo_Br _) zaj)))
  rw [eBr_mk] at hlo ⊢
  refine zc4 (by rw [IsP.eq (P := P)]; exact Tryz.func7) rfl rfl rfl rfl rfl hlo (.s _) (by simp only [argF]; rfl) ?_
  repeat (first | refine zag ?_ | refine zar ?_ | refine zad ?_ | refine zas ?_ | refine zac ?_)
  refine zaf ?_
  refine zab rfl rfl (zaa rfl) (zcv rfl rfl rfl rfl) ?_
  refine zbq (zcd (id := 0) rfl) (zbq (zcy (d := 6) rfl rfl rfl) ?_)
  refine zab rfl rfl (zaa rfl) (zcv rfl rfl rfl rfl) ?_
  refine zbq (zcd (id := 1) rfl) (zbq (zcy (d := 7) rfl rfl rfl) ?_)
  refine zab rfl rfl (zaa rfl) (mv_s (.inr rfl) rfl) ?_
  refine zan ?_
  repeat (first | refine zag ?_ | refine zar ?_ | refine zad ?_ | refine zas ?_ | refine zac ?_)
  all_goals refine zch hmix ?_
  all_goals refine zco (by kernel_rfl) ?_
  all_goals (first | refine zat rfl rfl (zaa rfl) (za6 (.inl rfl) rfl) ?_ | refine zat rfl rfl (zaa rfl) (zbg (.inl rfl) rfl) ?_ | refine zat rfl rfl (zaa rfl) (mv_s (.inl rfl) rfl) ?_ | refine zat rfl rfl (zaa rfl) (za7 (.inl rfl) rfl) ?_)
  all_goals (first | refine zat rfl rfl (zaa rfl) (za6 (.inl rfl) rfl) ?_ | refine zat rfl rfl (zaa rfl) (zbg (.inl rfl) rfl) ?_ | refine zat rfl rfl (zaa rfl) (mv_s (.inl rfl) rfl) ?_ | refine zat rfl rfl (zaa rfl) (za7 (.inl rfl) rfl) ?_)
  all_goals (first | refine zdg rfl rfl (zaa rfl) (za5 rfl rfl ((sValid_pf54 d l)) (zau rfl (zau rfl zbj))) (fun h13 => ?_) (fun h13 => ?_) | refine zdh rfl rfl (zaa rfl) (za5 rfl rfl ((sValid_pf54 d l)) (zau rfl (zau rfl zbj))) (fun h13 => ?_) (fun h13 => ?_))
  all_goals (first | refine zat rfl rfl (zaa rfl) (zcf rfl rfl) ?_ | refine zat rfl rfl (zaa rfl) (zcj rfl rfl) ?_)
  all_goals refine zat rfl rfl (zaa rfl) (mv_s (.inl rfl) rfl) ?_
  all_goals (first | refine zat rfl rfl (zah rfl rfl rfl) (za6 (.inl rfl) rfl) ?_ | refine zat rfl rfl (zah rfl rfl rfl) (zbg (.inl rfl) rfl) ?_ | refine zat rfl rfl (zah rfl rfl rfl) (mv_s (.inl rfl) rfl) ?_ | refine zat rfl rfl (zah rfl rfl rfl) (za7 (.inl rfl) rfl) ?_ | refine zaw rfl rfl (zax rfl rfl rfl) ?_ | refine zaw rfl rfl (zav rfl rfl rfl) ?_)
  all_goals (first | refine zat rfl rfl (zah rfl rfl rfl) (zal rfl tf25_0 (by decide) rfl) ?_ | refine zat rfl rfl (zah rfl rfl rfl) (zai rfl tf25_0 (by decide) rfl) ?_ | refine zaw rfl rfl (zax rfl rfl rfl) ?_ | refine zaw rfl rfl (zav rfl rfl rfl) ?_)
  all_goals (first | refine zat rfl rfl (zah rfl rfl rfl) (zam rfl ta22 rfl) ?_ | refine zat rfl rfl (zah rfl rfl rfl) (zap rfl ta22 rfl rfl rfl rfl rfl) ?_ | refine zaw rfl rfl (zax rfl rfl rfl) ?_ | refine zaw rfl rfl (zav rfl rfl rfl) ?_)
  all_goals (first | refine zdg rfl rfl (zah rfl rfl rfl) (za5 rfl rfl ((counts_pf l p.c)) (zau rfl (zau rfl zbj))) (fun h19 => ?_) (fun h19 => ?_) | refine zdh rfl rfl (zah rfl rfl rfl) (za5 rfl rfl ((counts_pf l p.c)) (zau rfl (zau rfl zbj))) (fun h19 => ?_) (fun h19 => ?_) | refine zaw rfl rfl (zax rfl rfl rfl) ?_ | refine zaw rfl rfl (zav rfl rfl rfl) ?_)
  all_goals (first | refine zat rfl rfl (zah rfl rfl rfl) (zcf rfl rfl) ?_ | refine zat rfl rfl (zah rfl rfl rfl) (zcj rfl rfl) ?_ | refine zaw rfl rfl (zax rfl rfl rfl) ?_ | refine zaw rfl rfl (zav rfl rfl rfl) ?_)
  all_goals (first | refine zat rfl rfl (zaa rfl) (zbx rfl rfl rfl) ?_ | refine zat rfl rfl (zaa rfl) (zby rfl rfl rfl) ?_ | refine zat rfl rfl (zaa rfl) (zbk rfl rfl rfl) ?_ | refine zat rfl rfl (zaa rfl) (zbl rfl rfl rfl) ?_)
  all_goals refine zat rfl rfl (zaa rfl) (mv_s (.inl rfl) rfl) ?_
  all_goals (first | refine zat rfl rfl (zah rfl rfl rfl) (za6 (.inl rfl) rfl) ?_ | refine zat rfl rfl (zah rfl rfl rfl) (zbg (.inl rfl) rfl) ?_ | refine zat rfl rfl (zah rfl rfl rfl) (mv_s (.inl rfl) rfl) ?_ | refine zat rfl rfl (zah rfl rfl rfl) (za7 (.inl rfl) rfl) ?_ | refine zaw rfl rfl (zax rfl rfl rfl) ?_ | refine zaw rfl rfl (zav rfl rfl rfl) ?_)
  all_goals (first | refine zat rfl rfl (zah rfl rfl rfl) (za6 (.inl rfl) rfl) ?_ | refine zat rfl rfl (zah rfl rfl rfl) (zbg (.inl rfl) rfl) ?_ | refine zat rfl rfl (zah rfl rfl rfl) (mv_s (.inl rfl) rfl) ?_ | refine zat rfl rfl (zah rfl rfl rfl) (za7 (.inl rfl) rfl) ?_ | refine zaw rfl rfl (zax rfl rfl rfl) ?_ | refine zaw rfl rfl (zav rfl rfl rfl) ?_)
  all_goals (first | refine zat rfl rfl (zah rfl rfl rfl) (zal rfl tf25_0 (by decide) rfl) ?_ | refine zat rfl rfl (zah rfl rfl rfl) (zai rfl tf25_0 (by decide) rfl) ?_ | refine zaw rfl rfl (zax rfl rfl rfl) ?_ | refine zaw rfl rfl (zav rfl rfl rfl) ?_)
  all_goals (first | refine zat rfl rfl (zah rfl rfl rfl) (zam rfl ta22 rfl) ?_ | refine zat rfl rfl (zah rfl rfl rfl) (zap rfl ta22 rfl rfl rfl rfl rfl) ?_ | refine zaw rfl rfl (zax rfl rfl rfl) ?_ | refine zaw rfl rfl (zav rfl rfl rfl) ?_)
  all_goals (first | refine zat rfl rfl (zah rfl rfl rfl) (za5 rfl rfl ((short_pf d l p.c h13 (okC_of h13 h19))) (zau rfl (zau rfl (zau rfl zbj)))) ?_ | refine zaw rfl rfl (zax rfl rfl rfl) ?_ | refine zaw rfl rfl (zav rfl rfl rfl) ?_)
  all_goals (first | refine zdg rfl rfl (zah rfl rfl rfl) (zcp rfl rfl rfl) (fun h28 => ?_) (fun h28 => ?_) | refine zdh rfl rfl (zah rfl rfl rfl) (zcp rfl rfl rfl) (fun h28 => ?_) (fun h28 => ?_) | refine zaw rfl rfl (zax rfl rfl rfl) ?_ | refine zaw rfl rfl (zav rfl rfl rfl) ?_)
  all_goals (first | refine zat rfl rfl (zaa rfl) (zbx rfl rfl rfl) ?_ | refine zat rfl rfl (zaa rfl) (zby rfl rfl rfl) ?_ | refine zat rfl rfl (zaa rfl) (zbk rfl rfl rfl) ?_ | refine zat rfl rfl (zaa rfl) (zbl rfl rfl rfl) ?_)
  all_goals refine zat rfl rfl (zaa rfl) (mv_s (.inl rfl) rfl) ?_
  all_goals (first | refine zat rfl rfl (zah rfl rfl rfl) (zal rfl tf25_1 (by decide) rfl) ?_ | refine zat rfl rfl (zah rfl rfl rfl) (zai rfl tf25_1 (by decide) rfl) ?_ | refine zaw rfl rfl (zax rfl rfl rfl) ?_ | refine zaw rfl rfl (zav rfl rfl rfl) ?_)
  all_goals (first | refine zat rfl rfl (zah rfl rfl rfl) (zam rfl ta3 rfl) ?_ | refine zat rfl rfl (zah rfl rfl rfl) (zap rfl ta3 rfl rfl rfl rfl rfl) ?_ | refine zaw rfl rfl (zax rfl rfl rfl) ?_ | refine zaw rfl rfl (zav rfl rfl rfl) ?_)
  all_goals (first | refine zat rfl rfl (zah rfl rfl rfl) (za6 (.inl rfl) rfl) ?_ | refine zat rfl rfl (zah rfl rfl rfl) (zbg (.inl rfl) rfl) ?_ | refine zat rfl rfl (zah rfl rfl rfl) (mv_s (.inl rfl) rfl) ?_ | refine zat rfl rfl (zah rfl rfl rfl) (za7 (.inl rfl) rfl) ?_ | refine zaw rfl rfl (zax rfl rfl rfl) ?_ | refine zaw rfl rfl (zav rfl rfl rfl) ?_)
  all_goals (first | refine zat rfl rfl (zah rfl rfl rfl) (zal rfl tf25_0 (by decide) rfl) ?_ | refine zat rfl rfl (zah rfl rfl rfl) (zai rfl tf25_0 (by decide) rfl) ?_ | refine zaw rfl rfl (zax rfl rfl rfl) ?_ | refine zaw rfl rfl (zav rfl rfl rfl) ?_)
  all_goals (first | refine zat rfl rfl (zah rfl rfl rfl) (zam rfl ta22 rfl) ?_ | refine zat rfl rfl (zah rfl rfl rfl) (zap rfl ta22 rfl rfl rfl rfl rfl) ?_ | refine zaw rfl rfl (zax rfl rfl rfl) ?_ | refine zaw rfl rfl (zav rfl rfl rfl) ?_)
  all_goals (first | refine zat rfl rfl (zah rfl rfl rfl) (za5 rfl rfl ((price_pf d l p.c h13 (okC_of h13 h19))) (zau rfl (zau rfl zbj))) ?_ | refine zaw rfl rfl (zax rfl rfl rfl) ?_ | refine zaw rfl rfl (zav rfl rfl rfl) ?_)
  all_goals (first | refine zdg rfl rfl (zah rfl rfl rfl) (zbv rfl rfl rfl) (fun h37 => ?_) (fun h37 => ?_) | refine zdh rfl rfl (zah rfl rfl rfl) (zbv rfl rfl rfl) (fun h37 => ?_) (fun h37 => ?_) | refine zaw rfl rfl (zax rfl rfl rfl) ?_ | refine zaw rfl rfl (zav rfl rfl rfl) ?_)
  all_goals (first | refine zat rfl rfl (zaa rfl) (zbx rfl rfl rfl) ?_ | refine zat rfl rfl (zaa rfl) (zby rfl rfl rfl) ?_ | refine zat rfl rfl (zaa rfl) (zbk rfl rfl rfl) ?_ | refine zat rfl rfl (zaa rfl) (zbl rfl rfl rfl) ?_)
  all_goals refine qx_nil ?_
  all_goals (repeat (first | refine zag ?_ | refine zar ?_ | refine zad ?_ | refine zas ?_ | refine zac ?_))
  all_goals (first | refine zbp rfl ?_ | refine zbm rfl ?_)
  all_goals (repeat (first | refine zag ?_ | refine zar ?_ | refine zad ?_ | refine zas ?_ | refine zac ?_))
  all_goals first
    | skip
      rw [if_neg (by
        unfold headK
        rintro ⟨g1, g2, g3, g4⟩
        first
        | exact Bool.noConfusion (g1.symm.trans h13)
        | exact Bool.noConfusion (g2.symm.trans h19)
        | omega)] at HI
      refine zaf ?_
      refine zab rfl rfl (zaa rfl) (mv_s (.inr rfl) rfl) ?_
      refine zan ?_
      repeat (first | refine zag ?_ | refine zar ?_ | refine zad ?_ | refine zas ?_ | refine zac ?_)
      (refine zbs ?_; repeat (first | refine zb8 ?_ | refine zb9 ?_))
      exact zcm (.inr rfl) rfl (congrArg eB HI.symm)
    | skip
  have hk : headK d l p := ⟨h13, h19, by omega, by omega⟩
  rw [if_pos hk] at HI
  have hbd := prcP_bd h13 (okC_of h13 h19) l.length (Nat.le_refl _)
  have hpc := hk.2.2.2
  have hl12 := (zcz h13).1.2.2
  have hr := right_pf (P := P) d l p.cost h13 (by omega) (by omega) (.mk s t L y) (zeroI l.length) (mostL l) 20000 (first_box h13) (by omega) (by omega)
  generalize rgtE d l p.cost (.mk s t L y) (zeroI l.length) (mostL l) 20000 = x at HI hr
  obtain ⟨xz, xn⟩ := x
  rw [eBr_mk] at hr
  replace hr : Pure P 17 [eL eI d, eL eSh l, eBx (zeroI l.length) (mostL l), .agg [eI s, eI t, eL eBr L, eL eF y], eI p.cost, eI 20000] (.tup [eB xz, eI xn]) := hr
  all_goals refine zch hmix ?_
  all_goals refine zda ?_
  all_goals (first | refine zao rfl rfl (zaa rfl) (fun _ => (za6 (.inl rfl) rfl)) ?_ | refine zao rfl rfl (zaa rfl) (fun _ => (zbg (.inl rfl) rfl)) ?_ | refine zao rfl rfl (zaa rfl) (fun _ => (mv_s (.inl rfl) rfl)) ?_ | refine zao rfl rfl (zaa rfl) (fun _ => (za7 (.inl rfl) rfl)) ?_)
  all_goals (first | refine zao rfl rfl (zaa rfl) (fun _ => (za6 (.inl rfl) rfl)) ?_ | refine zao rfl rfl (zaa rfl) (fun _ => (zbg (.inl rfl) rfl)) ?_ | refine zao rfl rfl (zaa rfl) (fun _ => (mv_s (.inl rfl) rfl)) ?_ | refine zao rfl rfl (zaa rfl) (fun _ => (za7 (.inl rfl) rfl)) ?_)
  all_goals (first | refine zao rfl rfl (zaa rfl) (fun _ => (za6 (.inl rfl) rfl)) ?_ | refine zao rfl rfl (zaa rfl) (fun _ => (zbg (.inl rfl) rfl)) ?_ | refine zao rfl rfl (zaa rfl) (fun _ => (mv_s (.inl rfl) rfl)) ?_ | refine zao rfl rfl (zaa rfl) (fun _ => (za7 (.inl rfl) rfl)) ?_)
  all_goals refine zao rfl rfl (zaa rfl) (fun _ => (za5 rfl rfl ((first_pf l hl12)) (zau rfl zbj))) ?_
  all_goals (first | refine zao rfl rfl (zaa rfl) (fun _ => (za0 rfl ta29 ti29 rfl rfl)) ?_ | refine zbz rfl rfl (zaa rfl) (zce rfl ta29 ti29 rfl rfl rfl rfl rfl) ?_ | refine zao rfl rfl (zaa rfl) (fun _ => (zaz rfl ta29 ti29 rfl (Nat.le_of_ble_eq_true rfl))) ?_ | refine zbz rfl rfl (zaa rfl) (zcn rfl ta29 ti29 rfl rfl rfl rfl (Nat.le_of_ble_eq_true rfl)) ?_)
  all_goals (first | refine zao rfl rfl (zaa rfl) (fun _ => (zal rfl tf25_1 (by decide) rfl)) ?_ | refine zao rfl rfl (zaa rfl) (fun _ => (zai rfl tf25_1 (by decide) rfl)) ?_)
  all_goals (first | refine zao rfl rfl (zaa rfl) (fun _ => (zam rfl ta3 rfl)) ?_ | refine zbz rfl rfl (zaa rfl) (zc9 rfl ta3 rfl rfl rfl rfl rfl) ?_)
  all_goals refine zao rfl rfl (zaa rfl) (fun _ => (za5 rfl rfl (hr) (zau rfl (zau rfl (zau rfl (zau rfl (zau rfl (zau rfl zbj)))))))) ?_
  all_goals (first | refine zao rfl rfl (zaa rfl) (fun _ => (mv_tup (.inl rfl) rfl)) ?_ | refine zao rfl rfl (zaa rfl) (fun _ => (mv_s (.inl rfl) rfl)) ?_)
  all_goals refine zao rfl rfl (zaa rfl) (fun _ => (zbf rfl rfl rfl)) ?_
  all_goals refine zao rfl rfl (zaa rfl) (fun _ => (zbf rfl rfl rfl)) ?_
  all_goals refine zao rfl rfl (zaa rfl) (fun _ => (mv_s (.inr rfl) rfl)) ?_
  all_goals refine zao rfl rfl (zaa rfl) (fun _ => (mv_s (.inr rfl) rfl)) ?_
  all_goals refine ex_nil (by kernel_rfl) ?_
  all_goals (repeat (first | refine zag ?_ | refine zar ?_ | refine zad ?_ | refine zas ?_ | refine zac ?_))
  refine zaf ?_
  refine zab rfl rfl (zaa rfl) (mv_s (.inl rfl) rfl) ?_
  refine zab rfl rfl (zaa rfl) (mv_s (.inr rfl) rfl) ?_
  refine zan ?_
  repeat (first | refine zag ?_ | refine zar ?_ | refine zad ?_ | refine zas ?_ | refine zac ?_)
  (refine zbs ?_; repeat (first | refine zb8 ?_ | refine zb9 ?_))
  exact zcm (.inr rfl) rfl (congrArg eB HI.symm)
end Go.Proofs.YtmoipmnhgdmkpaaGreat.Aw
end
section
namespace Go.Proofs.YtmoipmnhgdmkpaaGreat.Aw
set_option linter.unusedSimpArgs false
set_option linter.unusedVariables false
set_option linter.unusedSectionVars false
open Go.RowKit Go.Proofs
variable {P : Program} [IsP P]

theorem subE_f {a b : Fr} (h : ¬ (a.okB = true ∧ b.okB = true)) : subE a b = ⟨0, 0, 1⟩ := by
  unfold subE
  rw [if_neg (fun g => h (by simpa using g))]; rfl
theorem subE_t {a b : Fr} (h1 : a.okB = true) (h2 : b.okB = true) : addE a (fneg b) = subE a b := by
  unfold subE addE
  rw [h1, h2, Fr.okB_of (fneg_ok ((Fr.okB_iff b).1 h2))]; rfl
theorem rSub_pf (a b : Fr) : Pure P 51 [eF a, eF b] (eFE (subE a b)) := by
  have hf := @subE_f a b
  have ht := @subE_t a b
  have hA := rAdd_pf (P := P) a (fneg b)
  have hbb : b.okB = true → -1073741824 ≤ b.n ∧ b.n ≤ 1073741824 := fun h => ⟨((Fr.okB_iff b).1 h).1, ((Fr.okB_iff b).1 h).2.1⟩
  generalize subE a b = R at hf ht ⊢
  generalize addE a (fneg b) = x at hA ht
  have hN := fun h => rNeg_pf (P := P) b (hbb h)
  have hva := rValid_pf (P := P) a
  have hvb := rValid_pf (P := P) b
  generalize a.okB = za at hf ht hva
  generalize b.okB = zb at hf ht hN hvb
  refine zc4 (by rw [IsP.eq (P := P)]; exact Tryz.func51) rfl rfl rfl rfl rfl (by repeat' (first | exact Lo.s _ | exact zaj | refine zae ?_ ?_ | refine zak ?_ | refine Lo.cells ?_ | refine Lo.agg _ ?_ | refine Lo.ref _ ?_ | refine Lo.tup _ ?_ | refine Lo.fn _ _ ?_ | refine Lo.sl _ ?_ | intro _)) (by repeat' (first | exact Lo.s _ | exact zaj | refine zae ?_ ?_ | refine zak ?_ | refine Lo.cells ?_ | refine Lo.agg _ ?_ | refine Lo.ref _ ?_ | refine Lo.tup _ ?_ | refine Lo.fn _ _ ?_ | refine Lo.sl _ ?_ | intro _)) (by simp only [argF]; rfl) ?_
  repeat (first | refine zag ?_ | refine zar ?_ | refine zad ?_ | refine zas ?_ | refine zac ?_)
  refine zaf ?_
  refine zab rfl rfl (zaa rfl) (zcv rfl rfl rfl rfl) ?_
  refine zbq (zcd (id := 0) rfl) (zbq (zcy (d := 2) rfl rfl rfl) ?_)
  refine zab rfl rfl (zaa rfl) (zcv rfl rfl rfl rfl) ?_
  refine zbq (zcd (id := 1) rfl) (zbq (zcy (d := 3) rfl rfl rfl) ?_)
  refine zab rfl rfl (zaa rfl) (zbr rfl ti41 rfl rfl) ?_
  refine zab rfl rfl (zaa rfl) (mv_s (.inr rfl) rfl) ?_
  refine zan ?_
  repeat (first | refine zag ?_ | refine zar ?_ | refine zad ?_ | refine zas ?_ | refine zac ?_)
  all_goals refine zaf ?_
  all_goals (first | refine zab rfl rfl (zaa rfl) (za0 rfl ta41 ti41 rfl rfl) ?_ | refine zab rfl rfl (zaa rfl) (za9 rfl ta41 ti41 rfl rfl rfl rfl rfl) ?_ | refine zab rfl rfl (zaa rfl) (zaz rfl ta41 ti41 rfl (Nat.le_of_ble_eq_true rfl)) ?_ | refine zab rfl rfl (zaa rfl) (zba rfl ta41 ti41 rfl rfl rfl rfl (Nat.le_of_ble_eq_true rfl)) ?_)
  all_goals (first | refine zbh rfl rfl (zaa rfl) (za5 rfl rfl (hva) (zau rfl zbj)) (fun h7 => ?_) (fun h7 => ?_) | refine zbi rfl rfl (zaa rfl) (za5 rfl rfl (hva) (zau rfl zbj)) (fun h7 => ?_) (fun h7 => ?_))
  all_goals (first | refine zab rfl rfl (zaa rfl) (zcf rfl rfl) ?_ | refine zab rfl rfl (zaa rfl) (zcj rfl rfl) ?_)
  all_goals refine zab rfl rfl (zaa rfl) (mv_s (.inl rfl) rfl) ?_
  all_goals (first | refine zab rfl rfl (zah rfl rfl rfl) (za0 rfl ta41 ti41 rfl rfl) ?_ | refine zab rfl rfl (zah rfl rfl rfl) (za9 rfl ta41 ti41 rfl rfl rfl rfl rfl) ?_ | refine zab rfl rfl (zah rfl rfl rfl) (zaz rfl ta41 ti41 rfl (Nat.le_of_ble_eq_true rfl)) ?_ | refine zab rfl rfl (zah rfl rfl rfl) (zba rfl ta41 ti41 rfl rfl rfl rfl (Nat.le_of_ble_eq_true rfl)) ?_ | refine zaq rfl rfl (zax rfl rfl rfl) ?_ | refine zaq rfl rfl (zav rfl rfl rfl) ?_)
  all_goals (first | refine zbh rfl rfl (zah rfl rfl rfl) (za5 rfl rfl (hvb) (zau rfl zbj)) (fun h11 => ?_) (fun h11 => ?_) | refine zbi rfl rfl (zah rfl rfl rfl) (za5 rfl rfl (hvb) (zau rfl zbj)) (fun h11 => ?_) (fun h11 => ?_) | refine zaq rfl rfl (zax rfl rfl rfl) ?_ | refine zaq rfl rfl (zav rfl rfl rfl) ?_)
  all_goals (first | refine zab rfl rfl (zah rfl rfl rfl) (zcf rfl rfl) ?_ | refine zab rfl rfl (zah rfl rfl rfl) (zcj rfl rfl) ?_ | refine zaq rfl rfl (zax rfl rfl rfl) ?_ | refine zaq rfl rfl (zav rfl rfl rfl) ?_)
  all_goals (first | refine zab rfl rfl (zaa rfl) (zbx rfl rfl rfl) ?_ | refine zab rfl rfl (zaa rfl) (zby rfl rfl rfl) ?_ | refine zab rfl rfl (zaa rfl) (zbk rfl rfl rfl) ?_ | refine zab rfl rfl (zaa rfl) (zbl rfl rfl rfl) ?_)
  all_goals refine zan ?_
  all_goals (repeat (first | refine zag ?_ | refine zar ?_ | refine zad ?_ | refine zas ?_ | refine zac ?_))
  all_goals (first | refine zbp rfl ?_ | refine zbm rfl ?_)
  all_goals (repeat (first | refine zag ?_ | refine zar ?_ | refine zad ?_ | refine zas ?_ | refine zac ?_))
  rotate_left 2
  all_goals first
    | skip
      all_goals refine zch hmix ?_
      all_goals refine zda ?_
      all_goals (first | refine zao rfl rfl (zaa rfl) (fun _ => (za0 rfl ta41 ti41 rfl rfl)) ?_ | refine zbz rfl rfl (zaa rfl) (zce rfl ta41 ti41 rfl rfl rfl rfl rfl) ?_ | refine zao rfl rfl (zaa rfl) (fun _ => (zaz rfl ta41 ti41 rfl (Nat.le_of_ble_eq_true rfl))) ?_ | refine zbz rfl rfl (zaa rfl) (zcn rfl ta41 ti41 rfl rfl rfl rfl (Nat.le_of_ble_eq_true rfl)) ?_)
      all_goals (first | refine zao rfl rfl (zaa rfl) (fun _ => (za0 rfl ta41 ti41 rfl rfl)) ?_ | refine zbz rfl rfl (zaa rfl) (zce rfl ta41 ti41 rfl rfl rfl rfl rfl) ?_ | refine zao rfl rfl (zaa rfl) (fun _ => (zaz rfl ta41 ti41 rfl (Nat.le_of_ble_eq_true rfl))) ?_ | refine zbz rfl rfl (zaa rfl) (zcn rfl ta41 ti41 rfl rfl rfl rfl (Nat.le_of_ble_eq_true rfl)) ?_)
      all_goals refine zao rfl rfl (zaa rfl) (fun _ => (za5 rfl rfl ((hN h11)) (zau rfl zbj))) ?_
      all_goals refine zao rfl rfl (zaa rfl) (fun _ => (za5 rfl rfl (hA) (zau rfl (zau rfl zbj)))) ?_
      all_goals refine zao rfl rfl (zaa rfl) (fun _ => (zbf rfl rfl rfl)) ?_
      all_goals refine zao rfl rfl (zaa rfl) (fun _ => (zbf rfl rfl rfl)) ?_
      all_goals refine ex_eff0 rfl (zaa rfl) (zbd rfl ti41 rfl rfl rfl rfl rfl rfl (by decide) (by decide)) (fun _ h => zcq h) ?_
      all_goals refine zao rfl rfl (zaa rfl) (fun _ => (mv_s (.inr rfl) rfl)) ?_
      all_goals refine ex_nil (by kernel_rfl) ?_
      all_goals (repeat (first | refine zag ?_ | refine zar ?_ | refine zad ?_ | refine zas ?_ | refine zac ?_))
      (refine zbs ?_; repeat (first | refine zb8 ?_ | refine zb9 ?_))
      exact zc6 (.inr rfl) ta41 ti41 rfl rfl rfl rfl rfl rfl (by rw [← ht h7 h11]; rfl)
    | skip
  all_goals
      refine zaf ?_
      refine zab rfl rfl (zaa rfl) (zb7 rfl ti41 tp41 rfl rfl) ?_
      refine zb0 rfl (zaa rfl) (zbd rfl ti41 rfl rfl rfl rfl rfl rfl (by decide) (by decide)) ?_
      refine zab rfl rfl (zaa rfl) (mv_s (.inr rfl) rfl) ?_
      refine zan ?_
      repeat (first | refine zag ?_ | refine zar ?_ | refine zad ?_ | refine zas ?_ | refine zac ?_)
      (refine zbs ?_; repeat (first | refine zb8 ?_ | refine zb9 ?_))
      exact zc6 (.inr rfl) ta41 ti41 rfl rfl rfl rfl rfl rfl (by rw [hf (by rintro ⟨g1, g2⟩; first | exact Bool.noConfusion (g1.symm.trans h7) | exact Bool.noConfusion (g2.symm.trans h11))]; rfl)
theorem with_pf (l : List Int) (k : Nat) (n : Int) (hk : k < l.length) (hl : l.length ≤ 12) : Pure P 38 [eL eI l, eI k, eI n] (eL eI (setI l k n)) := by
  have hlm : (l.map eI).length = l.length := by simp
  have hs : (l.map eI).set k (eI n) = (setI l k n).map eI := by simp [setI, List.map_set]
  refine zc4 (by rw [IsP.eq (P := P)]; exact Tryz.func38) rfl rfl rfl rfl rfl (by repeat' (first | exact Lo.s _ | exact zaj | refine zae ?_ ?_ | refine zak ?_ | refine Lo.cells ?_ | refine Lo.agg _ ?_ | refine Lo.ref _ ?_ | refine Lo.tup _ ?_ | refine Lo.fn _ _ ?_ | refine Lo.sl _ ?_ | intro _)) (by repeat' (first | exact Lo.s _ | exact zaj | refine zae ?_ ?_ | refine zak ?_ | refine Lo.cells ?_ | refine Lo.agg _ ?_ | refine Lo.ref _ ?_ | refine Lo.tup _ ?_ | refine Lo.fn _ _ ?_ | refine Lo.sl _ ?_ | intro _)) (by simp only [argF]; rfl) ?_
  repeat (first | refine zag ?_ | refine zar ?_ | refine zad ?_ | refine zas ?_ | refine zac ?_)
  refine zc5 (d := 0) rfl (fun hm1 => ?_)
  unfold maxLen at hm1
  refine zaf ?_
  first | refine zab rfl rfl (zaa rfl) (za6 (.inr rfl) rfl) ?_ | refine zab rfl rfl (zaa rfl) (zbg (.inr rfl) rfl) ?_ | refine zab rfl rfl (zaa rfl) (mv_s (.inr rfl) rfl) ?_ | refine zab rfl rfl (zaa rfl) (za7 (.inr rfl) rfl) ?_
  refine zan ?_
  repeat (first | refine zag ?_ | refine zar ?_ | refine zad ?_ | refine zas ?_ | refine zac ?_)
  refine zaf ?_
  refine zab rfl rfl (zaa rfl) (does_lit0 rfl rfl ts22 ti3) ?_
  first | refine zab rfl rfl (zaa rfl) (za6 (.inl rfl) rfl) ?_ | refine zab rfl rfl (zaa rfl) (zbg (.inl rfl) rfl) ?_ | refine zab rfl rfl (zaa rfl) (mv_s (.inl rfl) rfl) ?_ | refine zab rfl rfl (zaa rfl) (za7 (.inl rfl) rfl) ?_
  first | refine zab rfl rfl (zaa rfl) (zcx rfl ts22 ti3 rfl (by decide) rfl rfl (by first | rfl | (simp; done) | (simp; omega)) rfl (by first | exact .own _ _ _ rfl rfl _ (by first | rfl | simp) | exact .emp | exact .nil | exact .sl _ (by first | simp; done | intro e he; simp at he; obtain ⟨_, _, rfl⟩ := he; rfl)) (by first | omega | (simp; omega) | (unfold maxLen; simp; omega)) (by first | omega | (simp; omega) | (unfold maxLen; simp; omega))) ?_ | refine zab rfl rfl (zaa rfl) (zb1 rfl ts22 ti3 rfl (by decide) rfl (.inl rfl) rfl (by first | exact .own _ _ _ rfl rfl _ (by first | rfl | simp) | exact .emp | exact .nil | exact .sl _ (by first | simp; done | intro e he; simp at he; obtain ⟨_, _, rfl⟩ := he; rfl)) (by first | omega | (simp; omega) | (unfold maxLen; simp; omega)) (by first | omega | (simp; omega) | (unfold maxLen; simp; omega))) ?_ | refine zab rfl rfl (zaa rfl) (zb1 rfl ts22 ti3 rfl (by decide) rfl (.inr rfl) rfl (by first | exact .own _ _ _ rfl rfl _ (by first | rfl | simp) | exact .emp | exact .nil | exact .sl _ (by first | simp; done | intro e he; simp at he; obtain ⟨_, _, rfl⟩ := he; rfl)) (by first | omega | (simp; omega) | (unfold maxLen; simp; omega)) (by first | omega | (simp; omega) | (unfold maxLen; simp; omega))) ?_
  first | refine zab rfl rfl (zaa rfl) (za6 (.inr rfl) rfl) ?_ | refine zab rfl rfl (zaa rfl) (zbg (.inr rfl) rfl) ?_ | refine zab rfl rfl (zaa rfl) (mv_s (.inr rfl) rfl) ?_ | refine zab rfl rfl (zaa rfl) (za7 (.inr rfl) rfl) ?_
  refine zan ?_
  repeat (first | refine zag ?_ | refine zar ?_ | refine zad ?_ | refine zas ?_ | refine zac ?_)
  refine zaf ?_
  first | refine zab rfl rfl (zaa rfl) (za6 (.inl rfl) rfl) ?_ | refine zab rfl rfl (zaa rfl) (zbg (.inl rfl) rfl) ?_ | refine zab rfl rfl (zaa rfl) (mv_s (.inl rfl) rfl) ?_ | refine zab rfl rfl (zaa rfl) (za7 (.inl rfl) rfl) ?_
  refine zab rfl rfl (zaa rfl) (mv_s (.inl rfl) rfl) ?_
  refine zab rfl rfl (zaa rfl) (mv_s (.inl rfl) rfl) ?_
  first | refine zab rfl rfl (zaa rfl) (za1 rfl ts22 ti3 rfl rfl rfl (zb5 (by omega)) rfl) ?_ | refine zab rfl rfl (zaa rfl) (zay rfl ts22 ti3 rfl rfl rfl (by omega)) ?_
  refine zb0 rfl (zaa rfl) (zbd rfl ti3 rfl rfl rfl (zb5 hk) rfl rfl (by decide) (by decide)) ?_
  refine zan ?_
  repeat (first | refine zag ?_ | refine zar ?_ | refine zad ?_ | refine zas ?_ | refine zac ?_)
  refine zaf ?_
  first | refine zab rfl rfl (zaa rfl) (za6 (.inl rfl) rfl) ?_ | refine zab rfl rfl (zaa rfl) (zbg (.inl rfl) rfl) ?_ | refine zab rfl rfl (zaa rfl) (mv_s (.inl rfl) rfl) ?_ | refine zab rfl rfl (zaa rfl) (za7 (.inl rfl) rfl) ?_
  first | refine zab rfl rfl (zaa rfl) (za6 (.inr rfl) rfl) ?_ | refine zab rfl rfl (zaa rfl) (zbg (.inr rfl) rfl) ?_ | refine zab rfl rfl (zaa rfl) (mv_s (.inr rfl) rfl) ?_ | refine zab rfl rfl (zaa rfl) (za7 (.inr rfl) rfl) ?_
  refine zan ?_
  repeat (first | refine zag ?_ | refine zar ?_ | refine zad ?_ | refine zas ?_ | refine zac ?_)
  (refine zbs ?_; repeat (first | refine zb8 ?_ | refine zb9 ?_))
  refine post1f (.inr rfl) rfl ?_
  unfold eL
  rw [← hs]
  exact .own _ _ _ _ _ rfl rfl (by simp)
theorem prcP_c (l : List Sft) (c : List Int) (k : Nat) : prcP l c (k + 1) = prcP l c k + gti c k * (gti l k).cost := by rw [Int.mul_comm]; rfl
set_option maxHeartbeats 1000000 in
theorem rCost_pf (d : List Int) (l : List Sft) (c : List Int) (hv : zde d l = true) (hc : okC l c) : Pure P 22 [eL eSh l, eL eI c] (eI (prcP l c l.length)) := by
  obtain ⟨⟨q1, q2, q3⟩, qd, ql⟩ := zcz hv
  have hcl := hc.1
  refine zc4 (by rw [IsP.eq (P := P)]; exact Tryz.func22) rfl rfl rfl rfl rfl (by repeat' (first | exact Lo.s _ | exact zaj | refine zae ?_ ?_ | refine zak ?_ | refine Lo.cells ?_ | refine Lo.agg _ ?_ | refine Lo.ref _ ?_ | refine Lo.tup _ ?_ | refine Lo.fn _ _ ?_ | refine Lo.sl _ ?_ | intro _)) (by repeat' (first | exact Lo.s _ | exact zaj | refine zae ?_ ?_ | refine zak ?_ | refine Lo.cells ?_ | refine Lo.agg _ ?_ | refine Lo.ref _ ?_ | refine Lo.tup _ ?_ | refine Lo.fn _ _ ?_ | refine Lo.sl _ ?_ | intro _)) (by simp only [argF]; rfl) ?_
  repeat (first | refine zag ?_ | refine zar ?_ | refine zad ?_ | refine zas ?_ | refine zac ?_)
  refine zaf ?_
  refine zab rfl rfl (zaa rfl) (mv_s (.inr rfl) rfl) ?_
  refine zan ?_
  repeat (first | refine zag ?_ | refine zar ?_ | refine zad ?_ | refine zas ?_ | refine zac ?_)
  refine zaf ?_
  refine zab rfl rfl (zaa rfl) (mv_s (.inr rfl) rfl) ?_
  refine zan ?_
  repeat (first | refine zag ?_ | refine zar ?_ | refine zad ?_ | refine zas ?_ | refine zac ?_)
  refine zaf ?_
  refine zab rfl rfl (zaa rfl) (mv_s (.inr rfl) rfl) ?_
  refine zan ?_
  repeat (first | refine zag ?_ | refine zar ?_ | refine zad ?_ | refine zas ?_ | refine zac ?_)
  refine zcc (S := Nat) (fun k => [(0, eL eSh l), (1, eL eI c), (6, eI k), (5, eI (prcP l c k))]) (fun _ => []) (fun k => k ≤ l.length) (fun k => l.length - k) 0 (zck [] (by decide) trivial ⟨.lo _ (by repeat' (first | exact Lo.s _ | exact zaj | refine zae ?_ ?_ | refine zak ?_ | refine Lo.cells ?_ | refine Lo.agg _ ?_ | refine Lo.ref _ ?_ | refine Lo.tup _ ?_ | refine Lo.fn _ _ ?_ | refine Lo.sl _ ?_ | intro _)), .lo _ (by repeat' (first | exact Lo.s _ | exact zaj | refine zae ?_ ?_ | refine zak ?_ | refine Lo.cells ?_ | refine Lo.agg _ ?_ | refine Lo.ref _ ?_ | refine Lo.tup _ ?_ | refine Lo.fn _ _ ?_ | refine Lo.sl _ ?_ | intro _)), .lo _ (by repeat' (first | exact Lo.s _ | exact zaj | refine zae ?_ ?_ | refine zak ?_ | refine Lo.cells ?_ | refine Lo.agg _ ?_ | refine Lo.ref _ ?_ | refine Lo.tup _ ?_ | refine Lo.fn _ _ ?_ | refine Lo.sl _ ?_ | intro _)), .lo _ (by repeat' (first | exact Lo.s _ | exact zaj | refine zae ?_ ?_ | refine zak ?_ | refine Lo.cells ?_ | refine Lo.agg _ ?_ | refine Lo.ref _ ?_ | refine Lo.tup _ ?_ | refine Lo.fn _ _ ?_ | refine Lo.sl _ ?_ | intro _)), trivial⟩) (Nat.zero_le _) (fun k hk => ?_)
  repeat (first | refine zag ?_ | refine zar ?_ | refine zad ?_ | refine zas ?_ | refine zac ?_)
  have hbd := prcP_bd hv hc k hk
  all_goals refine zaf ?_
  all_goals refine zab rfl rfl (zaa rfl) (mv_s (.inl rfl) rfl) ?_
  all_goals (first | refine zab rfl rfl (zaa rfl) (za6 (.inl rfl) rfl) ?_ | refine zab rfl rfl (zaa rfl) (zbg (.inl rfl) rfl) ?_ | refine zab rfl rfl (zaa rfl) (mv_s (.inl rfl) rfl) ?_ | refine zab rfl rfl (zaa rfl) (za7 (.inl rfl) rfl) ?_)
  all_goals (first | refine zab rfl rfl (zaa rfl) (za4 rfl ts23 rfl) ?_ | refine zab rfl rfl (zaa rfl) (za8 rfl ts23 rfl) ?_ | refine zab rfl rfl (zaa rfl) (za2 rfl ts23 rfl) ?_ | refine zab rfl rfl (zaa rfl) (zbc rfl ts23 rfl) ?_ | refine zab rfl rfl (zaa rfl) (za3 rfl ts23 rfl) ?_)
  all_goals (first | refine zbh rfl rfl (zaa rfl) (zbb rfl rfl rfl) (fun h10 => ?_) (fun h10 => ?_) | refine zbi rfl rfl (zaa rfl) (zbb rfl rfl rfl) (fun h10 => ?_) (fun h10 => ?_))
  all_goals refine zan ?_
  all_goals (repeat (first | refine zag ?_ | refine zar ?_ | refine zad ?_ | refine zas ?_ | refine zac ?_))
  all_goals (first | refine zbp rfl ?_ | refine zbm rfl ?_)
  all_goals (repeat (first | refine zag ?_ | refine zar ?_ | refine zad ?_ | refine zas ?_ | refine zac ?_))
  · have hlt : k < l.length := by omega
    have hlt2 : k < c.length := by omega
    have hb1 := (ql k hlt).1
    have hb2 := hc.2.2 k hlt
    have hb := mul_bd hb1.2.1 hb1.2.2.1 hb2.1 hb2.2
    rw [Int.mul_comm] at hb
    have hnx := prcP_c l c k
    refine zch hmix ?_
    refine zco (by kernel_rfl) ?_
    refine zat rfl rfl (zaa rfl) (mv_s (.inl rfl) rfl) ?_
    first | refine zat rfl rfl (zaa rfl) (za6 (.inl rfl) rfl) ?_ | refine zat rfl rfl (zaa rfl) (zbg (.inl rfl) rfl) ?_ | refine zat rfl rfl (zaa rfl) (mv_s (.inl rfl) rfl) ?_ | refine zat rfl rfl (zaa rfl) (za7 (.inl rfl) rfl) ?_
    refine zat rfl rfl (zaa rfl) (mv_s (.inl rfl) rfl) ?_
    first | refine zat rfl rfl (zaa rfl) (za1 rfl ts22 ti3 rfl rfl rfl (zb5 (by omega)) rfl) ?_ | refine zat rfl rfl (zaa rfl) (zay rfl ts22 ti3 rfl rfl rfl (by omega)) ?_
    first | refine zat rfl rfl (zaa rfl) (zam rfl ta3 rfl) ?_ | refine zat rfl rfl (zaa rfl) (zap rfl ta3 rfl rfl rfl rfl rfl) ?_
    first | refine zat rfl rfl (zaa rfl) (za6 (.inl rfl) rfl) ?_ | refine zat rfl rfl (zaa rfl) (zbg (.inl rfl) rfl) ?_ | refine zat rfl rfl (zaa rfl) (mv_s (.inl rfl) rfl) ?_ | refine zat rfl rfl (zaa rfl) (za7 (.inl rfl) rfl) ?_
    refine zat rfl rfl (zaa rfl) (mv_s (.inl rfl) rfl) ?_
    first | refine zat rfl rfl (zaa rfl) (za1 rfl ts23 ti36 rfl rfl rfl (zb5 (by omega)) rfl) ?_ | refine zat rfl rfl (zaa rfl) (zay rfl ts23 ti36 rfl rfl rfl (by omega)) ?_
    first | refine zat rfl rfl (zaa rfl) (zal rfl tf36_1 (by decide) rfl) ?_ | refine zat rfl rfl (zaa rfl) (zai rfl tf36_1 (by decide) rfl) ?_
    first | refine zat rfl rfl (zaa rfl) (zam rfl ta3 rfl) ?_ | refine zat rfl rfl (zaa rfl) (zap rfl ta3 rfl rfl rfl rfl rfl) ?_
    refine zat rfl rfl (zaa rfl) (does_mul rfl rfl rfl (IntWalk.i64_in _ (by omega))) ?_
    refine zat rfl rfl (zaa rfl) (zb2 rfl rfl rfl (IntWalk.i64_in _ (by omega))) ?_
    refine zat rfl rfl (zaa rfl) (mv_s (.inr rfl) rfl) ?_
    refine qx_nil ?_
    repeat (first | refine zag ?_ | refine zar ?_ | refine zad ?_ | refine zas ?_ | refine zac ?_)
    refine zaf ?_
    refine zab rfl rfl (zaa rfl) (mv_s (.inl rfl) rfl) ?_
    refine zab rfl rfl (zaa rfl) (zb2 rfl rfl rfl (IntWalk.i64_in _ (by omega))) ?_
    refine zab rfl rfl (zaa rfl) (mv_s (.inr rfl) rfl) ?_
    refine zan ?_
    repeat (first | refine zag ?_ | refine zar ?_ | refine zad ?_ | refine zas ?_ | refine zac ?_)
    rw [← hnx]
    exact ⟨k + 1, by omega, by omega, zck [] (by decide) trivial ⟨.lo _ (by repeat' (first | exact Lo.s _ | exact zaj | refine zae ?_ ?_ | refine zak ?_ | refine Lo.cells ?_ | refine Lo.agg _ ?_ | refine Lo.ref _ ?_ | refine Lo.tup _ ?_ | refine Lo.fn _ _ ?_ | refine Lo.sl _ ?_ | intro _)), .lo _ (by repeat' (first | exact Lo.s _ | exact zaj | refine zae ?_ ?_ | refine zak ?_ | refine Lo.cells ?_ | refine Lo.agg _ ?_ | refine Lo.ref _ ?_ | refine Lo.tup _ ?_ | refine Lo.fn _ _ ?_ | refine Lo.sl _ ?_ | intro _)), .lo _ (by repeat' (first | exact Lo.s _ | exact zaj | refine zae ?_ ?_ | refine zak ?_ | refine Lo.cells ?_ | refine Lo.agg _ ?_ | refine Lo.ref _ ?_ | refine Lo.tup _ ?_ | refine Lo.fn _ _ ?_ | refine Lo.sl _ ?_ | intro _)), .lo _ (by repeat' (first | exact Lo.s _ | exact zaj | refine zae ?_ ?_ | refine zak ?_ | refine Lo.cells ?_ | refine Lo.agg _ ?_ | refine Lo.ref _ ?_ | refine Lo.tup _ ?_ | refine Lo.fn _ _ ?_ | refine Lo.sl _ ?_ | intro _)), trivial⟩⟩
  · have e : k = l.length := by omega
    subst e
    (refine zcl ?_; repeat (first | refine ath_x ?_ | refine zci ?_ | refine zcb rfl ?_ | refine zas ?_ | refine zar ?_ | refine zag ?_ | refine zad ?_ | refine zac ?_))
    refine zaf ?_
    refine zab rfl rfl (zaa rfl) (mv_s (.inl rfl) rfl) ?_
    refine zab rfl rfl (zaa rfl) (mv_s (.inr rfl) rfl) ?_
    refine zan ?_
    repeat (first | refine zag ?_ | refine zar ?_ | refine zad ?_ | refine zas ?_ | refine zac ?_)
    (refine zbs ?_; repeat (first | refine zb8 ?_ | refine zb9 ?_))
    exact zcm (.inr rfl) rfl rfl
theorem mulB_f1 {d : List Int} {y : List Fr} (h : ¬ (y.length = d.length ∧ y.all Fr.okB = true)) : mulB d y = false := by
  cases hm : mulB d y with
  | false => rfl
  | true =>
    refine absurd ⟨?_, ?_⟩ h
    · unfold mulB at hm; simp only [Bool.and_eq_true, decide_eq_true_eq] at hm; exact hm.1
    · unfold mulB at hm
      simp only [Bool.and_eq_true, decide_eq_true_eq, Bool.not_eq_true'] at hm
      refine List.all_eq_true.2 fun a ha => ?_
      have := List.any_eq_false.1 hm.2 a ha
      unfold badM at this
      simp only [Bool.or_eq_true, Bool.not_eq_true', decide_eq_true_eq, not_or] at this
      simpa using this.1
theorem mulB_f2 {d : List Int} {y : List Fr} {k : Nat} (hk : k < y.length) (h : (gti y k).n < 0) : mulB d y = false := by
  have : y.any badM = true := List.any_eq_true.2 ⟨gti y k, gti_mem hk, by unfold badM; rw [decide_eq_true h, Bool.or_true]⟩
  unfold mulB
  rw [this, Bool.not_true, Bool.and_false]
theorem mulB_t {d : List Int} {y : List Fr} (h1 : y.length = d.length) (h2 : y.all Fr.okB = true) (h3 : ∀ j, j < y.length → 0 ≤ (gti y j).n) : mulB d y = true := by
  have : y.any badM = false := List.any_eq_false.2 fun a ha => by
    obtain ⟨i, hi, e⟩ := List.getElem_of_mem ha
    have e2 : gti y i = a := by
      have := zdj hi
      rw [List.getElem?_eq_getElem hi] at this
      rw [← Option.some.inj this, e]
    have h4 := List.all_eq_true.1 h2 a ha
    have h5 := h3 i hi
    rw [e2] at h5
    unfold badM
    rw [h4, decide_eq_false (by omega)]; simp
  unfold mulB
  rw [this, decide_eq_true h1]; rfl
set_option maxHeartbeats 1000000 in
theorem multipliers_pf (d : List Int) (y : List Fr) : Pure P 34 [eL eI d, eL eF y] (eB (mulB d y)) := by
  have f1 := @mulB_f1 d y
  have f2 := @mulB_f2 d y
  have f3 := @mulB_t d y
  have hva := rValidAll_pf (P := P) y
  generalize mulB d y = R at f1 f2 f3 ⊢
  generalize y.all Fr.okB = z at hva f1 f3
  refine zc4 (by rw [IsP.eq (P := P)]; exact Tryz.func34) rfl rfl rfl rfl rfl (by repeat' (first | exact Lo.s _ | exact zaj | refine zae ?_ ?_ | refine zak ?_ | refine Lo.cells ?_ | refine Lo.agg _ ?_ | refine Lo.ref _ ?_ | refine Lo.tup _ ?_ | refine Lo.fn _ _ ?_ | refine Lo.sl _ ?_ | intro _)) (by repeat' (first | exact Lo.s _ | exact zaj | refine zae ?_ ?_ | refine zak ?_ | refine Lo.cells ?_ | refine Lo.agg _ ?_ | refine Lo.ref _ ?_ | refine Lo.tup _ ?_ | refine Lo.fn _ _ ?_ | refine Lo.sl _ ?_ | intro _)) (by simp only [argF]; rfl) ?_
  repeat (first | refine zag ?_ | refine zar ?_ | refine zad ?_ | refine zas ?_ | refine zac ?_)
  refine zc5 (d := 0) rfl (fun hm1 => ?_)
  refine zc5 (d := 1) rfl (fun hm2 => ?_)
  unfold maxLen at hm1 hm2
  refine zaf ?_
  refine zab rfl rfl (zaa rfl) (mv_s (.inr rfl) rfl) ?_
  refine zan ?_
  repeat (first | refine zag ?_ | refine zar ?_ | refine zad ?_ | refine zas ?_ | refine zac ?_)
  all_goals refine zaf ?_
  all_goals (first | refine zab rfl rfl (zaa rfl) (za6 (.inl rfl) rfl) ?_ | refine zab rfl rfl (zaa rfl) (zbg (.inl rfl) rfl) ?_ | refine zab rfl rfl (zaa rfl) (mv_s (.inl rfl) rfl) ?_ | refine zab rfl rfl (zaa rfl) (za7 (.inl rfl) rfl) ?_)
  all_goals (first | refine zab rfl rfl (zaa rfl) (za4 rfl ts27 rfl) ?_ | refine zab rfl rfl (zaa rfl) (za8 rfl ts27 rfl) ?_ | refine zab rfl rfl (zaa rfl) (za2 rfl ts27 rfl) ?_ | refine zab rfl rfl (zaa rfl) (zbc rfl ts27 rfl) ?_ | refine zab rfl rfl (zaa rfl) (za3 rfl ts27 rfl) ?_)
  all_goals (first | refine zab rfl rfl (zaa rfl) (za6 (.inl rfl) rfl) ?_ | refine zab rfl rfl (zaa rfl) (zbg (.inl rfl) rfl) ?_ | refine zab rfl rfl (zaa rfl) (mv_s (.inl rfl) rfl) ?_ | refine zab rfl rfl (zaa rfl) (za7 (.inl rfl) rfl) ?_)
  all_goals (first | refine zab rfl rfl (zaa rfl) (za4 rfl ts22 rfl) ?_ | refine zab rfl rfl (zaa rfl) (za8 rfl ts22 rfl) ?_ | refine zab rfl rfl (zaa rfl) (za2 rfl ts22 rfl) ?_ | refine zab rfl rfl (zaa rfl) (zbc rfl ts22 rfl) ?_ | refine zab rfl rfl (zaa rfl) (za3 rfl ts22 rfl) ?_)
  all_goals (first | refine zbh rfl rfl (zaa rfl) (zbv rfl rfl rfl) (fun h10 => ?_) (fun h10 => ?_) | refine zbi rfl rfl (zaa rfl) (zbv rfl rfl rfl) (fun h10 => ?_) (fun h10 => ?_))
  all_goals refine zab rfl rfl (zaa rfl) (mv_s (.inl rfl) rfl) ?_
  all_goals (first | refine zab rfl rfl (zah rfl rfl rfl) (za6 (.inl rfl) rfl) ?_ | refine zab rfl rfl (zah rfl rfl rfl) (zbg (.inl rfl) rfl) ?_ | refine zab rfl rfl (zah rfl rfl rfl) (mv_s (.inl rfl) rfl) ?_ | refine zab rfl rfl (zah rfl rfl rfl) (za7 (.inl rfl) rfl) ?_ | refine zaq rfl rfl (zax rfl rfl rfl) ?_ | refine zaq rfl rfl (zav rfl rfl rfl) ?_)
  all_goals (first | refine zbh rfl rfl (zah rfl rfl rfl) (za5 rfl rfl (hva) (zau rfl zbj)) (fun h13 => ?_) (fun h13 => ?_) | refine zbi rfl rfl (zah rfl rfl rfl) (za5 rfl rfl (hva) (zau rfl zbj)) (fun h13 => ?_) (fun h13 => ?_) | refine zaq rfl rfl (zax rfl rfl rfl) ?_ | refine zaq rfl rfl (zav rfl rfl rfl) ?_)
  all_goals (first | refine zab rfl rfl (zah rfl rfl rfl) (zcf rfl rfl) ?_ | refine zab rfl rfl (zah rfl rfl rfl) (zcj rfl rfl) ?_ | refine zaq rfl rfl (zax rfl rfl rfl) ?_ | refine zaq rfl rfl (zav rfl rfl rfl) ?_)
  all_goals (first | refine zab rfl rfl (zaa rfl) (zbx rfl rfl rfl) ?_ | refine zab rfl rfl (zaa rfl) (zby rfl rfl rfl) ?_ | refine zab rfl rfl (zaa rfl) (zbk rfl rfl rfl) ?_ | refine zab rfl rfl (zaa rfl) (zbl rfl rfl rfl) ?_)
  all_goals refine zan ?_
  all_goals (repeat (first | refine zag ?_ | refine zar ?_ | refine zad ?_ | refine zas ?_ | refine zac ?_))
  all_goals (first | refine zbp rfl ?_ | refine zbm rfl ?_)
  all_goals (repeat (first | refine zag ?_ | refine zar ?_ | refine zad ?_ | refine zas ?_ | refine zac ?_))
  all_goals first
    | skip
      refine zaf ?_
      refine zab rfl rfl (zaa rfl) (mv_s (.inr rfl) rfl) ?_
      refine zan ?_
      repeat (first | refine zag ?_ | refine zar ?_ | refine zad ?_ | refine zas ?_ | refine zac ?_)
      (refine zbs ?_; repeat (first | refine zb8 ?_ | refine zb9 ?_))
      exact zcm (.inr rfl) rfl (congrArg eB (f1 (by rintro ⟨g1, g2⟩; first | exact Bool.noConfusion (g2.symm.trans h13) | omega)).symm)
    | skip
  refine zaf ?_
  refine zab rfl rfl (zaa rfl) (mv_s (.inr rfl) rfl) ?_
  refine zan ?_
  repeat (first | refine zag ?_ | refine zar ?_ | refine zad ?_ | refine zas ?_ | refine zac ?_)
  refine zcc (S := Nat) (fun k => [(1, eL eF y), (5, eI k)]) (fun _ => []) (fun k => k ≤ y.length ∧ ∀ j, j < k → 0 ≤ (gti y j).n) (fun k => y.length - k) 0 (zck [] (by decide) trivial ⟨.lo _ (by repeat' (first | exact Lo.s _ | exact zaj | refine zae ?_ ?_ | refine zak ?_ | refine Lo.cells ?_ | refine Lo.agg _ ?_ | refine Lo.ref _ ?_ | refine Lo.tup _ ?_ | refine Lo.fn _ _ ?_ | refine Lo.sl _ ?_ | intro _)), .lo _ (by repeat' (first | exact Lo.s _ | exact zaj | refine zae ?_ ?_ | refine zak ?_ | refine Lo.cells ?_ | refine Lo.agg _ ?_ | refine Lo.ref _ ?_ | refine Lo.tup _ ?_ | refine Lo.fn _ _ ?_ | refine Lo.sl _ ?_ | intro _)), trivial⟩) ⟨by omega, fun j hj => by omega⟩ (fun k hk => ?_)
  obtain ⟨hk, hall⟩ := hk
  repeat (first | refine zag ?_ | refine zar ?_ | refine zad ?_ | refine zas ?_ | refine zac ?_)
  all_goals refine zaf ?_
  all_goals refine zab rfl rfl (zaa rfl) (mv_s (.inl rfl) rfl) ?_
  all_goals (first | refine zab rfl rfl (zaa rfl) (za6 (.inl rfl) rfl) ?_ | refine zab rfl rfl (zaa rfl) (zbg (.inl rfl) rfl) ?_ | refine zab rfl rfl (zaa rfl) (mv_s (.inl rfl) rfl) ?_ | refine zab rfl rfl (zaa rfl) (za7 (.inl rfl) rfl) ?_)
  all_goals (first | refine zab rfl rfl (zaa rfl) (za4 rfl ts27 rfl) ?_ | refine zab rfl rfl (zaa rfl) (za8 rfl ts27 rfl) ?_ | refine zab rfl rfl (zaa rfl) (za2 rfl ts27 rfl) ?_ | refine zab rfl rfl (zaa rfl) (zbc rfl ts27 rfl) ?_ | refine zab rfl rfl (zaa rfl) (za3 rfl ts27 rfl) ?_)
  all_goals (first | refine zbh rfl rfl (zaa rfl) (zbb rfl rfl rfl) (fun h19 => ?_) (fun h19 => ?_) | refine zbi rfl rfl (zaa rfl) (zbb rfl rfl rfl) (fun h19 => ?_) (fun h19 => ?_))
  all_goals refine zan ?_
  all_goals (repeat (first | refine zag ?_ | refine zar ?_ | refine zad ?_ | refine zas ?_ | refine zac ?_))
  all_goals (first | refine zbp rfl ?_ | refine zbm rfl ?_)
  all_goals (repeat (first | refine zag ?_ | refine zar ?_ | refine zad ?_ | refine zas ?_ | refine zac ?_))
  · have hlt : k < y.length := by omega
    all_goals refine zaf ?_
    all_goals (first | refine zab rfl rfl (zaa rfl) (za6 (.inl rfl) rfl) ?_ | refine zab rfl rfl (zaa rfl) (zbg (.inl rfl) rfl) ?_ | refine zab rfl rfl (zaa rfl) (mv_s (.inl rfl) rfl) ?_ | refine zab rfl rfl (zaa rfl) (za7 (.inl rfl) rfl) ?_)
    all_goals refine zab rfl rfl (zaa rfl) (mv_s (.inl rfl) rfl) ?_
    all_goals (first | refine zab rfl rfl (zaa rfl) (za1 rfl ts27 ti41 rfl rfl rfl (zb5 (by omega)) rfl) ?_ | refine zab rfl rfl (zaa rfl) (zay rfl ts27 ti41 rfl rfl rfl (by omega)) ?_)
    all_goals (first | refine zab rfl rfl (zaa rfl) (zal rfl tf41_0 (by decide) rfl) ?_ | refine zab rfl rfl (zaa rfl) (zai rfl tf41_0 (by decide) rfl) ?_)
    all_goals (first | refine zab rfl rfl (zaa rfl) (zam rfl ta3 rfl) ?_ | refine zab rfl rfl (zaa rfl) (zap rfl ta3 rfl rfl rfl rfl rfl) ?_)
    all_goals (first | refine zbh rfl rfl (zaa rfl) (zbb rfl rfl rfl) (fun h27 => ?_) (fun h27 => ?_) | refine zbi rfl rfl (zaa rfl) (zbb rfl rfl rfl) (fun h27 => ?_) (fun h27 => ?_))
    all_goals refine zan ?_
    all_goals (repeat (first | refine zag ?_ | refine zar ?_ | refine zad ?_ | refine zas ?_ | refine zac ?_))
    all_goals (first | refine zbp rfl ?_ | refine zbm rfl ?_)
    all_goals (repeat (first | refine zag ?_ | refine zar ?_ | refine zad ?_ | refine zas ?_ | refine zac ?_))
    · skip
      refine zaf ?_
      refine zab rfl rfl (zaa rfl) (mv_s (.inr rfl) rfl) ?_
      refine zan ?_
      repeat (first | refine zag ?_ | refine zar ?_ | refine zad ?_ | refine zas ?_ | refine zac ?_)
      (refine zbs ?_; repeat (first | refine zb8 ?_ | refine zb9 ?_))
      exact zcm (.inr rfl) rfl (congrArg eB (f2 hlt (by omega)).symm)
    · skip
      refine zaf ?_
      refine zab rfl rfl (zaa rfl) (mv_s (.inl rfl) rfl) ?_
      refine zab rfl rfl (zaa rfl) (zb2 rfl rfl rfl (IntWalk.i64_in _ (by omega))) ?_
      refine zab rfl rfl (zaa rfl) (mv_s (.inr rfl) rfl) ?_
      refine zan ?_
      repeat (first | refine zag ?_ | refine zar ?_ | refine zad ?_ | refine zas ?_ | refine zac ?_)
      refine ⟨k + 1, ⟨by omega, fun i hi => ?_⟩, by omega, zck [] (by decide) trivial ⟨.lo _ (by repeat' (first | exact Lo.s _ | exact zaj | refine zae ?_ ?_ | refine zak ?_ | refine Lo.cells ?_ | refine Lo.agg _ ?_ | refine Lo.ref _ ?_ | refine Lo.tup _ ?_ | refine Lo.fn _ _ ?_ | refine Lo.sl _ ?_ | intro _)), .lo _ (by repeat' (first | exact Lo.s _ | exact zaj | refine zae ?_ ?_ | refine zak ?_ | refine Lo.cells ?_ | refine Lo.agg _ ?_ | refine Lo.ref _ ?_ | refine Lo.tup _ ?_ | refine Lo.fn _ _ ?_ | refine Lo.sl _ ?_ | intro _)), trivial⟩⟩
      by_cases e : i = k
      · subst e; omega
      · exact hall i (by omega)
  · (refine zcl ?_; repeat (first | refine ath_x ?_ | refine zci ?_ | refine zcb rfl ?_ | refine zas ?_ | refine zar ?_ | refine zag ?_ | refine zad ?_ | refine zac ?_))
    refine zaf ?_
    refine zab rfl rfl (zaa rfl) (mv_s (.inr rfl) rfl) ?_
    refine zan ?_
    repeat (first | refine zag ?_ | refine zar ?_ | refine zad ?_ | refine zas ?_ | refine zac ?_)
    (refine zbs ?_; repeat (first | refine zb8 ?_ | refine zb9 ?_))
    exact zcm (.inr rfl) rfl (congrArg eB (f3 (by omega) h13 (fun j hj => hall j (by omega))).symm)
end Go.Proofs.YtmoipmnhgdmkpaaGreat.Aw
end
section
namespace Go.Proofs.YtmoipmnhgdmkpaaGreat.Aw
set_option linter.unusedSimpArgs false
set_option linter.unusedVariables false
set_option linter.unusedSectionVars false
open Go.RowKit Go.Proofs
variable {P : Program} [IsP P]

set_option maxHeartbeats 4000000 in
theorem rBound_pf (d : List Int) (l : List Sft) (lo hi : List Int) (y : List Fr) (hv : zde d l = true) (hy : y.length = d.length) (hlo : lo.length = l.length) (hhi : hi.length = l.length) : Pure P 35 [eL eI d, eL eSh l, eL eI lo, eL eI hi, eL eF y] (eFB (bdE d l lo hi y)) := by
  obtain ⟨⟨q1, q2, q3⟩, qd, ql⟩ := zcz hv
  have HI : bdE d l lo hi y = if (dotE (d.map Fr.of) y).e ≠ 0 then (⟨0, 0⟩, false) else bdG l lo hi y l.length 0 ⟨(dotE (d.map Fr.of) y).n, (dotE (d.map Fr.of) y).d⟩ := rfl
  generalize bdE d l lo hi y = R at HI ⊢
  refine zc4 (by rw [IsP.eq (P := P)]; exact Tryz.func35) rfl rfl rfl rfl rfl (by repeat' (first | exact Lo.s _ | exact zaj | refine zae ?_ ?_ | refine zak ?_ | refine Lo.cells ?_ | refine Lo.agg _ ?_ | refine Lo.ref _ ?_ | refine Lo.tup _ ?_ | refine Lo.fn _ _ ?_ | refine Lo.sl _ ?_ | intro _)) (by repeat' (first | exact Lo.s _ | exact zaj | refine zae ?_ ?_ | refine zak ?_ | refine Lo.cells ?_ | refine Lo.agg _ ?_ | refine Lo.ref _ ?_ | refine Lo.tup _ ?_ | refine Lo.fn _ _ ?_ | refine Lo.sl _ ?_ | intro _)) (by simp only [argF]; rfl) ?_
  repeat (first | refine zag ?_ | refine zar ?_ | refine zad ?_ | refine zas ?_ | refine zac ?_)
  refine zaf ?_
  refine zab rfl rfl (zaa rfl) (zbr rfl ti41 rfl rfl) ?_
  refine zab rfl rfl (zaa rfl) (mv_s (.inr rfl) rfl) ?_
  refine zan ?_
  repeat (first | refine zag ?_ | refine zar ?_ | refine zad ?_ | refine zas ?_ | refine zac ?_)
  refine zaf ?_
  first | refine zab rfl rfl (zaa rfl) (za6 (.inr rfl) rfl) ?_ | refine zab rfl rfl (zaa rfl) (zbg (.inr rfl) rfl) ?_ | refine zab rfl rfl (zaa rfl) (mv_s (.inr rfl) rfl) ?_ | refine zab rfl rfl (zaa rfl) (za7 (.inr rfl) rfl) ?_
  refine zan ?_
  repeat (first | refine zag ?_ | refine zar ?_ | refine zad ?_ | refine zas ?_ | refine zac ?_)
  refine zaf ?_
  refine zab rfl rfl (zaa rfl) (mv_s (.inr rfl) rfl) ?_
  refine zan ?_
  repeat (first | refine zag ?_ | refine zar ?_ | refine zad ?_ | refine zas ?_ | refine zac ?_)
  refine zca (wk_own (d := 12) 2 rfl (.inr rfl)) ?_
  refine zcc (S := Nat) (fun k => [(0, eL eI d), (1, eL eSh l), (2, eL eI lo), (3, eL eI hi), (4, eL eF y), (10, .ptr 0 2 0 0), (12, .own 1 2 k), (13, eI k)]) (fun k => [.row 2 [.agg [eI 0, eI 0]], .row 2 (((d.map Fr.of).take k).map eF)]) (fun k => k ≤ d.length) (fun k => d.length - k) 0 (zck [0, 1] (by decide) ⟨⟨_, rfl, .rowE (by repeat' (first | exact Lo.s _ | exact zaj | exact zbn | refine zae ?_ ?_ | refine zbe ?_ ?_ | refine zak ?_ | refine zbo ?_ | refine Lo.cells ?_ | refine Lo.agg _ ?_ | refine Lo.sl _ ?_ | intro _)) rfl⟩, ⟨_, rfl, .rowE (by repeat' (first | exact Lo.s _ | exact zaj | exact zbn | refine zae ?_ ?_ | refine zbe ?_ ?_ | refine zak ?_ | refine zbo ?_ | refine Lo.cells ?_ | refine Lo.agg _ ?_ | refine Lo.sl _ ?_ | intro _)) rfl⟩, trivial⟩ ⟨.lo _ (by repeat' (first | exact Lo.s _ | exact zaj | refine zae ?_ ?_ | refine zak ?_ | refine Lo.cells ?_ | refine Lo.agg _ ?_ | refine Lo.ref _ ?_ | refine Lo.tup _ ?_ | refine Lo.fn _ _ ?_ | refine Lo.sl _ ?_ | intro _)), .lo _ (by repeat' (first | exact Lo.s _ | exact zaj | refine zae ?_ ?_ | refine zak ?_ | refine Lo.cells ?_ | refine Lo.agg _ ?_ | refine Lo.ref _ ?_ | refine Lo.tup _ ?_ | refine Lo.fn _ _ ?_ | refine Lo.sl _ ?_ | intro _)), .lo _ (by repeat' (first | exact Lo.s _ | exact zaj | refine zae ?_ ?_ | refine zak ?_ | refine Lo.cells ?_ | refine Lo.agg _ ?_ | refine Lo.ref _ ?_ | refine Lo.tup _ ?_ | refine Lo.fn _ _ ?_ | refine Lo.sl _ ?_ | intro _)), .lo _ (by repeat' (first | exact Lo.s _ | exact zaj | refine zae ?_ ?_ | refine zak ?_ | refine Lo.cells ?_ | refine Lo.agg _ ?_ | refine Lo.ref _ ?_ | refine Lo.tup _ ?_ | refine Lo.fn _ _ ?_ | refine Lo.sl _ ?_ | intro _)), .lo _ (by repeat' (first | exact Lo.s _ | exact zaj | refine zae ?_ ?_ | refine zak ?_ | refine Lo.cells ?_ | refine Lo.agg _ ?_ | refine Lo.ref _ ?_ | refine Lo.tup _ ?_ | refine Lo.fn _ _ ?_ | refine Lo.sl _ ?_ | intro _)), .ptr 0 0 2 0 0 rfl, .own 1 1 2 _ _ rfl rfl, .lo _ (by repeat' (first | exact Lo.s _ | exact zaj | refine zae ?_ ?_ | refine zak ?_ | refine Lo.cells ?_ | refine Lo.agg _ ?_ | refine Lo.ref _ ?_ | refine Lo.tup _ ?_ | refine Lo.fn _ _ ?_ | refine Lo.sl _ ?_ | intro _)), trivial⟩) (Nat.zero_le _) (fun k hk => ?_)
  have hol : (d.map Fr.of).length = d.length := by simp
  repeat (first | refine zag ?_ | refine zar ?_ | refine zad ?_ | refine zas ?_ | refine zac ?_)
  all_goals refine zaf ?_
  all_goals refine zab rfl rfl (zaa rfl) (mv_s (.inl rfl) rfl) ?_
  all_goals (first | refine zab rfl rfl (zaa rfl) (za6 (.inl rfl) rfl) ?_ | refine zab rfl rfl (zaa rfl) (zbg (.inl rfl) rfl) ?_ | refine zab rfl rfl (zaa rfl) (mv_s (.inl rfl) rfl) ?_ | refine zab rfl rfl (zaa rfl) (za7 (.inl rfl) rfl) ?_)
  all_goals (first | refine zab rfl rfl (zaa rfl) (za4 rfl ts22 rfl) ?_ | refine zab rfl rfl (zaa rfl) (za8 rfl ts22 rfl) ?_ | refine zab rfl rfl (zaa rfl) (za2 rfl ts22 rfl) ?_ | refine zab rfl rfl (zaa rfl) (zbc rfl ts22 rfl) ?_ | refine zab rfl rfl (zaa rfl) (za3 rfl ts22 rfl) ?_)
  all_goals (first | refine zbh rfl rfl (zaa rfl) (zbb rfl rfl rfl) (fun h27 => ?_) (fun h27 => ?_) | refine zbi rfl rfl (zaa rfl) (zbb rfl rfl rfl) (fun h27 => ?_) (fun h27 => ?_))
  all_goals refine zan ?_
  all_goals (repeat (first | refine zag ?_ | refine zar ?_ | refine zad ?_ | refine zas ?_ | refine zac ?_))
  all_goals (first | refine zbp rfl ?_ | refine zbm rfl ?_)
  all_goals (repeat (first | refine zag ?_ | refine zar ?_ | refine zad ?_ | refine zas ?_ | refine zac ?_))
  · have hlt : k < d.length := by omega
    have htk : (((d.map Fr.of).take k).map eF).length = k := by simp; omega
    have hrow : ((d.map Fr.of).take (k + 1)).map eF = ((d.map Fr.of).take k).map eF ++ [eF (Fr.of (gti d k))] := by
      rw [take_snoc (by omega), List.map_append, ofL_gti hlt]; rfl
    refine zaf ?_
    first | refine zab rfl rfl (zaa rfl) (za6 (.inl rfl) rfl) ?_ | refine zab rfl rfl (zaa rfl) (zbg (.inl rfl) rfl) ?_ | refine zab rfl rfl (zaa rfl) (mv_s (.inl rfl) rfl) ?_ | refine zab rfl rfl (zaa rfl) (za7 (.inl rfl) rfl) ?_
    first | refine zab rfl rfl (zaa rfl) (za6 (.inl rfl) rfl) ?_ | refine zab rfl rfl (zaa rfl) (zbg (.inl rfl) rfl) ?_ | refine zab rfl rfl (zaa rfl) (mv_s (.inl rfl) rfl) ?_ | refine zab rfl rfl (zaa rfl) (za7 (.inl rfl) rfl) ?_
    refine zab rfl rfl (zaa rfl) (mv_s (.inl rfl) rfl) ?_
    first | refine zab rfl rfl (zaa rfl) (za1 rfl ts22 ti3 rfl rfl rfl (zb5 (by omega)) rfl) ?_ | refine zab rfl rfl (zaa rfl) (zay rfl ts22 ti3 rfl rfl rfl (by omega)) ?_
    first | refine zab rfl rfl (zaa rfl) (zam rfl ta3 rfl) ?_ | refine zab rfl rfl (zaa rfl) (zap rfl ta3 rfl rfl rfl rfl rfl) ?_
    refine zab rfl rfl (zaa rfl) (za5 rfl rfl (rOf_pf _) (zau rfl zbj)) ?_
    first | refine zab rfl rfl (zaa rfl) (lit1_sF rfl ts27 ti41 rfl rfl rfl rfl) ?_ | refine zab rfl rfl (zaa rfl) (lit1_slF rfl ts27 ti41 rfl rfl rfl rfl (by repeat' (first | exact Lo.s _ | exact zaj | refine zae ?_ ?_ | refine zak ?_ | refine Lo.cells ?_ | refine Lo.agg _ ?_ | refine Lo.ref _ ?_ | refine Lo.tup _ ?_ | refine Lo.fn _ _ ?_ | refine Lo.sl _ ?_ | intro _))) ?_ | refine zab rfl rfl (zaa rfl) (zdl rfl ts27 ti41 rfl rfl (by decide) (by decide) rfl rfl rfl (by repeat' (first | exact Lo.s _ | exact zaj | refine zae ?_ ?_ | refine zak ?_ | refine Lo.cells ?_ | refine Lo.agg _ ?_ | refine Lo.ref _ ?_ | refine Lo.tup _ ?_ | refine Lo.fn _ _ ?_ | refine Lo.sl _ ?_ | intro _))) ?_
    first | refine zab rfl rfl (zaa rfl) (zcx rfl ts27 ti41 rfl (by decide) rfl rfl (by first | rfl | (simp; done) | (simp; omega)) rfl (by first | exact .own _ _ _ rfl rfl _ (by first | rfl | simp) | exact .emp | exact .nil | exact .sl _ (by first | simp; done | intro e he; simp at he; obtain ⟨_, _, rfl⟩ := he; rfl)) (by first | omega | (simp; omega) | (unfold maxLen; simp; omega)) (by first | omega | (simp; omega) | (unfold maxLen; simp; omega))) ?_ | refine zab rfl rfl (zaa rfl) (zb1 rfl ts27 ti41 rfl (by decide) rfl (.inl rfl) rfl (by first | exact .own _ _ _ rfl rfl _ (by first | rfl | simp) | exact .emp | exact .nil | exact .sl _ (by first | simp; done | intro e he; simp at he; obtain ⟨_, _, rfl⟩ := he; rfl)) (by first | omega | (simp; omega) | (unfold maxLen; simp; omega)) (by first | omega | (simp; omega) | (unfold maxLen; simp; omega))) ?_ | refine zab rfl rfl (zaa rfl) (zb1 rfl ts27 ti41 rfl (by decide) rfl (.inr rfl) rfl (by first | exact .own _ _ _ rfl rfl _ (by first | rfl | simp) | exact .emp | exact .nil | exact .sl _ (by first | simp; done | intro e he; simp at he; obtain ⟨_, _, rfl⟩ := he; rfl)) (by first | omega | (simp; omega) | (unfold maxLen; simp; omega)) (by first | omega | (simp; omega) | (unfold maxLen; simp; omega))) ?_
    first | refine zab rfl rfl (zaa rfl) (za6 (.inr rfl) rfl) ?_ | refine zab rfl rfl (zaa rfl) (zbg (.inr rfl) rfl) ?_ | refine zab rfl rfl (zaa rfl) (mv_s (.inr rfl) rfl) ?_ | refine zab rfl rfl (zaa rfl) (za7 (.inr rfl) rfl) ?_
    refine zan ?_
    repeat (first | refine zag ?_ | refine zar ?_ | refine zad ?_ | refine zas ?_ | refine zac ?_)
    refine zaf ?_
    refine zab rfl rfl (zaa rfl) (mv_s (.inl rfl) rfl) ?_
    refine zab rfl rfl (zaa rfl) (zb2 rfl rfl rfl (IntWalk.i64_in _ (by omega))) ?_
    refine zab rfl rfl (zaa rfl) (mv_s (.inr rfl) rfl) ?_
    refine zan ?_
    repeat (first | refine zag ?_ | refine zar ?_ | refine zad ?_ | refine zas ?_ | refine zac ?_)
    exact ⟨k + 1, by omega, by omega, zck [0, 2] (by decide) ⟨⟨_, rfl, .rowE (by repeat' (first | exact Lo.s _ | exact zaj | exact zbn | refine zae ?_ ?_ | refine zbe ?_ ?_ | refine zak ?_ | refine zbo ?_ | refine Lo.cells ?_ | refine Lo.agg _ ?_ | refine Lo.sl _ ?_ | intro _)) rfl⟩, ⟨_, rfl, .rowE (by repeat' (first | exact Lo.s _ | exact zaj | exact zbn | refine zae ?_ ?_ | refine zbe ?_ ?_ | refine zak ?_ | refine zbo ?_ | refine Lo.cells ?_ | refine Lo.agg _ ?_ | refine Lo.sl _ ?_ | intro _)) (Eq.trans (b := ((d.map Fr.of).take k).map eF ++ [eF (Fr.of (gti d k))]) rfl hrow.symm)⟩, trivial⟩ ⟨.lo _ (by repeat' (first | exact Lo.s _ | exact zaj | refine zae ?_ ?_ | refine zak ?_ | refine Lo.cells ?_ | refine Lo.agg _ ?_ | refine Lo.ref _ ?_ | refine Lo.tup _ ?_ | refine Lo.fn _ _ ?_ | refine Lo.sl _ ?_ | intro _)), .lo _ (by repeat' (first | exact Lo.s _ | exact zaj | refine zae ?_ ?_ | refine zak ?_ | refine Lo.cells ?_ | refine Lo.agg _ ?_ | refine Lo.ref _ ?_ | refine Lo.tup _ ?_ | refine Lo.fn _ _ ?_ | refine Lo.sl _ ?_ | intro _)), .lo _ (by repeat' (first | exact Lo.s _ | exact zaj | refine zae ?_ ?_ | refine zak ?_ | refine Lo.cells ?_ | refine Lo.agg _ ?_ | refine Lo.ref _ ?_ | refine Lo.tup _ ?_ | refine Lo.fn _ _ ?_ | refine Lo.sl _ ?_ | intro _)), .lo _ (by repeat' (first | exact Lo.s _ | exact zaj | refine zae ?_ ?_ | refine zak ?_ | refine Lo.cells ?_ | refine Lo.agg _ ?_ | refine Lo.ref _ ?_ | refine Lo.tup _ ?_ | refine Lo.fn _ _ ?_ | refine Lo.sl _ ?_ | intro _)), .lo _ (by repeat' (first | exact Lo.s _ | exact zaj | refine zae ?_ ?_ | refine zak ?_ | refine Lo.cells ?_ | refine Lo.agg _ ?_ | refine Lo.ref _ ?_ | refine Lo.tup _ ?_ | refine Lo.fn _ _ ?_ | refine Lo.sl _ ?_ | intro _)), .ptr 0 0 2 0 0 rfl, .own 2 1 2 _ _ rfl (by simp; omega), .lo _ (by repeat' (first | exact Lo.s _ | exact zaj | refine zae ?_ ?_ | refine zak ?_ | refine Lo.cells ?_ | refine Lo.agg _ ?_ | refine Lo.ref _ ?_ | refine Lo.tup _ ?_ | refine Lo.fn _ _ ?_ | refine Lo.sl _ ?_ | intro _)), trivial⟩⟩
  (refine zcl ?_; repeat (first | refine ath_x ?_ | refine zci ?_ | refine zcb rfl ?_ | refine zas ?_ | refine zar ?_ | refine zag ?_ | refine zad ?_ | refine zac ?_))
  have e : (d.map Fr.of).take k = d.map Fr.of := List.take_of_length_le (by omega)
  rw [e]
  have hdot := rDot_pf (P := P) (d.map Fr.of) y
  generalize dotE (d.map Fr.of) y = dt at HI hdot
  refine zaf ?_
  first | refine zab rfl rfl (zaa rfl) (za6 (.inl rfl) rfl) ?_ | refine zab rfl rfl (zaa rfl) (zbg (.inl rfl) rfl) ?_ | refine zab rfl rfl (zaa rfl) (mv_s (.inl rfl) rfl) ?_ | refine zab rfl rfl (zaa rfl) (za7 (.inl rfl) rfl) ?_
  refine zbq (zcd (id := 1) rfl) (zbq (wk_sl (d := 39) rfl rfl (by first | rfl | (simp; done) | (simp; omega))) ?_)
  first | refine zab rfl rfl (zaa rfl) (za6 (.inl rfl) rfl) ?_ | refine zab rfl rfl (zaa rfl) (zbg (.inl rfl) rfl) ?_ | refine zab rfl rfl (zaa rfl) (mv_s (.inl rfl) rfl) ?_ | refine zab rfl rfl (zaa rfl) (za7 (.inl rfl) rfl) ?_
  refine zab rfl rfl (zaa rfl) (za5 rfl rfl (hdot) (zau rfl (zau rfl zbj))) ?_
  first | refine zab rfl rfl (zaa rfl) (mv_tup (.inl rfl) rfl) ?_ | refine zab rfl rfl (zaa rfl) (mv_s (.inl rfl) rfl) ?_
  refine zab rfl rfl (zaa rfl) (zbf rfl rfl rfl) ?_
  refine zab rfl rfl (zaa rfl) (zbf rfl rfl rfl) ?_
  refine zab rfl rfl (zaa rfl) (zbr rfl ti41 rfl rfl) ?_
  refine zb0 rfl (zaa rfl) (zbd rfl ti41 rfl rfl rfl rfl rfl rfl (by decide) (by decide)) ?_
  refine zab rfl rfl (zaa rfl) (mv_s (.inr rfl) rfl) ?_
  refine zan ?_
  repeat (first | refine zag ?_ | refine zar ?_ | refine zad ?_ | refine zas ?_ | refine zac ?_)
  all_goals refine zaf ?_
  all_goals refine zab rfl rfl (zaa rfl) (mv_s (.inl rfl) rfl) ?_
  all_goals (first | refine zbh rfl rfl (zaa rfl) (zbv rfl rfl rfl) (fun h45 => ?_) (fun h45 => ?_) | refine zbi rfl rfl (zaa rfl) (zbv rfl rfl rfl) (fun h45 => ?_) (fun h45 => ?_))
  all_goals refine zan ?_
  all_goals (repeat (first | refine zag ?_ | refine zar ?_ | refine zad ?_ | refine zas ?_ | refine zac ?_))
  all_goals (first | refine zbp rfl ?_ | refine zbm rfl ?_)
  all_goals (repeat (first | refine zag ?_ | refine zar ?_ | refine zad ?_ | refine zas ?_ | refine zac ?_))
  · rw [if_pos (by omega)] at HI
    refine zaf ?_
    refine zab rfl rfl (zaa rfl) (zb7 rfl ti41 tp41 rfl rfl) ?_
    refine zb0 rfl (zaa rfl) (zbd rfl ti41 rfl rfl rfl rfl rfl rfl (by decide) (by decide)) ?_
    refine zab rfl rfl (zaa rfl) (mv_s (.inr rfl) rfl) ?_
    refine zan ?_
    repeat (first | refine zag ?_ | refine zar ?_ | refine zad ?_ | refine zas ?_ | refine zac ?_)
    (refine zbs ?_; repeat (first | refine zb8 ?_ | refine zb9 ?_))
    exact zc6 (.inr rfl) ta41 ti41 rfl rfl rfl rfl rfl rfl (by rw [HI]; rfl)
  rw [if_neg (by omega)] at HI
  refine zaf ?_
  refine zab rfl rfl (zaa rfl) (mv_s (.inr rfl) rfl) ?_
  refine zan ?_
  repeat (first | refine zag ?_ | refine zar ?_ | refine zad ?_ | refine zas ?_ | refine zac ?_)
  refine zcc (S := Fr × Nat) (fun s => [(1, eL eSh l), (2, eL eI lo), (3, eL eI hi), (4, eL eF y), (10, .ptr 0 2 0 0), (14, .ptr 1 2 0 0), (16, eI s.2)]) (fun s => [.row 2 [.agg [eI 0, eI 0]], .row 2 [eF s.1]]) (fun s => s.2 ≤ l.length ∧ R = bdG l lo hi y (l.length - s.2) s.2 s.1) (fun s => l.length - s.2) (⟨dt.n, dt.d⟩, 0) (zck [0, 2] (by decide) ⟨⟨_, rfl, .rowE (by repeat' (first | exact Lo.s _ | exact zaj | exact zbn | refine zae ?_ ?_ | refine zbe ?_ ?_ | refine zak ?_ | refine zbo ?_ | refine Lo.cells ?_ | refine Lo.agg _ ?_ | refine Lo.sl _ ?_ | intro _)) rfl⟩, ⟨_, rfl, .rowE (by repeat' (first | exact Lo.s _ | exact zaj | exact zbn | refine zae ?_ ?_ | refine zbe ?_ ?_ | refine zak ?_ | refine zbo ?_ | refine Lo.cells ?_ | refine Lo.agg _ ?_ | refine Lo.sl _ ?_ | intro _)) rfl⟩, trivial⟩ ⟨.lo _ (by repeat' (first | exact Lo.s _ | exact zaj | refine zae ?_ ?_ | refine zak ?_ | refine Lo.cells ?_ | refine Lo.agg _ ?_ | refine Lo.ref _ ?_ | refine Lo.tup _ ?_ | refine Lo.fn _ _ ?_ | refine Lo.sl _ ?_ | intro _)), .lo _ (by repeat' (first | exact Lo.s _ | exact zaj | refine zae ?_ ?_ | refine zak ?_ | refine Lo.cells ?_ | refine Lo.agg _ ?_ | refine Lo.ref _ ?_ | refine Lo.tup _ ?_ | refine Lo.fn _ _ ?_ | refine Lo.sl _ ?_ | intro _)), .lo _ (by repeat' (first | exact Lo.s _ | exact zaj | refine zae ?_ ?_ | refine zak ?_ | refine Lo.cells ?_ | refine Lo.agg _ ?_ | refine Lo.ref _ ?_ | refine Lo.tup _ ?_ | refine Lo.fn _ _ ?_ | refine Lo.sl _ ?_ | intro _)), .lo _ (by repeat' (first | exact Lo.s _ | exact zaj | refine zae ?_ ?_ | refine zak ?_ | refine Lo.cells ?_ | refine Lo.agg _ ?_ | refine Lo.ref _ ?_ | refine Lo.tup _ ?_ | refine Lo.fn _ _ ?_ | refine Lo.sl _ ?_ | intro _)), .ptr 0 0 2 0 0 rfl, .ptr 2 1 2 0 0 rfl, .lo _ (by repeat' (first | exact Lo.s _ | exact zaj | refine zae ?_ ?_ | refine zak ?_ | refine Lo.cells ?_ | refine Lo.agg _ ?_ | refine Lo.ref _ ?_ | refine Lo.tup _ ?_ | refine Lo.fn _ _ ?_ | refine Lo.sl _ ?_ | intro _)), trivial⟩) ⟨Nat.zero_le _, HI⟩ (fun s hs => ?_)
  obtain ⟨sm, i⟩ := s
  obtain ⟨hi1, HJ⟩ := hs
  dsimp only at hi1 HJ ⊢
  clear HI hdot e
  repeat (first | refine zag ?_ | refine zar ?_ | refine zad ?_ | refine zas ?_ | refine zac ?_)
  all_goals refine zaf ?_
  all_goals refine zab rfl rfl (zaa rfl) (mv_s (.inl rfl) rfl) ?_
  all_goals (first | refine zab rfl rfl (zaa rfl) (za6 (.inl rfl) rfl) ?_ | refine zab rfl rfl (zaa rfl) (zbg (.inl rfl) rfl) ?_ | refine zab rfl rfl (zaa rfl) (mv_s (.inl rfl) rfl) ?_ | refine zab rfl rfl (zaa rfl) (za7 (.inl rfl) rfl) ?_)
  all_goals (first | refine zab rfl rfl (zaa rfl) (za4 rfl ts23 rfl) ?_ | refine zab rfl rfl (zaa rfl) (za8 rfl ts23 rfl) ?_ | refine zab rfl rfl (zaa rfl) (za2 rfl ts23 rfl) ?_ | refine zab rfl rfl (zaa rfl) (zbc rfl ts23 rfl) ?_ | refine zab rfl rfl (zaa rfl) (za3 rfl ts23 rfl) ?_)
  all_goals (first | refine zbh rfl rfl (zaa rfl) (zbb rfl rfl rfl) (fun h50 => ?_) (fun h50 => ?_) | refine zbi rfl rfl (zaa rfl) (zbb rfl rfl rfl) (fun h50 => ?_) (fun h50 => ?_))
  all_goals refine zan ?_
  all_goals (repeat (first | refine zag ?_ | refine zar ?_ | refine zad ?_ | refine zas ?_ | refine zac ?_))
  all_goals (first | refine zbp rfl ?_ | refine zbm rfl ?_)
  all_goals (repeat (first | refine zag ?_ | refine zar ?_ | refine zad ?_ | refine zas ?_ | refine zac ?_))
  · have hlt : i < l.length := by omega
    rw [show l.length - i = (l.length - (i + 1)) + 1 by omega, bdG] at HJ
    obtain ⟨sf, hsf⟩ : ∃ sf, gti l i = sf := ⟨_, rfl⟩
    have hix : (l.map eSh)[i]? = some (eSh sf) := by rw [← hsf]; exact zb5 hlt
    have hsl := (ql i hlt).2
    rw [hsf] at hsl HJ
    refine zaf ?_
    first | refine zab rfl rfl (zaa rfl) (za6 (.inl rfl) rfl) ?_ | refine zab rfl rfl (zaa rfl) (zbg (.inl rfl) rfl) ?_ | refine zab rfl rfl (zaa rfl) (mv_s (.inl rfl) rfl) ?_ | refine zab rfl rfl (zaa rfl) (za7 (.inl rfl) rfl) ?_
    refine zab rfl rfl (zaa rfl) (mv_s (.inl rfl) rfl) ?_
    first | refine zab rfl rfl (zaa rfl) (za1 rfl ts23 ti36 rfl rfl rfl hix rfl) ?_ | refine zab rfl rfl (zaa rfl) (zay rfl ts23 ti36 rfl rfl rfl hix) ?_
    first | refine zab rfl rfl (zaa rfl) (zal rfl tf36_1 (by decide) rfl) ?_ | refine zab rfl rfl (zaa rfl) (zai rfl tf36_1 (by decide) rfl) ?_
    first | refine zab rfl rfl (zaa rfl) (zam rfl ta3 rfl) ?_ | refine zab rfl rfl (zaa rfl) (zap rfl ta3 rfl rfl rfl rfl rfl) ?_
    refine zab rfl rfl (zaa rfl) (za5 rfl rfl (rOf_pf _) (zau rfl zbj)) ?_
    refine zab rfl rfl (zaa rfl) (zbr rfl ti41 rfl rfl) ?_
    refine zb0 rfl (zaa rfl) (zbd rfl ti41 rfl rfl rfl rfl rfl rfl (by decide) (by decide)) ?_
    refine zan ?_
    repeat (first | refine zag ?_ | refine zar ?_ | refine zad ?_ | refine zas ?_ | refine zac ?_)
    refine zaf ?_
    refine zab rfl rfl (zaa rfl) (mv_s (.inr rfl) rfl) ?_
    refine zan ?_
    repeat (first | refine zag ?_ | refine zar ?_ | refine zad ?_ | refine zas ?_ | refine zac ?_)
    obtain ⟨pe, hpe⟩ : ∃ pe, pe = prE y sf := ⟨_, rfl⟩
    rw [← hpe] at HJ
    have HK : pe = prG y sf.pd sf.pd.length 0 (Fr.of sf.cost) := hpe
    clear hpe
    refine zcc (S := Fr × Nat) (fun s => [(1, eL eSh l), (2, eL eI lo), (3, eL eI hi), (4, eL eF y), (10, .ptr 0 2 0 0), (14, .ptr 1 2 0 0), (16, eI i), (17, .ptr 2 2 0 0), (18, eI s.2)]) (fun s => [.row 2 [.agg [eI 0, eI 0]], .row 2 [eF sm], .row 2 [eF s.1]]) (fun s => s.2 ≤ sf.pd.length ∧ pe = prG y sf.pd (sf.pd.length - s.2) s.2 s.1) (fun s => sf.pd.length - s.2) (Fr.of sf.cost, 0) (zck [0, 1, 2] (by decide) ⟨⟨_, rfl, .rowE (by repeat' (first | exact Lo.s _ | exact zaj | exact zbn | refine zae ?_ ?_ | refine zbe ?_ ?_ | refine zak ?_ | refine zbo ?_ | refine Lo.cells ?_ | refine Lo.agg _ ?_ | refine Lo.sl _ ?_ | intro _)) rfl⟩, ⟨_, rfl, .rowE (by repeat' (first | exact Lo.s _ | exact zaj | exact zbn | refine zae ?_ ?_ | refine zbe ?_ ?_ | refine zak ?_ | refine zbo ?_ | refine Lo.cells ?_ | refine Lo.agg _ ?_ | refine Lo.sl _ ?_ | intro _)) rfl⟩, ⟨_, rfl, .rowE (by repeat' (first | exact Lo.s _ | exact zaj | exact zbn | refine zae ?_ ?_ | refine zbe ?_ ?_ | refine zak ?_ | refine zbo ?_ | refine Lo.cells ?_ | refine Lo.agg _ ?_ | refine Lo.sl _ ?_ | intro _)) rfl⟩, trivial⟩ ⟨.lo _ (by repeat' (first | exact Lo.s _ | exact zaj | refine zae ?_ ?_ | refine zak ?_ | refine Lo.cells ?_ | refine Lo.agg _ ?_ | refine Lo.ref _ ?_ | refine Lo.tup _ ?_ | refine Lo.fn _ _ ?_ | refine Lo.sl _ ?_ | intro _)), .lo _ (by repeat' (first | exact Lo.s _ | exact zaj | refine zae ?_ ?_ | refine zak ?_ | refine Lo.cells ?_ | refine Lo.agg _ ?_ | refine Lo.ref _ ?_ | refine Lo.tup _ ?_ | refine Lo.fn _ _ ?_ | refine Lo.sl _ ?_ | intro _)), .lo _ (by repeat' (first | exact Lo.s _ | exact zaj | refine zae ?_ ?_ | refine zak ?_ | refine Lo.cells ?_ | refine Lo.agg _ ?_ | refine Lo.ref _ ?_ | refine Lo.tup _ ?_ | refine Lo.fn _ _ ?_ | refine Lo.sl _ ?_ | intro _)), .lo _ (by repeat' (first | exact Lo.s _ | exact zaj | refine zae ?_ ?_ | refine zak ?_ | refine Lo.cells ?_ | refine Lo.agg _ ?_ | refine Lo.ref _ ?_ | refine Lo.tup _ ?_ | refine Lo.fn _ _ ?_ | refine Lo.sl _ ?_ | intro _)), .ptr 0 0 2 0 0 rfl, .ptr 1 1 2 0 0 rfl, .lo _ (by repeat' (first | exact Lo.s _ | exact zaj | refine zae ?_ ?_ | refine zak ?_ | refine Lo.cells ?_ | refine Lo.agg _ ?_ | refine Lo.ref _ ?_ | refine Lo.tup _ ?_ | refine Lo.fn _ _ ?_ | refine Lo.sl _ ?_ | intro _)), .ptr 2 2 2 0 0 rfl, .lo _ (by repeat' (first | exact Lo.s _ | exact zaj | refine zae ?_ ?_ | refine zak ?_ | refine Lo.cells ?_ | refine Lo.agg _ ?_ | refine Lo.ref _ ?_ | refine Lo.tup _ ?_ | refine Lo.fn _ _ ?_ | refine Lo.sl _ ?_ | intro _)), trivial⟩) ⟨Nat.zero_le _, HK⟩ (fun s hs => ?_)
    obtain ⟨pr, j⟩ := s
    obtain ⟨hj, HK⟩ := hs
    dsimp only at hj HK ⊢
    repeat (first | refine zag ?_ | refine zar ?_ | refine zad ?_ | refine zas ?_ | refine zac ?_)
    refine zaf ?_
    refine zab rfl rfl (zaa rfl) (mv_s (.inl rfl) rfl) ?_
    first | refine zab rfl rfl (zaa rfl) (za6 (.inl rfl) rfl) ?_ | refine zab rfl rfl (zaa rfl) (zbg (.inl rfl) rfl) ?_ | refine zab rfl rfl (zaa rfl) (mv_s (.inl rfl) rfl) ?_ | refine zab rfl rfl (zaa rfl) (za7 (.inl rfl) rfl) ?_
    refine zab rfl rfl (zaa rfl) (mv_s (.inl rfl) rfl) ?_
    first | refine zab rfl rfl (zaa rfl) (za1 rfl ts23 ti36 rfl rfl rfl hix rfl) ?_ | refine zab rfl rfl (zaa rfl) (zay rfl ts23 ti36 rfl rfl rfl hix) ?_
    first | refine zab rfl rfl (zaa rfl) (zal rfl zc0 (by decide) rfl) ?_ | refine zab rfl rfl (zaa rfl) (zai rfl zc0 (by decide) rfl) ?_
    first | refine zab rfl rfl (zaa rfl) (zam rfl ta22 rfl) ?_ | refine zab rfl rfl (zaa rfl) (zap rfl ta22 rfl rfl rfl rfl rfl) ?_
    first | refine zab rfl rfl (zaa rfl) (za4 rfl ts22 rfl) ?_ | refine zab rfl rfl (zaa rfl) (za8 rfl ts22 rfl) ?_ | refine zab rfl rfl (zaa rfl) (za2 rfl ts22 rfl) ?_ | refine zab rfl rfl (zaa rfl) (zbc rfl ts22 rfl) ?_ | refine zab rfl rfl (zaa rfl) (za3 rfl ts22 rfl) ?_
    refine zab rfl rfl (zaa rfl) (zbb rfl rfl rfl) ?_
    refine zan ?_
    repeat (first | refine zag ?_ | refine zar ?_ | refine zad ?_ | refine zas ?_ | refine zac ?_)
    refine zc5 (d := 64) rfl (fun hm3 => ?_)
    unfold maxLen at hm3
    refine aw_if rfl (fun h => ?_) (fun h => ?_)
    · repeat (first | refine zag ?_ | refine zar ?_ | refine zad ?_ | refine zas ?_ | refine zac ?_)
      have hlt2 : j < sf.pd.length := by omega
      obtain ⟨g1, g2, g3⟩ := hsl j hlt2
      obtain ⟨p, hp⟩ : ∃ p : Nat, gti sf.pd j = (p : Int) := ⟨(gti sf.pd j).toNat, by omega⟩
      have hpy : p < y.length := by omega
      rw [show sf.pd.length - j = (sf.pd.length - (j + 1)) + 1 by omega, prG, hp, Int.toNat_natCast] at HK
      have hsub := rSub_pf (P := P) pr (gti y p)
      generalize subE pr (gti y p) = x at HK hsub
      all_goals refine zch hmix ?_
      all_goals refine zda ?_
      all_goals (first | refine zao rfl rfl (zaa rfl) (fun _ => (za0 rfl ta41 ti41 rfl rfl)) ?_ | refine zbz rfl rfl (zaa rfl) (zce rfl ta41 ti41 rfl rfl rfl rfl rfl) ?_ | refine zao rfl rfl (zaa rfl) (fun _ => (zaz rfl ta41 ti41 rfl (Nat.le_of_ble_eq_true rfl))) ?_ | refine zbz rfl rfl (zaa rfl) (zcn rfl ta41 ti41 rfl rfl rfl rfl (Nat.le_of_ble_eq_true rfl)) ?_)
      all_goals (first | refine zao rfl rfl (zaa rfl) (fun _ => (za6 (.inl rfl) rfl)) ?_ | refine zao rfl rfl (zaa rfl) (fun _ => (zbg (.inl rfl) rfl)) ?_ | refine zao rfl rfl (zaa rfl) (fun _ => (mv_s (.inl rfl) rfl)) ?_ | refine zao rfl rfl (zaa rfl) (fun _ => (za7 (.inl rfl) rfl)) ?_)
      all_goals (first | refine zao rfl rfl (zaa rfl) (fun _ => (za6 (.inl rfl) rfl)) ?_ | refine zao rfl rfl (zaa rfl) (fun _ => (zbg (.inl rfl) rfl)) ?_ | refine zao rfl rfl (zaa rfl) (fun _ => (mv_s (.inl rfl) rfl)) ?_ | refine zao rfl rfl (zaa rfl) (fun _ => (za7 (.inl rfl) rfl)) ?_)
      all_goals refine zao rfl rfl (zaa rfl) (fun _ => (mv_s (.inl rfl) rfl)) ?_
      all_goals (first | refine zao rfl rfl (zaa rfl) (fun _ => (za1 rfl ts23 ti36 rfl rfl rfl hix rfl)) ?_ | refine zao rfl rfl (zaa rfl) (fun _ => (zay rfl ts23 ti36 rfl rfl rfl hix)) ?_)
      all_goals (first | refine zao rfl rfl (zaa rfl) (fun _ => (zal rfl zc0 (by decide) rfl)) ?_ | refine zao rfl rfl (zaa rfl) (fun _ => (zai rfl zc0 (by decide) rfl)) ?_)
      all_goals (first | refine zao rfl rfl (zaa rfl) (fun _ => (zam rfl ta22 rfl)) ?_ | refine zbz rfl rfl (zaa rfl) (zc9 rfl ta22 rfl rfl rfl rfl rfl) ?_)
      all_goals refine zao rfl rfl (zaa rfl) (fun _ => (mv_s (.inl rfl) rfl)) ?_
      all_goals (first | refine zao rfl rfl (zaa rfl) (fun _ => (za1 rfl ts22 ti3 rfl rfl rfl (zb5 hlt2) rfl)) ?_ | refine zao rfl rfl (zaa rfl) (fun _ => (zay rfl ts22 ti3 rfl rfl rfl (zb5 hlt2))) ?_)
      all_goals (first | refine zao rfl rfl (zaa rfl) (fun _ => (zam rfl ta3 rfl)) ?_ | refine zbz rfl rfl (zaa rfl) (zc9 rfl ta3 rfl rfl rfl rfl rfl) ?_)
      all_goals (first | refine zao rfl rfl (zaa rfl) (fun _ => (za1 rfl ts27 ti41 rfl rfl hp (zb5 hpy) rfl)) ?_ | refine zao rfl rfl (zaa rfl) (fun _ => (zay rfl ts27 ti41 rfl rfl hp (zb5 hpy))) ?_)
      all_goals (first | refine zao rfl rfl (zaa rfl) (fun _ => (za0 rfl ta41 ti41 rfl rfl)) ?_ | refine zbz rfl rfl (zaa rfl) (zce rfl ta41 ti41 rfl rfl rfl rfl rfl) ?_ | refine zao rfl rfl (zaa rfl) (fun _ => (zaz rfl ta41 ti41 rfl (Nat.le_of_ble_eq_true rfl))) ?_ | refine zbz rfl rfl (zaa rfl) (zcn rfl ta41 ti41 rfl rfl rfl rfl (Nat.le_of_ble_eq_true rfl)) ?_)
      all_goals refine zao rfl rfl (zaa rfl) (fun _ => (za5 rfl rfl (hsub) (zau rfl (zau rfl zbj)))) ?_
      all_goals (first | refine zao rfl rfl (zaa rfl) (fun _ => (mv_tup (.inl rfl) rfl)) ?_ | refine zao rfl rfl (zaa rfl) (fun _ => (mv_s (.inl rfl) rfl)) ?_)
      all_goals refine zao rfl rfl (zaa rfl) (fun _ => (zbf rfl rfl rfl)) ?_
      all_goals refine zao rfl rfl (zaa rfl) (fun _ => (zbf rfl rfl rfl)) ?_
      all_goals refine ex_eff rfl rfl (zaa rfl) (zbr rfl ti41 rfl rfl) (fun _ h => zc7 h) ?_
      all_goals refine ex_eff0 rfl (zaa rfl) (zbd rfl ti41 rfl rfl rfl rfl rfl rfl (by decide) (by decide)) (fun _ h => zcq h) ?_
      all_goals refine zao rfl rfl (zaa rfl) (fun _ => (mv_s (.inr rfl) rfl)) ?_
      all_goals refine ex_nil (by kernel_rfl) ?_
      all_goals (repeat (first | refine zag ?_ | refine zar ?_ | refine zad ?_ | refine zas ?_ | refine zac ?_))
      all_goals refine zaf ?_
      all_goals refine zab rfl rfl (zaa rfl) (mv_s (.inl rfl) rfl) ?_
      all_goals (first | refine zbh rfl rfl (zaa rfl) (zbv rfl rfl rfl) (fun h86 => ?_) (fun h86 => ?_) | refine zbi rfl rfl (zaa rfl) (zbv rfl rfl rfl) (fun h86 => ?_) (fun h86 => ?_))
      all_goals refine zan ?_
      all_goals (repeat (first | refine zag ?_ | refine zar ?_ | refine zad ?_ | refine zas ?_ | refine zac ?_))
      all_goals (first | refine zbp rfl ?_ | refine zbm rfl ?_)
      all_goals (repeat (first | refine zag ?_ | refine zar ?_ | refine zad ?_ | refine zas ?_ | refine zac ?_))
      · rw [if_pos (by omega)] at HK
        subst HK
        rw [if_pos (by show x.e ≠ 0; omega)] at HJ
        refine zaf ?_
        refine zab rfl rfl (zaa rfl) (zb7 rfl ti41 tp41 rfl rfl) ?_
        refine zb0 rfl (zaa rfl) (zbd rfl ti41 rfl rfl rfl rfl rfl rfl (by decide) (by decide)) ?_
        refine zab rfl rfl (zaa rfl) (mv_s (.inr rfl) rfl) ?_
        refine zan ?_
        repeat (first | refine zag ?_ | refine zar ?_ | refine zad ?_ | refine zas ?_ | refine zac ?_)
        (refine zbs ?_; repeat (first | refine zb8 ?_ | refine zb9 ?_))
        exact zc6 (.inr rfl) ta41 ti41 rfl rfl rfl rfl rfl rfl (by rw [HJ]; rfl)
      · rw [if_neg (by omega)] at HK
        refine zaf ?_
        first | refine zab rfl rfl (zaa rfl) (za0 rfl ta41 ti41 rfl rfl) ?_ | refine zab rfl rfl (zaa rfl) (za9 rfl ta41 ti41 rfl rfl rfl rfl rfl) ?_ | refine zab rfl rfl (zaa rfl) (zaz rfl ta41 ti41 rfl (Nat.le_of_ble_eq_true rfl)) ?_ | refine zab rfl rfl (zaa rfl) (zba rfl ta41 ti41 rfl rfl rfl rfl (Nat.le_of_ble_eq_true rfl)) ?_
        refine zb0 rfl (zaa rfl) (zbd rfl ti41 rfl rfl rfl rfl rfl rfl (by decide) (by decide)) ?_
        refine zan ?_
        repeat (first | refine zag ?_ | refine zar ?_ | refine zad ?_ | refine zas ?_ | refine zac ?_)
        refine zaf ?_
        refine zab rfl rfl (zaa rfl) (mv_s (.inl rfl) rfl) ?_
        refine zab rfl rfl (zaa rfl) (zb2 rfl rfl rfl (IntWalk.i64_in _ (by omega))) ?_
        refine zab rfl rfl (zaa rfl) (mv_s (.inr rfl) rfl) ?_
        refine zan ?_
        repeat (first | refine zag ?_ | refine zar ?_ | refine zad ?_ | refine zas ?_ | refine zac ?_)
        exact ⟨(⟨x.n, x.d⟩, j + 1), ⟨by dsimp only; omega, HK⟩, by dsimp only; omega, zck [0, 1, 2] (by decide) ⟨⟨_, rfl, .rowE (by repeat' (first | exact Lo.s _ | exact zaj | exact zbn | refine zae ?_ ?_ | refine zbe ?_ ?_ | refine zak ?_ | refine zbo ?_ | refine Lo.cells ?_ | refine Lo.agg _ ?_ | refine Lo.sl _ ?_ | intro _)) rfl⟩, ⟨_, rfl, .rowE (by repeat' (first | exact Lo.s _ | exact zaj | exact zbn | refine zae ?_ ?_ | refine zbe ?_ ?_ | refine zak ?_ | refine zbo ?_ | refine Lo.cells ?_ | refine Lo.agg _ ?_ | refine Lo.sl _ ?_ | intro _)) rfl⟩, ⟨_, rfl, .rowE (by repeat' (first | exact Lo.s _ | exact zaj | exact zbn | refine zae ?_ ?_ | refine zbe ?_ ?_ | refine zak ?_ | refine zbo ?_ | refine Lo.cells ?_ | refine Lo.agg _ ?_ | refine Lo.sl _ ?_ | intro _)) rfl⟩, trivial⟩ ⟨.lo _ (by repeat' (first | exact Lo.s _ | exact zaj | refine zae ?_ ?_ | refine zak ?_ | refine Lo.cells ?_ | refine Lo.agg _ ?_ | refine Lo.ref _ ?_ | refine Lo.tup _ ?_ | refine Lo.fn _ _ ?_ | refine Lo.sl _ ?_ | intro _)), .lo _ (by repeat' (first | exact Lo.s _ | exact zaj | refine zae ?_ ?_ | refine zak ?_ | refine Lo.cells ?_ | refine Lo.agg _ ?_ | refine Lo.ref _ ?_ | refine Lo.tup _ ?_ | refine Lo.fn _ _ ?_ | refine Lo.sl _ ?_ | intro _)), .lo _ (by repeat' (first | exact Lo.s _ | exact zaj | refine zae ?_ ?_ | refine zak ?_ | refine Lo.cells ?_ | refine Lo.agg _ ?_ | refine Lo.ref _ ?_ | refine Lo.tup _ ?_ | refine Lo.fn _ _ ?_ | refine Lo.sl _ ?_ | intro _)), .lo _ (by repeat' (first | exact Lo.s _ | exact zaj | refine zae ?_ ?_ | refine zak ?_ | refine Lo.cells ?_ | refine Lo.agg _ ?_ | refine Lo.ref _ ?_ | refine Lo.tup _ ?_ | refine Lo.fn _ _ ?_ | refine Lo.sl _ ?_ | intro _)), .ptr 0 0 2 0 0 rfl, .ptr 1 1 2 0 0 rfl, .lo _ (by repeat' (first | exact Lo.s _ | exact zaj | refine zae ?_ ?_ | refine zak ?_ | refine Lo.cells ?_ | refine Lo.agg _ ?_ | refine Lo.ref _ ?_ | refine Lo.tup _ ?_ | refine Lo.fn _ _ ?_ | refine Lo.sl _ ?_ | intro _)), .ptr 2 2 2 0 0 rfl, .lo _ (by repeat' (first | exact Lo.s _ | exact zaj | refine zae ?_ ?_ | refine zak ?_ | refine Lo.cells ?_ | refine Lo.agg _ ?_ | refine Lo.ref _ ?_ | refine Lo.tup _ ?_ | refine Lo.fn _ _ ?_ | refine Lo.sl _ ?_ | intro _)), trivial⟩⟩
    · repeat (first | refine zag ?_ | refine zar ?_ | refine zad ?_ | refine zas ?_ | refine zac ?_)
      rw [show sf.pd.length - j = 0 by omega, prG] at HK
      subst HK
      rw [if_neg (by simp)] at HJ
      dsimp only at HJ
      obtain ⟨ch, hch⟩ : ∃ ch, gti hi i = ch := ⟨_, rfl⟩
      obtain ⟨cl, hcl⟩ : ∃ cl, gti lo i = cl := ⟨_, rfl⟩
      have hixh : (hi.map eI)[i]? = some (eI ch) := by rw [← hch]; exact zb5 (by omega)
      have hixl : (lo.map eI)[i]? = some (eI cl) := by rw [← hcl]; exact zb5 (by omega)
      rw [hch, hcl] at HJ
      obtain ⟨CH, hCH⟩ : ∃ CH, CH = if pr.n < 0 then ch else cl := ⟨_, rfl⟩
      rw [← hCH] at HJ
      clear hch hcl
      (refine zcl ?_; repeat (first | refine ath_x ?_ | refine zci ?_ | refine zcb rfl ?_ | refine zas ?_ | refine zar ?_ | refine zag ?_ | refine zad ?_ | refine zac ?_))
      refine zaf ?_
      first | refine zab rfl rfl (zaa rfl) (za6 (.inl rfl) rfl) ?_ | refine zab rfl rfl (zaa rfl) (zbg (.inl rfl) rfl) ?_ | refine zab rfl rfl (zaa rfl) (mv_s (.inl rfl) rfl) ?_ | refine zab rfl rfl (zaa rfl) (za7 (.inl rfl) rfl) ?_
      refine zab rfl rfl (zaa rfl) (mv_s (.inl rfl) rfl) ?_
      first | refine zab rfl rfl (zaa rfl) (za1 rfl ts22 ti3 rfl rfl rfl hixl rfl) ?_ | refine zab rfl rfl (zaa rfl) (zay rfl ts22 ti3 rfl rfl rfl hixl) ?_
      first | refine zab rfl rfl (zaa rfl) (zam rfl ta3 rfl) ?_ | refine zab rfl rfl (zaa rfl) (zap rfl ta3 rfl rfl rfl rfl rfl) ?_
      refine zab rfl rfl (zaa rfl) (mv_s (.inr rfl) rfl) ?_
      refine zan ?_
      repeat (first | refine zag ?_ | refine zar ?_ | refine zad ?_ | refine zas ?_ | refine zac ?_)
      all_goals refine zaf ?_
      all_goals (first | refine zab rfl rfl (zaa rfl) (zal rfl tf41_0 (by decide) rfl) ?_ | refine zab rfl rfl (zaa rfl) (zai rfl tf41_0 (by decide) rfl) ?_)
      all_goals (first | refine zab rfl rfl (zaa rfl) (zam rfl ta3 rfl) ?_ | refine zab rfl rfl (zaa rfl) (zap rfl ta3 rfl rfl rfl rfl rfl) ?_)
      all_goals (first | refine zbh rfl rfl (zaa rfl) (zbb rfl rfl rfl) (fun h95 => ?_) (fun h95 => ?_) | refine zbi rfl rfl (zaa rfl) (zbb rfl rfl rfl) (fun h95 => ?_) (fun h95 => ?_))
      all_goals refine zan ?_
      all_goals (repeat (first | refine zag ?_ | refine zar ?_ | refine zad ?_ | refine zas ?_ | refine zac ?_))
      all_goals (first | refine zbp rfl ?_ | refine zbm rfl ?_)
      all_goals (repeat (first | refine zag ?_ | refine zar ?_ | refine zad ?_ | refine zas ?_ | refine zac ?_))
      all_goals first
        | skip
          refine zaf ?_
          first | refine zab rfl rfl (zaa rfl) (za6 (.inl rfl) rfl) ?_ | refine zab rfl rfl (zaa rfl) (zbg (.inl rfl) rfl) ?_ | refine zab rfl rfl (zaa rfl) (mv_s (.inl rfl) rfl) ?_ | refine zab rfl rfl (zaa rfl) (za7 (.inl rfl) rfl) ?_
          refine zab rfl rfl (zaa rfl) (mv_s (.inl rfl) rfl) ?_
          first | refine zab rfl rfl (zaa rfl) (za1 rfl ts22 ti3 rfl rfl rfl hixh rfl) ?_ | refine zab rfl rfl (zaa rfl) (zay rfl ts22 ti3 rfl rfl rfl hixh) ?_
          first | refine zab rfl rfl (zaa rfl) (zam rfl ta3 rfl) ?_ | refine zab rfl rfl (zaa rfl) (zap rfl ta3 rfl rfl rfl rfl rfl) ?_
          refine zab rfl rfl (zaa rfl) (mv_s (.inr rfl) rfl) ?_
          refine zan ?_
          repeat (first | refine zag ?_ | refine zar ?_ | refine zad ?_ | refine zas ?_ | refine zac ?_)
          rw [if_pos (by omega)] at hCH
          subst hCH
        | skip
          rw [if_neg (by omega)] at hCH
          subst hCH
      all_goals have hmul := rMul_pf (P := P) pr (Fr.of CH)
      all_goals generalize mulE pr (Fr.of CH) = x at HJ hmul
      all_goals (all_goals refine zch hmix ?_)
      all_goals (all_goals refine zda ?_)
      all_goals (all_goals (first | refine zao rfl rfl (zaa rfl) (fun _ => (za0 rfl ta41 ti41 rfl rfl)) ?_ | refine zbz rfl rfl (zaa rfl) (zce rfl ta41 ti41 rfl rfl rfl rfl rfl) ?_ | refine zao rfl rfl (zaa rfl) (fun _ => (zaz rfl ta41 ti41 rfl (Nat.le_of_ble_eq_true rfl))) ?_ | refine zbz rfl rfl (zaa rfl) (zcn rfl ta41 ti41 rfl rfl rfl rfl (Nat.le_of_ble_eq_true rfl)) ?_))
      all_goals (all_goals refine zao rfl rfl (zaa rfl) (fun _ => (mv_s (.inl rfl) rfl)) ?_)
      all_goals (all_goals refine zao rfl rfl (zaa rfl) (fun _ => (za5 rfl rfl (rOf_pf _) (zau rfl zbj))) ?_)
      all_goals (all_goals refine zao rfl rfl (zaa rfl) (fun _ => (za5 rfl rfl (hmul) (zau rfl (zau rfl zbj)))) ?_)
      all_goals (all_goals (first | refine zao rfl rfl (zaa rfl) (fun _ => (mv_tup (.inl rfl) rfl)) ?_ | refine zao rfl rfl (zaa rfl) (fun _ => (mv_s (.inl rfl) rfl)) ?_))
      all_goals (all_goals refine zao rfl rfl (zaa rfl) (fun _ => (zbf rfl rfl rfl)) ?_)
      all_goals (all_goals refine zao rfl rfl (zaa rfl) (fun _ => (zbf rfl rfl rfl)) ?_)
      all_goals (all_goals refine ex_eff rfl rfl (zaa rfl) (zbr rfl ti41 rfl rfl) (fun _ h => zc7 h) ?_)
      all_goals (all_goals refine ex_eff0 rfl (zaa rfl) (zbd rfl ti41 rfl rfl rfl rfl rfl rfl (by decide) (by decide)) (fun _ h => zcq h) ?_)
      all_goals (all_goals refine zao rfl rfl (zaa rfl) (fun _ => (mv_s (.inr rfl) rfl)) ?_)
      all_goals (all_goals refine ex_nil (by kernel_rfl) ?_)
      all_goals (all_goals (repeat (first | refine zag ?_ | refine zar ?_ | refine zad ?_ | refine zas ?_ | refine zac ?_)))
      all_goals (all_goals refine zaf ?_)
      all_goals (all_goals refine zab rfl rfl (zaa rfl) (mv_s (.inl rfl) rfl) ?_)
      all_goals (all_goals (first | refine zbh rfl rfl (zaa rfl) (zcr rfl rfl rfl) (fun h108 => ?_) (fun h108 => ?_) | refine zbi rfl rfl (zaa rfl) (zcr rfl rfl rfl) (fun h108 => ?_) (fun h108 => ?_)))
      all_goals (all_goals refine zan ?_)
      all_goals (all_goals (repeat (first | refine zag ?_ | refine zar ?_ | refine zad ?_ | refine zas ?_ | refine zac ?_)))
      all_goals (all_goals (first | refine zbp rfl ?_ | refine zbm rfl ?_))
      all_goals (all_goals (repeat (first | refine zag ?_ | refine zar ?_ | refine zad ?_ | refine zas ?_ | refine zac ?_)))
      all_goals first
        | skip
          rw [if_pos (by omega)] at HJ
          refine zaf ?_
          refine zab rfl rfl (zaa rfl) (mv_s (.inl rfl) rfl) ?_
          refine zab rfl rfl (zaa rfl) (dec_t (by omega) (zbv rfl rfl rfl)) ?_
          refine zan ?_
          repeat (first | refine zag ?_ | refine zar ?_ | refine zad ?_ | refine zas ?_ | refine zac ?_)
          refine zbp rfl ?_
          repeat (first | refine zag ?_ | refine zar ?_ | refine zad ?_ | refine zas ?_ | refine zac ?_)
          refine zaf ?_
          refine zab rfl rfl (zaa rfl) (zb7 rfl ti41 tp41 rfl rfl) ?_
          refine zb0 rfl (zaa rfl) (zbd rfl ti41 rfl rfl rfl rfl rfl rfl (by decide) (by decide)) ?_
          refine zab rfl rfl (zaa rfl) (mv_s (.inr rfl) rfl) ?_
          refine zan ?_
          repeat (first | refine zag ?_ | refine zar ?_ | refine zad ?_ | refine zas ?_ | refine zac ?_)
          (refine zbs ?_; repeat (first | refine zb8 ?_ | refine zb9 ?_))
          exact zc6 (.inr rfl) ta41 ti41 rfl rfl rfl rfl rfl rfl (by rw [HJ]; rfl)
        | skip
          rw [if_neg (by omega)] at HJ
      all_goals have hadd := rAdd_pf (P := P) sm ⟨x.n, x.d⟩
      all_goals generalize addE sm ⟨x.n, x.d⟩ = t at HJ hadd
      all_goals (all_goals refine zaf ?_)
      all_goals (all_goals (first | refine zab rfl rfl (zaa rfl) (za0 rfl ta41 ti41 rfl rfl) ?_ | refine zab rfl rfl (zaa rfl) (za9 rfl ta41 ti41 rfl rfl rfl rfl rfl) ?_ | refine zab rfl rfl (zaa rfl) (zaz rfl ta41 ti41 rfl (Nat.le_of_ble_eq_true rfl)) ?_ | refine zab rfl rfl (zaa rfl) (zba rfl ta41 ti41 rfl rfl rfl rfl (Nat.le_of_ble_eq_true rfl)) ?_))
      all_goals (all_goals (first | refine zab rfl rfl (zaa rfl) (za0 rfl ta41 ti41 rfl rfl) ?_ | refine zab rfl rfl (zaa rfl) (za9 rfl ta41 ti41 rfl rfl rfl rfl rfl) ?_ | refine zab rfl rfl (zaa rfl) (zaz rfl ta41 ti41 rfl (Nat.le_of_ble_eq_true rfl)) ?_ | refine zab rfl rfl (zaa rfl) (zba rfl ta41 ti41 rfl rfl rfl rfl (Nat.le_of_ble_eq_true rfl)) ?_))
      all_goals (all_goals refine zab rfl rfl (zaa rfl) (za5 rfl rfl (hadd) (zau rfl (zau rfl zbj))) ?_)
      all_goals (all_goals (first | refine zab rfl rfl (zaa rfl) (mv_tup (.inl rfl) rfl) ?_ | refine zab rfl rfl (zaa rfl) (mv_s (.inl rfl) rfl) ?_))
      all_goals (all_goals refine zab rfl rfl (zaa rfl) (zbf rfl rfl rfl) ?_)
      all_goals (all_goals refine zab rfl rfl (zaa rfl) (zbf rfl rfl rfl) ?_)
      all_goals (all_goals refine zb0 rfl (zaa rfl) (zbd rfl ti41 rfl rfl rfl rfl rfl rfl (by decide) (by decide)) ?_)
      all_goals (all_goals refine zab rfl rfl (zaa rfl) (mv_s (.inr rfl) rfl) ?_)
      all_goals (all_goals refine zan ?_)
      all_goals (all_goals (repeat (first | refine zag ?_ | refine zar ?_ | refine zad ?_ | refine zas ?_ | refine zac ?_)))
      all_goals (all_goals refine zaf ?_)
      all_goals (all_goals refine zab rfl rfl (zaa rfl) (mv_s (.inl rfl) rfl) ?_)
      all_goals (all_goals (first | refine zbh rfl rfl (zaa rfl) (zbv rfl rfl rfl) (fun h116 => ?_) (fun h116 => ?_) | refine zbi rfl rfl (zaa rfl) (zbv rfl rfl rfl) (fun h116 => ?_) (fun h116 => ?_)))
      all_goals (all_goals refine zan ?_)
      all_goals (all_goals (repeat (first | refine zag ?_ | refine zar ?_ | refine zad ?_ | refine zas ?_ | refine zac ?_)))
      all_goals (all_goals (first | refine zbp rfl ?_ | refine zbm rfl ?_))
      all_goals (all_goals (repeat (first | refine zag ?_ | refine zar ?_ | refine zad ?_ | refine zas ?_ | refine zac ?_)))
      all_goals first
        | skip
          rw [if_pos (by omega)] at HJ
          refine zaf ?_
          refine zab rfl rfl (zaa rfl) (zb7 rfl ti41 tp41 rfl rfl) ?_
          refine zb0 rfl (zaa rfl) (zbd rfl ti41 rfl rfl rfl rfl rfl rfl (by decide) (by decide)) ?_
          refine zab rfl rfl (zaa rfl) (mv_s (.inr rfl) rfl) ?_
          refine zan ?_
          repeat (first | refine zag ?_ | refine zar ?_ | refine zad ?_ | refine zas ?_ | refine zac ?_)
          (refine zbs ?_; repeat (first | refine zb8 ?_ | refine zb9 ?_))
          exact zc6 (.inr rfl) ta41 ti41 rfl rfl rfl rfl rfl rfl (by rw [HJ]; rfl)
        | skip
          rw [if_neg (by omega)] at HJ
          refine zaf ?_
          first | refine zab rfl rfl (zaa rfl) (za0 rfl ta41 ti41 rfl rfl) ?_ | refine zab rfl rfl (zaa rfl) (za9 rfl ta41 ti41 rfl rfl rfl rfl rfl) ?_ | refine zab rfl rfl (zaa rfl) (zaz rfl ta41 ti41 rfl (Nat.le_of_ble_eq_true rfl)) ?_ | refine zab rfl rfl (zaa rfl) (zba rfl ta41 ti41 rfl rfl rfl rfl (Nat.le_of_ble_eq_true rfl)) ?_
          refine zb0 rfl (zaa rfl) (zbd rfl ti41 rfl rfl rfl rfl rfl rfl (by decide) (by decide)) ?_
          refine zan ?_
          repeat (first | refine zag ?_ | refine zar ?_ | refine zad ?_ | refine zas ?_ | refine zac ?_)
          refine zaf ?_
          refine zab rfl rfl (zaa rfl) (mv_s (.inl rfl) rfl) ?_
          refine zab rfl rfl (zaa rfl) (zb2 rfl rfl rfl (IntWalk.i64_in _ (by omega))) ?_
          refine zab rfl rfl (zaa rfl) (mv_s (.inr rfl) rfl) ?_
          refine zan ?_
          repeat (first | refine zag ?_ | refine zar ?_ | refine zad ?_ | refine zas ?_ | refine zac ?_)
          exact ⟨(⟨t.n, t.d⟩, i + 1), ⟨by dsimp only; omega, HJ⟩, by dsimp only; omega, zck [0, 1] (by decide) ⟨⟨_, rfl, .rowE (by repeat' (first | exact Lo.s _ | exact zaj | exact zbn | refine zae ?_ ?_ | refine zbe ?_ ?_ | refine zak ?_ | refine zbo ?_ | refine Lo.cells ?_ | refine Lo.agg _ ?_ | refine Lo.sl _ ?_ | intro _)) rfl⟩, ⟨_, rfl, .rowE (by repeat' (first | exact Lo.s _ | exact zaj | exact zbn | refine zae ?_ ?_ | refine zbe ?_ ?_ | refine zak ?_ | refine zbo ?_ | refine Lo.cells ?_ | refine Lo.agg _ ?_ | refine Lo.sl _ ?_ | intro _)) rfl⟩, trivial⟩ ⟨.lo _ (by repeat' (first | exact Lo.s _ | exact zaj | refine zae ?_ ?_ | refine zak ?_ | refine Lo.cells ?_ | refine Lo.agg _ ?_ | refine Lo.ref _ ?_ | refine Lo.tup _ ?_ | refine Lo.fn _ _ ?_ | refine Lo.sl _ ?_ | intro _)), .lo _ (by repeat' (first | exact Lo.s _ | exact zaj | refine zae ?_ ?_ | refine zak ?_ | refine Lo.cells ?_ | refine Lo.agg _ ?_ | refine Lo.ref _ ?_ | refine Lo.tup _ ?_ | refine Lo.fn _ _ ?_ | refine Lo.sl _ ?_ | intro _)), .lo _ (by repeat' (first | exact Lo.s _ | exact zaj | refine zae ?_ ?_ | refine zak ?_ | refine Lo.cells ?_ | refine Lo.agg _ ?_ | refine Lo.ref _ ?_ | refine Lo.tup _ ?_ | refine Lo.fn _ _ ?_ | refine Lo.sl _ ?_ | intro _)), .lo _ (by repeat' (first | exact Lo.s _ | exact zaj | refine zae ?_ ?_ | refine zak ?_ | refine Lo.cells ?_ | refine Lo.agg _ ?_ | refine Lo.ref _ ?_ | refine Lo.tup _ ?_ | refine Lo.fn _ _ ?_ | refine Lo.sl _ ?_ | intro _)), .ptr 0 0 2 0 0 rfl, .ptr 1 1 2 0 0 rfl, .lo _ (by repeat' (first | exact Lo.s _ | exact zaj | refine zae ?_ ?_ | refine zak ?_ | refine Lo.cells ?_ | refine Lo.agg _ ?_ | refine Lo.ref _ ?_ | refine Lo.tup _ ?_ | refine Lo.fn _ _ ?_ | refine Lo.sl _ ?_ | intro _)), trivial⟩⟩
  · rw [show l.length - i = 0 by omega, bdG] at HJ
    (refine zcl ?_; repeat (first | refine ath_x ?_ | refine zci ?_ | refine zcb rfl ?_ | refine zas ?_ | refine zar ?_ | refine zag ?_ | refine zad ?_ | refine zac ?_))
    refine zaf ?_
    first | refine zab rfl rfl (zaa rfl) (za0 rfl ta41 ti41 rfl rfl) ?_ | refine zab rfl rfl (zaa rfl) (za9 rfl ta41 ti41 rfl rfl rfl rfl rfl) ?_ | refine zab rfl rfl (zaa rfl) (zaz rfl ta41 ti41 rfl (Nat.le_of_ble_eq_true rfl)) ?_ | refine zab rfl rfl (zaa rfl) (zba rfl ta41 ti41 rfl rfl rfl rfl (Nat.le_of_ble_eq_true rfl)) ?_
    refine zb0 rfl (zaa rfl) (zbd rfl ti41 rfl rfl rfl rfl rfl rfl (by decide) (by decide)) ?_
    refine zab rfl rfl (zaa rfl) (mv_s (.inr rfl) rfl) ?_
    refine zan ?_
    repeat (first | refine zag ?_ | refine zar ?_ | refine zad ?_ | refine zas ?_ | refine zac ?_)
    (refine zbs ?_; repeat (first | refine zb8 ?_ | refine zb9 ?_))
    exact zc6 (.inr rfl) ta41 ti41 rfl rfl rfl rfl rfl rfl (by rw [HJ]; rfl)
end Go.Proofs.YtmoipmnhgdmkpaaGreat.Aw
end
