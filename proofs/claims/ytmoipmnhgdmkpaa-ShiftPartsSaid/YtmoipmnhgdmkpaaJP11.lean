/-
  Texts joined: ShOpn, ShI, ShJ. Conditions: none.
-/
import Derived.Test.YtmoipmnhgdmkpaaRows
import Derived.Test.YtmoipmnhgdmkpaaJP10
import Derived.Test.YtmoipmnhgdmkpaaJP7
import Derived.ProofKit
import Derived.Below
import Derived.ChangeShapes
import Derived.ChangeSame
import Derived.ChangeSlices
import Derived.DataReads
section
namespace Go.Proofs.Ytmoipmnhgdmkpaa
set_option linter.unusedSimpArgs false
set_option linter.unusedVariables false
open Go.ChangeShapes Go.WideShapes Go.ChangeAt Go.RowKit

theorem own_knob : ownKnob Try.prog.godebug = none := by kernel_rfl
theorem laid_out : laidOutB Try.prog = true := by kernel_rfl

section
variable {H : Type} {enc : TypeId × Value → H}
set_option maxRecDepth 100000 in
theorem law_post {f : Func} {s : ChangeSpec} {W W' : World} {args : Array Value} {ds gs : List (DataW H)} {before : List MemPlace} {t : TypeId}
    (hW : DataW.Whole enc Try.prog f.params.toList s.vars false W args.toList ds gs before) (hr : f.resultTypes = #[t]) (ht : Try.prog.underlying t = some .bool)
    (hfn : (s.fn H (ds ++ gs)).results = [.lit (.bool true)] ∧ (s.fn H (ds ++ gs)).args = ds ∧ (s.fn H (ds ++ gs)).vars = []) (hv : s.vars = [])
    (hargs : DataW.TrodAll enc Try.prog W' 0 (fun b => decide (b < W.heap.size)) true f.params.toList args.toList ds before) (hb : Below W.heap.size W W') :
    s.post enc Try.prog f false true false false W args (.bool true) W' := by
  refine ⟨ds, gs, before, [], before, [], hW, ?_, ?_, ?_, World.keptBut_mono (fun p hp => ⟨hp, Or.inr (by simpa using hp)⟩) (hb.frame (· ∈ before)), fun h => by cases h⟩
  · rw [hfn.1, hr]
    exact trodAll_mk1 (shut_bool ht true)
  · rw [hfn.2.1]
    exact hargs
  · rw [hfn.2.2, hv]
    rfl
end
namespace Aw
/-- before the law is called -/
def G0 (W : World) : Cx := { base := 0, w0 := W, w := W, mu := fun _ => none, St := fun b _ => b < W.heap.size }
theorem pure_law {P : Program} {f : FuncId} {args : List AV} (hp : Pure P f args (eB true)) (W : World) (vargs : Array Value) (hsz : vargs.size = args.length) (hrep : ∀ (j : Nat) v x, vargs[j]? = some v → args[j]? = some x → Rep (G0 W) v x) :
    Calls P f vargs W fun e w' => e = .returned (.bool true) ∧ Below W.heap.size W w' :=
  (hp.call (G0 W) vargs (fun b o h => h) hsz hrep).mono (by
    rintro e w' ⟨v, G', rfl, rfl, hb, _, _, _, hr⟩
    exact ⟨by rw [rep_s hr], hb⟩)
section
variable {H : Type} {enc : TypeId × Value → H} {w : World} {base : Nat} {sp : Nat → Bool} {held : Bool}
/-- cells of the store, seen -/
def Rc (w : World) (cs : List Value) (l : List AV) : Prop := cs.length = l.length ∧ (∀ c ∈ l, c.one = true) ∧ ∀ (j : Nat) v c, cs[j]? = some v → l[j]? = some c → Rep (G0 w) v c
theorem rc_nil : Rc w [] [] := ⟨rfl, by simp, fun j v c h => by simp at h⟩
theorem rc_cons {v : Value} {a : AV} {cs : List Value} {l : List AV} (h1 : Rep (G0 w) v a) (h2 : a.one = true) (h : Rc w cs l) : Rc w (v :: cs) (a :: l) :=
  ⟨by simp [h.1], fun c hc => by
    rcases List.mem_cons.1 hc with rfl | hc
    · exact h2
    · exact h.2.1 c hc, fun j u c hu hc => by
    cases j with
    | zero => simp at hu hc; subst hu hc; exact h1
    | succ j => simp at hu hc; exact h.2.2 j u c hu hc⟩
theorem rc_agg {vs : Array Value} {l : List AV} (h : Rc w vs.toList l) : Rep (G0 w) (.agg vs) (.agg l) :=
  .agg vs l (by simpa using h.1) h.2.1 (fun j v c hv hc => h.2.2 j v c (by simpa using hv) hc)
theorem addr_off (b off j : Nat) : (⟨b, off, none⟩ : Addr).add j = ⟨b, off + j, none⟩ := by unfold Addr.add; split <;> simp_all
theorem opens_slice {t e : TypeId} {β : Type} {f : β → AV} {size : Nat} (ht : Try.prog.underlying t = some (.slice e)) (hc : Try.prog.cellsOf e = size) (hpos : 0 < size) (hen : ∀ b, (f b).cells.length = size)
    (hel : ∀ fuel cs (x : DataW H × List MemPlace), DataW.trod enc Try.prog w base sp held fuel e cs = some x → ∃ b, Rc w cs (f b).cells)
    {fuel : Nat} {cs : List Value} {x : DataW H × List MemPlace} (h : DataW.trod enc Try.prog w base sp held fuel t cs = some x) : ∃ (v : Value) (l : List β), cs = [v] ∧ Rep (G0 w) v (eL f l) := by
  rcases DataW.trod_slice ht h with ⟨rfl, _⟩ | ⟨a, len, cap, elems, rest, n, _, rfl, _, hb, hl, hm, hlen, helem, _⟩
  · exact ⟨_, [], rfl, .slnil none 0⟩
  · rw [hc] at helem
    have hx : ∀ i : Fin len, ∃ p : List Value × β, w.cells? base (a.add (i * size)) size = some p.1 ∧ Rc w p.1 (f p.2).cells := by
      intro i
      have h1 := helem i i.2
      have hi : (i : Nat) < elems.length := by rw [hlen]; exact i.2
      rw [List.getElem?_eq_getElem hi, Option.bind_eq_some_iff] at h1
      obtain ⟨cs', h2, h3⟩ := h1
      obtain ⟨y, hy⟩ := hel _ _ _ h3
      exact ⟨(cs', y), h2, hy⟩
    obtain ⟨g, hg⟩ : ∃ g : Fin len → List Value × β, ∀ i : Fin len, w.cells? base (a.add ((i : Nat) * size)) size = some (g i).1 ∧ Rc w (g i).1 (f (g i).2).cells := ⟨fun i => Classical.choose (hx i), fun i => Classical.choose_spec (hx i)⟩
    rcases Nat.eq_zero_or_pos len with h0 | hn
    · subst h0
      exact ⟨_, [], rfl, .slnil _ _⟩
    · have hspot : a.spot = none := by
        have h1 := World.cells?_some (hg ⟨0, hn⟩).1
        have h2 := h1.2.2 0 hpos
        have h3 : ((a.add (0 * size)).add 0) = a := by simp [Addr.add]
        rw [List.getElem?_eq_getElem (by rw [h1.2.1]; exact hpos)] at h2
        have h4 := World.cell?_spot h2
        simpa [Addr.add] using h4
      obtain ⟨b, off, s⟩ := a
      simp only at hspot
      subst hspot
      refine ⟨_, List.ofFn (fun i => (g i).2), rfl, ?_⟩
      have hlf : ((List.ofFn fun i => (g i).2).map f).length = len := by simp
      have hel2 : ∀ (k : Nat) e, ((List.ofFn fun i => (g i).2).map f)[k]? = some e → ∃ hk : k < len, e = f (g ⟨k, hk⟩).2 := by
        intro k e hk
        have hkl : k < len := by have := (List.getElem?_eq_some_iff.1 hk).1; rwa [hlf] at this
        refine ⟨hkl, ?_⟩
        rw [List.getElem?_map, List.getElem?_ofFn] at hk
        simp [hkl] at hk
        exact hk.symm
      have key : ∀ (k : Nat) e (j : Nat) c, ((List.ofFn fun i => (g i).2).map f)[k]? = some e → e.cells[j]? = some c → ∃ u, w.cell? ⟨b, off + k * size + j, none⟩ = some u ∧ Rep (G0 w) u c := by
        intro k e j c hk hc'
        obtain ⟨hkl, rfl⟩ := hel2 k e hk
        obtain ⟨q1, q2, q3⟩ := (hg ⟨k, hkl⟩).2
        have hcs := World.cells?_some (hg ⟨k, hkl⟩).1
        have hj : j < size := by rw [← hen (g ⟨k, hkl⟩).2]; exact (List.getElem?_eq_some_iff.1 hc').1
        have hj2 : j < (g ⟨k, hkl⟩).1.length := by rw [hcs.2.1]; exact hj
        have h5 := hcs.2.2 j hj
        rw [List.getElem?_eq_getElem hj2] at h5
        rw [addr_off, addr_off] at h5
        exact ⟨(g ⟨k, hkl⟩).1[j], h5, q3 j _ c (List.getElem?_eq_getElem hj2) hc'⟩
      have hR := Rep.sl (G := G0 w) b off cap size ((List.ofFn fun i => (g i).2).map f) (fun k j => (w.cell? ⟨b, off + k * size + j, none⟩).getD undef) (by rw [hlf]; exact hl) (by rw [hlf]; exact Nat.le_trans hl hm) (fun k e hk => by
          obtain ⟨hkl, rfl⟩ := hel2 k e hk
          exact ⟨hen _, (hg ⟨k, hkl⟩).2.2.1⟩) (fun k e j c hk hc' => by
          obtain ⟨u, h6, _⟩ := key k e j c hk hc'
          exact ⟨World.block_lt_of_cell? _ _ h6, by show w.cell? _ = _; rw [h6]; rfl⟩) (fun k e j c hk hc' => by
          obtain ⟨u, h6, h7⟩ := key k e j c hk hc'
          rw [h6]; exact h7)
      rw [hlf] at hR
      exact hR
theorem opens_int {fuel : Nat} {cs : List Value} {x : DataW H × List MemPlace} (h : DataW.trod enc Try.prog w base sp held fuel 3 cs = some x) : ∃ n : Int, Rc w cs (eI n).cells := by
  obtain ⟨n, rfl, _⟩ := DataW.trod_int Try.underlying3 h
  exact ⟨n, rc_cons (.s _) rfl rc_nil⟩
theorem opens_ints {fuel : Nat} {cs : List Value} {x : DataW H × List MemPlace} (h : DataW.trod enc Try.prog w base sp held fuel 22 cs = some x) : ∃ (v : Value) (l : List Int), cs = [v] ∧ Rep (G0 w) v (eL eI l) :=
  opens_slice (size := 1) Try.underlying22 (by kernel_rfl) (by decide) (fun _ => rfl) (fun fuel cs x h => opens_int h) h
set_option maxRecDepth 100000 in
theorem opens_shift {fuel : Nat} {cs : List Value} {x : DataW H × List MemPlace} (h : DataW.trod enc Try.prog w base sp held fuel 39 cs = some x) : ∃ s : Sft, Rc w cs (eSh s).cells := by
  obtain ⟨xs, n, _, _, hlen, hl, hg⟩ := DataW.trod_struct Try.underlying39 h
  have hc : Try.prog.cellsOf 39 = 3 := by kernel_rfl
  have h1 : Try.prog.cellsOf 22 = 1 := by kernel_rfl
  have h2 : Try.prog.cellsOf 3 = 1 := by kernel_rfl
  match cs, hlen.trans hc, xs, hl with
  | [c0, c1, c2], _, [x0, x1, x2], _ =>
    have g0 := hg 0 _ rfl
    have g1 := hg 1 _ rfl
    have g2 := hg 2 _ rfl
    simp [h1, h2] at g0 g1 g2
    obtain ⟨v0, l0, e0, r0⟩ := opens_ints g0
    obtain ⟨k1, e1, _⟩ := DataW.trod_int Try.underlying3 g1
    obtain ⟨k2, e2, _⟩ := DataW.trod_int Try.underlying3 g2
    injection e0 with e0
    injection e1 with e1
    injection e2 with e2
    subst e0 e1 e2
    exact ⟨⟨l0, k1, k2⟩, rc_cons r0 rfl (rc_cons (.s _) rfl (rc_cons (.s _) rfl rc_nil))⟩
theorem opens_shifts {fuel : Nat} {cs : List Value} {x : DataW H × List MemPlace} (h : DataW.trod enc Try.prog w base sp held fuel 23 cs = some x) : ∃ (v : Value) (l : List Sft), cs = [v] ∧ Rep (G0 w) v (eL eSh l) :=
  opens_slice (size := 3) Try.underlying23 (by kernel_rfl) (by decide) (fun _ => rfl) (fun fuel cs x h => opens_shift h) h
set_option maxRecDepth 100000 in
theorem opens_plan {fuel : Nat} {cs : List Value} {x : DataW H × List MemPlace} (h : DataW.trod enc Try.prog w base sp held fuel 25 cs = some x) : ∃ s : Pln, Rc w cs (ePl s).cells := by
  obtain ⟨xs, n, _, _, hlen, hl, hg⟩ := DataW.trod_struct Try.underlying25 h
  have hc : Try.prog.cellsOf 25 = 2 := by kernel_rfl
  have h1 : Try.prog.cellsOf 22 = 1 := by kernel_rfl
  have h2 : Try.prog.cellsOf 3 = 1 := by kernel_rfl
  match cs, hlen.trans hc, xs, hl with
  | [c0, c1], _, [x0, x1], _ =>
    have g0 := hg 0 _ rfl
    have g1 := hg 1 _ rfl
    simp [h1, h2] at g0 g1
    obtain ⟨v0, l0, e0, r0⟩ := opens_ints g0
    obtain ⟨k1, e1, _⟩ := DataW.trod_int Try.underlying3 g1
    injection e0 with e0
    injection e1 with e1
    subst e0 e1
    exact ⟨⟨l0, k1⟩, rc_cons r0 rfl (rc_cons (.s _) rfl rc_nil)⟩
variable {b0 : Nat} {r : Reach} {v : Value} {d : DataW H} {p : List MemPlace}
set_option maxRecDepth 100000 in
theorem open_ints (hv : Value.okWide Try.prog w r b0 22 v) (h : DataW.Trod enc Try.prog w base sp held 22 v d p) : ∃ l : List Int, Rep (G0 w) v (eL eI l) := by
  obtain ⟨a, n, c, rfl⟩ := okWide_slice Try.underlying22 hv
  obtain ⟨fuel, hf⟩ := h
  obtain ⟨v', l, ha, hr⟩ := opens_ints hf
  simp [Value.cells] at ha
  subst ha
  exact ⟨l, hr⟩
set_option maxRecDepth 100000 in
theorem open_shifts (hv : Value.okWide Try.prog w r b0 23 v) (h : DataW.Trod enc Try.prog w base sp held 23 v d p) : ∃ l : List Sft, Rep (G0 w) v (eL eSh l) := by
  obtain ⟨a, n, c, rfl⟩ := okWide_slice Try.underlying23 hv
  obtain ⟨fuel, hf⟩ := h
  obtain ⟨v', l, ha, hr⟩ := opens_shifts hf
  simp [Value.cells] at ha
  subst ha
  exact ⟨l, hr⟩
set_option maxRecDepth 100000 in
theorem open_plan (hv : Value.okWide Try.prog w r b0 25 v) (h : DataW.Trod enc Try.prog w base sp held 25 v d p) : ∃ q : Pln, Rep (G0 w) v (ePl q) := by
  obtain ⟨cs, rfl, hsz⟩ := okWide_struct Try.underlying25 hv
  obtain ⟨fuel, hf⟩ := h
  obtain ⟨q, ha⟩ := opens_plan hf
  exact ⟨q, rc_agg (vs := cs) ha⟩
end
end Aw
end Go.Proofs.Ytmoipmnhgdmkpaa
end
section
namespace Go.Proofs.Ytmoipmnhgdmkpaa.Aw
set_option linter.unusedSimpArgs false
set_option linter.unusedVariables false
set_option linter.unusedSectionVars false
open Go.RowKit Go.Proofs
variable {P : Program} [IsP P]

theorem indexI_pf (l : List Int) (p : Int) : Pure P 58 [eL eI l, eI p] (eI (firstAt (fun x => decide (x = p)) l)) := by
  refine aw_fn (by rw [IsP.eq (P := P)]; exact Try.func58) rfl rfl rfl rfl rfl (by repeat' (first | exact Lo.s _ | exact zah | refine zae ?_ ?_ | refine zai ?_ | refine Lo.cells ?_ | refine Lo.agg _ ?_ | refine Lo.ref _ ?_ | refine Lo.tup _ ?_ | refine Lo.fn _ _ ?_ | refine Lo.sl _ ?_ | intro _)) (by repeat' (first | exact Lo.s _ | exact zah | refine zae ?_ ?_ | refine zai ?_ | refine Lo.cells ?_ | refine Lo.agg _ ?_ | refine Lo.ref _ ?_ | refine Lo.tup _ ?_ | refine Lo.fn _ _ ?_ | refine Lo.sl _ ?_ | intro _)) (by simp only [argF]; rfl) ?_
  repeat (first | refine zag ?_ | refine zap ?_ | refine zad ?_ | refine zaq ?_ | refine zac ?_)
  refine aw_bdm (d := 0) rfl (fun hmx => ?_)
  unfold maxLen at hmx
  refine zaf ?_
  refine zab rfl rfl (zaa rfl) (mv_s (.inr rfl) rfl) ?_
  refine zan ?_
  repeat (first | refine zag ?_ | refine zap ?_ | refine zad ?_ | refine zaq ?_ | refine zac ?_)
  refine zaf ?_
  first | refine zab rfl rfl (zaa rfl) (za3 (.inl rfl) rfl) ?_ | refine zab rfl rfl (zaa rfl) (zbi (.inl rfl) rfl) ?_ | refine zab rfl rfl (zaa rfl) (mv_s (.inl rfl) rfl) ?_ | refine zab rfl rfl (zaa rfl) (za4 (.inl rfl) rfl) ?_
  first | refine zab rfl rfl (zaa rfl) (za0 rfl ts22 rfl) ?_ | refine zab rfl rfl (zaa rfl) (za7 rfl ts22 rfl) ?_ | refine zab rfl rfl (zaa rfl) (zaw rfl ts22 rfl) ?_ | refine zab rfl rfl (zaa rfl) (zbc rfl ts22 rfl) ?_ | refine zab rfl rfl (zaa rfl) (zax rfl ts22 rfl) ?_
  refine zab rfl rfl (zaa rfl) (mv_s (.inl rfl) rfl) ?_
  refine zan ?_
  repeat (first | refine zag ?_ | refine zap ?_ | refine zad ?_ | refine zaq ?_ | refine zac ?_)
  refine aw_loops (S := Nat) (fun k => [(0, eL eI l), (1, eI p), (7, eI l.length), (8, eI k)]) (fun _ => []) (fun k => k ≤ l.length ∧ ∀ j, j < k → gti l j ≠ p) (fun k => l.length - k) 0 (wk_sub _ ⟨rfl, rfl, rfl, rfl, trivial⟩) ⟨by omega, fun j hj => by omega⟩ (fun k hk => ?_)
  obtain ⟨hk, hall⟩ := hk
  have hno : ∀ j a, j < k → l[j]? = some a → decide (a = p) = false := fun j a hj ha => by
    have := hall j hj
    unfold gti at this
    rw [ha] at this
    exact decide_eq_false this
  repeat (first | refine zag ?_ | refine zap ?_ | refine zad ?_ | refine zaq ?_ | refine zac ?_)
  all_goals refine zaf ?_
  all_goals (first | refine zbj rfl rfl (zaa rfl) (zbd rfl rfl rfl) (fun h9 => ?_) (fun h9 => ?_) | refine zbk rfl rfl (zaa rfl) (zbd rfl rfl rfl) (fun h9 => ?_) (fun h9 => ?_))
  all_goals refine zan ?_
  all_goals (repeat (first | refine zag ?_ | refine zap ?_ | refine zad ?_ | refine zaq ?_ | refine zac ?_))
  all_goals (first | refine zbq rfl ?_ | refine zbm rfl ?_)
  all_goals (repeat (first | refine zag ?_ | refine zap ?_ | refine zad ?_ | refine zaq ?_ | refine zac ?_))
  · have hlt : k < l.length := by omega
    refine zaf ?_
    refine zab rfl rfl (zaa rfl) (mv_s (.inl rfl) rfl) ?_
    refine zab rfl rfl (zaa rfl) (mv_s (.inr rfl) rfl) ?_
    refine zan ?_
    repeat (first | refine zag ?_ | refine zap ?_ | refine zad ?_ | refine zaq ?_ | refine zac ?_)
    all_goals refine zaf ?_
    all_goals refine zab rfl rfl (zaa rfl) (mv_s (.inl rfl) rfl) ?_
    all_goals (first | refine zab rfl rfl (zaa rfl) (za3 (.inl rfl) rfl) ?_ | refine zab rfl rfl (zaa rfl) (zbi (.inl rfl) rfl) ?_ | refine zab rfl rfl (zaa rfl) (mv_s (.inl rfl) rfl) ?_ | refine zab rfl rfl (zaa rfl) (za4 (.inl rfl) rfl) ?_)
    all_goals refine zab rfl rfl (zaa rfl) (mv_s (.inl rfl) rfl) ?_
    all_goals (first | refine zab rfl rfl (zaa rfl) (za1 rfl ts22 ti3 rfl rfl rfl (zb5 (by omega)) rfl) ?_ | refine zab rfl rfl (zaa rfl) (zav rfl ts22 ti3 rfl rfl rfl (by omega)) ?_)
    all_goals (first | refine zab rfl rfl (zaa rfl) (zao rfl ta3 rfl) ?_ | refine zab rfl rfl (zaa rfl) (zar rfl ta3 rfl rfl rfl rfl rfl) ?_)
    all_goals (first | refine zbj rfl rfl (zaa rfl) (does_eql rfl rfl rfl) (fun h16 => ?_) (fun h16 => ?_) | refine zbk rfl rfl (zaa rfl) (does_eql rfl rfl rfl) (fun h16 => ?_) (fun h16 => ?_))
    all_goals refine zan ?_
    all_goals (repeat (first | refine zag ?_ | refine zap ?_ | refine zad ?_ | refine zaq ?_ | refine zac ?_))
    all_goals (first | refine zbq rfl ?_ | refine zbm rfl ?_)
    all_goals (repeat (first | refine zag ?_ | refine zap ?_ | refine zad ?_ | refine zaq ?_ | refine zac ?_))
    · skip
      refine zaf ?_
      refine zab rfl rfl (zaa rfl) (mv_s (.inl rfl) rfl) ?_
      refine zab rfl rfl (zaa rfl) (mv_s (.inr rfl) rfl) ?_
      refine zan ?_
      repeat (first | refine zag ?_ | refine zap ?_ | refine zad ?_ | refine zaq ?_ | refine zac ?_)
      (refine zbt ?_; repeat (first | refine ath_r ?_ | refine abl_r ?_))
      exact post1 (.inr rfl) rfl (congrArg eI (firstAt_some (gti_get hlt) (decide_eq_true h16.symm) hno).symm)
    · skip
      refine zaf ?_
      refine zab rfl rfl (zaa rfl) (zbw rfl rfl rfl (IntWalk.i64_in _ (by omega))) ?_
      refine zab rfl rfl (zaa rfl) (mv_s (.inl rfl) rfl) ?_
      refine zan ?_
      repeat (first | refine zag ?_ | refine zap ?_ | refine zad ?_ | refine zaq ?_ | refine zac ?_)
      refine ⟨k + 1, ⟨by omega, fun j hj => ?_⟩, by omega, wk_sub _ ⟨rfl, rfl, rfl, rfl, trivial⟩⟩
      by_cases e : j = k
      · subst e; exact fun h => h16 h.symm
      · exact hall j (by omega)
  · have e : k = l.length := by omega
    subst e
    (refine aw_exit ?_; repeat (first | refine ath_x ?_ | refine abl_hit ?_ | refine abl_miss rfl ?_ | refine zaq ?_ | refine zap ?_ | refine zag ?_ | refine zad ?_ | refine zac ?_))
    refine zaf ?_
    refine zab rfl rfl (zaa rfl) (mv_s (.inr rfl) rfl) ?_
    refine zan ?_
    repeat (first | refine zag ?_ | refine zap ?_ | refine zad ?_ | refine zaq ?_ | refine zac ?_)
    (refine zbt ?_; repeat (first | refine ath_r ?_ | refine abl_r ?_))
    exact post1 (.inr rfl) rfl (congrArg eI (firstAt_none hno).symm)
theorem containsI_pf (l : List Int) (p : Int) : Pure P 46 [eL eI l, eI p] (eB (inB l p)) := by
  have hi := indexI_pf (P := P) l p
  have ha : decide (0 ≤ firstAt (fun x => decide (x = p)) l) = inB l p := firstAt_any _ _
  generalize firstAt (fun x => decide (x = p)) l = k at hi ha
  refine aw_fn (by rw [IsP.eq (P := P)]; exact Try.func46) rfl rfl rfl rfl rfl (by repeat' (first | exact Lo.s _ | exact zah | refine zae ?_ ?_ | refine zai ?_ | refine Lo.cells ?_ | refine Lo.agg _ ?_ | refine Lo.ref _ ?_ | refine Lo.tup _ ?_ | refine Lo.fn _ _ ?_ | refine Lo.sl _ ?_ | intro _)) (by repeat' (first | exact Lo.s _ | exact zah | refine zae ?_ ?_ | refine zai ?_ | refine Lo.cells ?_ | refine Lo.agg _ ?_ | refine Lo.ref _ ?_ | refine Lo.tup _ ?_ | refine Lo.fn _ _ ?_ | refine Lo.sl _ ?_ | intro _)) (by simp only [argF]; rfl) ?_
  repeat (first | refine zag ?_ | refine zap ?_ | refine zad ?_ | refine zaq ?_ | refine zac ?_)
  refine zaf ?_
  refine zab rfl rfl (zaa rfl) (mv_s (.inr rfl) rfl) ?_
  refine zan ?_
  repeat (first | refine zag ?_ | refine zap ?_ | refine zad ?_ | refine zaq ?_ | refine zac ?_)
  refine zaf ?_
  first | refine zab rfl rfl (zaa rfl) (za3 (.inl rfl) rfl) ?_ | refine zab rfl rfl (zaa rfl) (zbi (.inl rfl) rfl) ?_ | refine zab rfl rfl (zaa rfl) (mv_s (.inl rfl) rfl) ?_ | refine zab rfl rfl (zaa rfl) (za4 (.inl rfl) rfl) ?_
  refine zab rfl rfl (zaa rfl) (mv_s (.inl rfl) rfl) ?_
  refine zab rfl rfl (zaa rfl) (za5 rfl rfl (hi) (zat rfl (zat rfl zbl))) ?_
  refine zab rfl rfl (zaa rfl) (does_geq rfl rfl rfl) ?_
  refine zab rfl rfl (zaa rfl) (mv_s (.inr rfl) rfl) ?_
  refine zan ?_
  repeat (first | refine zag ?_ | refine zap ?_ | refine zad ?_ | refine zaq ?_ | refine zac ?_)
  (refine zbt ?_; repeat (first | refine ath_r ?_ | refine abl_r ?_))
  exact post1 (.inr rfl) rfl (congrArg eB ha)
/-- a row with 1 at the places that a function tells -/
def unitL (n : Nat) (f : Nat → Bool) : List Fr := (List.range n).map fun i => Fr.of (if f i = true then 1 else 0)
theorem unitL_len (n : Nat) (f : Nat → Bool) : (unitL n f).length = n := by simp [unitL]
theorem unitL_gti {n : Nat} {f : Nat → Bool} {k : Nat} (h : k < n) : gti (unitL n f) k = Fr.of (if f k = true then 1 else 0) := by
  have h1 : (unitL n f)[k]? = some (Fr.of (if f k = true then 1 else 0)) := by
    unfold unitL
    rw [List.getElem?_map, List.getElem?_range h]; rfl
  unfold gti
  rw [h1]; rfl
set_option maxHeartbeats 1000000 in
theorem unit_pf (n : Nat) (hn : n ≤ 12) (f : FuncId) (caps : List AV) (p : Nat → Bool) (hlc : Lo 0 (.fn f caps)) (hf : ∀ i, i < n → Pure P f ([eI i] ++ caps) (eB (p i))) : Pure P 44 [eI n, .fn f caps] (eL eF (unitL n p)) := by
  refine aw_fn (by rw [IsP.eq (P := P)]; exact Try.func44) rfl rfl rfl rfl rfl (zae (.s _) (zae hlc zah)) (by repeat' (first | exact Lo.s _ | exact zah | refine zae ?_ ?_ | refine zai ?_ | refine Lo.cells ?_ | refine Lo.agg _ ?_ | refine Lo.ref _ ?_ | refine Lo.tup _ ?_ | refine Lo.fn _ _ ?_ | refine Lo.sl _ ?_ | intro _)) (by simp only [argF]; rfl) ?_
  repeat (first | refine zag ?_ | refine zap ?_ | refine zad ?_ | refine zaq ?_ | refine zac ?_)
  refine zaf ?_
  first | refine zab rfl rfl (zaa rfl) (za3 (.inr rfl) rfl) ?_ | refine zab rfl rfl (zaa rfl) (zbi (.inr rfl) rfl) ?_ | refine zab rfl rfl (zaa rfl) (mv_s (.inr rfl) rfl) ?_ | refine zab rfl rfl (zaa rfl) (za4 (.inr rfl) rfl) ?_
  refine zan ?_
  repeat (first | refine zag ?_ | refine zap ?_ | refine zad ?_ | refine zaq ?_ | refine zac ?_)
  refine zaf ?_
  refine zab rfl rfl (zaa rfl) (does_lit0 rfl rfl ts27 ti59) ?_
  first | refine zab rfl rfl (zaa rfl) (za3 (.inr rfl) rfl) ?_ | refine zab rfl rfl (zaa rfl) (zbi (.inr rfl) rfl) ?_ | refine zab rfl rfl (zaa rfl) (mv_s (.inr rfl) rfl) ?_ | refine zab rfl rfl (zaa rfl) (za4 (.inr rfl) rfl) ?_
  refine zan ?_
  repeat (first | refine zag ?_ | refine zap ?_ | refine zad ?_ | refine zaq ?_ | refine zac ?_)
  refine zaf ?_
  refine zab rfl rfl (zaa rfl) (mv_s (.inl rfl) rfl) ?_
  refine zab rfl rfl (zaa rfl) (mv_s (.inl rfl) rfl) ?_
  refine zan ?_
  repeat (first | refine zag ?_ | refine zap ?_ | refine zad ?_ | refine zaq ?_ | refine zac ?_)
  refine zb3 (wk_own (d := 5) 2 rfl (.inl rfl)) ?_
  refine aw_loops (S := Nat) (fun k => [(1, .fn f caps), (8, eI n), (9, eI k), (5, .own 0 2 k)]) (fun k => [.row 2 (((unitL n p).take k).map eF)]) (fun k => k ≤ n) (fun k => n - k) 0 (wk_st [0] (by decide) ⟨⟨_, rfl, .rowE (by repeat' (first | exact Lo.s _ | exact zah | exact zba | refine zae ?_ ?_ | refine zaz ?_ ?_ | refine zai ?_ | refine zbb ?_ | refine Lo.cells ?_ | refine Lo.agg _ ?_ | refine Lo.sl _ ?_ | intro _)) rfl⟩, trivial⟩ ⟨.lo _ hlc, .lo _ (by repeat' (first | exact Lo.s _ | exact zah | refine zae ?_ ?_ | refine zai ?_ | refine Lo.cells ?_ | refine Lo.agg _ ?_ | refine Lo.ref _ ?_ | refine Lo.tup _ ?_ | refine Lo.fn _ _ ?_ | refine Lo.sl _ ?_ | intro _)), .lo _ (by repeat' (first | exact Lo.s _ | exact zah | refine zae ?_ ?_ | refine zai ?_ | refine Lo.cells ?_ | refine Lo.agg _ ?_ | refine Lo.ref _ ?_ | refine Lo.tup _ ?_ | refine Lo.fn _ _ ?_ | refine Lo.sl _ ?_ | intro _)), .own 0 0 2 _ _ rfl rfl, trivial⟩) (Nat.zero_le _) (fun k hk => ?_)
  have hcl := unitL_len n p
  repeat (first | refine zag ?_ | refine zap ?_ | refine zad ?_ | refine zaq ?_ | refine zac ?_)
  all_goals refine zaf ?_
  all_goals (first | refine zbj rfl rfl (zaa rfl) (zbd rfl rfl rfl) (fun h10 => ?_) (fun h10 => ?_) | refine zbk rfl rfl (zaa rfl) (zbd rfl rfl rfl) (fun h10 => ?_) (fun h10 => ?_))
  all_goals refine zan ?_
  all_goals (repeat (first | refine zag ?_ | refine zap ?_ | refine zad ?_ | refine zaq ?_ | refine zac ?_))
  all_goals (first | refine zbq rfl ?_ | refine zbm rfl ?_)
  all_goals (repeat (first | refine zag ?_ | refine zap ?_ | refine zad ?_ | refine zaq ?_ | refine zac ?_))
  · have hlt : k < n := by omega
    have htk : (((unitL n p).take k).map eF).length = k := by simp; omega
    have hrow : ((unitL n p).take (k + 1)).map eF = ((unitL n p).take k).map eF ++ [eF (Fr.of (if p k = true then 1 else 0))] := by
      rw [take_snoc (by omega), List.map_append, unitL_gti hlt]; rfl
    have hp := hf k hlt
    generalize p k = z at hp hrow
    refine zaf ?_
    refine zab rfl rfl (zaa rfl) (mv_s (.inl rfl) rfl) ?_
    refine zab rfl rfl (zaa rfl) (mv_s (.inr rfl) rfl) ?_
    refine zan ?_
    repeat (first | refine zag ?_ | refine zap ?_ | refine zad ?_ | refine zaq ?_ | refine zac ?_)
    cases z with
    | true =>
      refine zaf ?_
      first | refine zab rfl rfl (zaa rfl) (mv_fn (.inl rfl) rfl) ?_ | refine zab rfl rfl (zaa rfl) (mv_s (.inl rfl) rfl) ?_
      refine zab rfl rfl (zaa rfl) (mv_s (.inl rfl) rfl) ?_
      refine zab rfl rfl (zaa rfl) (za5 rfl rfl (hp) (zat rfl zbl)) ?_
      refine zan ?_
      repeat (first | refine zag ?_ | refine zap ?_ | refine zad ?_ | refine zaq ?_ | refine zac ?_)
      refine zbq rfl ?_
      repeat (first | refine zag ?_ | refine zap ?_ | refine zad ?_ | refine zaq ?_ | refine zac ?_)
      rw [if_pos rfl] at hrow
      refine zaf ?_
      first | refine zab rfl rfl (zaa rfl) (za3 (.inl rfl) rfl) ?_ | refine zab rfl rfl (zaa rfl) (zbi (.inl rfl) rfl) ?_ | refine zab rfl rfl (zaa rfl) (mv_s (.inl rfl) rfl) ?_ | refine zab rfl rfl (zaa rfl) (za4 (.inl rfl) rfl) ?_
      refine zab rfl rfl (zaa rfl) (za5 rfl rfl ((whole_pf _)) (zat rfl zbl)) ?_
      first | refine zab rfl rfl (zaa rfl) (lit1_sF rfl ts27 ti59 rfl rfl rfl rfl) ?_ | refine zab rfl rfl (zaa rfl) (lit1_slF rfl ts27 ti59 rfl rfl rfl rfl (by repeat' (first | exact Lo.s _ | exact zah | refine zae ?_ ?_ | refine zai ?_ | refine Lo.cells ?_ | refine Lo.agg _ ?_ | refine Lo.ref _ ?_ | refine Lo.tup _ ?_ | refine Lo.fn _ _ ?_ | refine Lo.sl _ ?_ | intro _))) ?_ | refine zab rfl rfl (zaa rfl) (does_litAF rfl ts27 ti59 rfl rfl (by decide) (by decide) rfl rfl rfl (by repeat' (first | exact Lo.s _ | exact zah | refine zae ?_ ?_ | refine zai ?_ | refine Lo.cells ?_ | refine Lo.agg _ ?_ | refine Lo.ref _ ?_ | refine Lo.tup _ ?_ | refine Lo.fn _ _ ?_ | refine Lo.sl _ ?_ | intro _))) ?_
      first | refine zab rfl rfl (zaa rfl) (does_append rfl ts27 ti59 rfl (by decide) rfl rfl (by first | rfl | (simp; done) | (simp; omega)) rfl (by first | exact .own _ _ _ rfl rfl _ (by first | rfl | simp) | exact .emp | exact .nil | exact .sl _ (by first | simp; done | intro e he; simp at he; obtain ⟨_, _, rfl⟩ := he; rfl)) (by first | omega | (simp; omega) | (unfold maxLen; simp; omega)) (by first | omega | (simp; omega) | (unfold maxLen; simp; omega))) ?_ | refine zab rfl rfl (zaa rfl) (zbn rfl ts27 ti59 rfl (by decide) rfl (.inl rfl) rfl (by first | exact .own _ _ _ rfl rfl _ (by first | rfl | simp) | exact .emp | exact .nil | exact .sl _ (by first | simp; done | intro e he; simp at he; obtain ⟨_, _, rfl⟩ := he; rfl)) (by first | omega | (simp; omega) | (unfold maxLen; simp; omega)) (by first | omega | (simp; omega) | (unfold maxLen; simp; omega))) ?_ | refine zab rfl rfl (zaa rfl) (zbn rfl ts27 ti59 rfl (by decide) rfl (.inr rfl) rfl (by first | exact .own _ _ _ rfl rfl _ (by first | rfl | simp) | exact .emp | exact .nil | exact .sl _ (by first | simp; done | intro e he; simp at he; obtain ⟨_, _, rfl⟩ := he; rfl)) (by first | omega | (simp; omega) | (unfold maxLen; simp; omega)) (by first | omega | (simp; omega) | (unfold maxLen; simp; omega))) ?_
      first | refine zab rfl rfl (zaa rfl) (za3 (.inr rfl) rfl) ?_ | refine zab rfl rfl (zaa rfl) (zbi (.inr rfl) rfl) ?_ | refine zab rfl rfl (zaa rfl) (mv_s (.inr rfl) rfl) ?_ | refine zab rfl rfl (zaa rfl) (za4 (.inr rfl) rfl) ?_
      refine zan ?_
      repeat (first | refine zag ?_ | refine zap ?_ | refine zad ?_ | refine zaq ?_ | refine zac ?_)
      refine zaf ?_
      refine zab rfl rfl (zaa rfl) (zbw rfl rfl rfl (IntWalk.i64_in _ (by omega))) ?_
      refine zab rfl rfl (zaa rfl) (mv_s (.inl rfl) rfl) ?_
      refine zan ?_
      repeat (first | refine zag ?_ | refine zap ?_ | refine zad ?_ | refine zaq ?_ | refine zac ?_)
      exact ⟨k + 1, by omega, by omega, wk_st [1] (by decide) ⟨⟨_, rfl, .rowE (by repeat' (first | exact Lo.s _ | exact zah | exact zba | refine zae ?_ ?_ | refine zaz ?_ ?_ | refine zai ?_ | refine zbb ?_ | refine Lo.cells ?_ | refine Lo.agg _ ?_ | refine Lo.sl _ ?_ | intro _)) (Eq.trans (b := ((unitL n p).take k).map eF ++ [eF (Fr.of 1)]) rfl hrow.symm)⟩, trivial⟩ ⟨.lo _ hlc, .lo _ (by repeat' (first | exact Lo.s _ | exact zah | refine zae ?_ ?_ | refine zai ?_ | refine Lo.cells ?_ | refine Lo.agg _ ?_ | refine Lo.ref _ ?_ | refine Lo.tup _ ?_ | refine Lo.fn _ _ ?_ | refine Lo.sl _ ?_ | intro _)), .lo _ (by repeat' (first | exact Lo.s _ | exact zah | refine zae ?_ ?_ | refine zai ?_ | refine Lo.cells ?_ | refine Lo.agg _ ?_ | refine Lo.ref _ ?_ | refine Lo.tup _ ?_ | refine Lo.fn _ _ ?_ | refine Lo.sl _ ?_ | intro _)), .own 1 0 2 _ _ rfl (by simp; omega), trivial⟩⟩
    | false =>
      refine zaf ?_
      first | refine zab rfl rfl (zaa rfl) (mv_fn (.inl rfl) rfl) ?_ | refine zab rfl rfl (zaa rfl) (mv_s (.inl rfl) rfl) ?_
      refine zab rfl rfl (zaa rfl) (mv_s (.inl rfl) rfl) ?_
      refine zab rfl rfl (zaa rfl) (za5 rfl rfl (hp) (zat rfl zbl)) ?_
      refine zan ?_
      repeat (first | refine zag ?_ | refine zap ?_ | refine zad ?_ | refine zaq ?_ | refine zac ?_)
      refine zbm rfl ?_
      repeat (first | refine zag ?_ | refine zap ?_ | refine zad ?_ | refine zaq ?_ | refine zac ?_)
      rw [if_neg (by simp)] at hrow
      refine zaf ?_
      first | refine zab rfl rfl (zaa rfl) (za3 (.inl rfl) rfl) ?_ | refine zab rfl rfl (zaa rfl) (zbi (.inl rfl) rfl) ?_ | refine zab rfl rfl (zaa rfl) (mv_s (.inl rfl) rfl) ?_ | refine zab rfl rfl (zaa rfl) (za4 (.inl rfl) rfl) ?_
      refine zab rfl rfl (zaa rfl) (za5 rfl rfl ((whole_pf _)) (zat rfl zbl)) ?_
      first | refine zab rfl rfl (zaa rfl) (lit1_sF rfl ts27 ti59 rfl rfl rfl rfl) ?_ | refine zab rfl rfl (zaa rfl) (lit1_slF rfl ts27 ti59 rfl rfl rfl rfl (by repeat' (first | exact Lo.s _ | exact zah | refine zae ?_ ?_ | refine zai ?_ | refine Lo.cells ?_ | refine Lo.agg _ ?_ | refine Lo.ref _ ?_ | refine Lo.tup _ ?_ | refine Lo.fn _ _ ?_ | refine Lo.sl _ ?_ | intro _))) ?_ | refine zab rfl rfl (zaa rfl) (does_litAF rfl ts27 ti59 rfl rfl (by decide) (by decide) rfl rfl rfl (by repeat' (first | exact Lo.s _ | exact zah | refine zae ?_ ?_ | refine zai ?_ | refine Lo.cells ?_ | refine Lo.agg _ ?_ | refine Lo.ref _ ?_ | refine Lo.tup _ ?_ | refine Lo.fn _ _ ?_ | refine Lo.sl _ ?_ | intro _))) ?_
      first | refine zab rfl rfl (zaa rfl) (does_append rfl ts27 ti59 rfl (by decide) rfl rfl (by first | rfl | (simp; done) | (simp; omega)) rfl (by first | exact .own _ _ _ rfl rfl _ (by first | rfl | simp) | exact .emp | exact .nil | exact .sl _ (by first | simp; done | intro e he; simp at he; obtain ⟨_, _, rfl⟩ := he; rfl)) (by first | omega | (simp; omega) | (unfold maxLen; simp; omega)) (by first | omega | (simp; omega) | (unfold maxLen; simp; omega))) ?_ | refine zab rfl rfl (zaa rfl) (zbn rfl ts27 ti59 rfl (by decide) rfl (.inl rfl) rfl (by first | exact .own _ _ _ rfl rfl _ (by first | rfl | simp) | exact .emp | exact .nil | exact .sl _ (by first | simp; done | intro e he; simp at he; obtain ⟨_, _, rfl⟩ := he; rfl)) (by first | omega | (simp; omega) | (unfold maxLen; simp; omega)) (by first | omega | (simp; omega) | (unfold maxLen; simp; omega))) ?_ | refine zab rfl rfl (zaa rfl) (zbn rfl ts27 ti59 rfl (by decide) rfl (.inr rfl) rfl (by first | exact .own _ _ _ rfl rfl _ (by first | rfl | simp) | exact .emp | exact .nil | exact .sl _ (by first | simp; done | intro e he; simp at he; obtain ⟨_, _, rfl⟩ := he; rfl)) (by first | omega | (simp; omega) | (unfold maxLen; simp; omega)) (by first | omega | (simp; omega) | (unfold maxLen; simp; omega))) ?_
      first | refine zab rfl rfl (zaa rfl) (za3 (.inr rfl) rfl) ?_ | refine zab rfl rfl (zaa rfl) (zbi (.inr rfl) rfl) ?_ | refine zab rfl rfl (zaa rfl) (mv_s (.inr rfl) rfl) ?_ | refine zab rfl rfl (zaa rfl) (za4 (.inr rfl) rfl) ?_
      refine zan ?_
      repeat (first | refine zag ?_ | refine zap ?_ | refine zad ?_ | refine zaq ?_ | refine zac ?_)
      refine zaf ?_
      refine zab rfl rfl (zaa rfl) (zbw rfl rfl rfl (IntWalk.i64_in _ (by omega))) ?_
      refine zab rfl rfl (zaa rfl) (mv_s (.inl rfl) rfl) ?_
      refine zan ?_
      repeat (first | refine zag ?_ | refine zap ?_ | refine zad ?_ | refine zaq ?_ | refine zac ?_)
      exact ⟨k + 1, by omega, by omega, wk_st [1] (by decide) ⟨⟨_, rfl, .rowE (by repeat' (first | exact Lo.s _ | exact zah | exact zba | refine zae ?_ ?_ | refine zaz ?_ ?_ | refine zai ?_ | refine zbb ?_ | refine Lo.cells ?_ | refine Lo.agg _ ?_ | refine Lo.sl _ ?_ | intro _)) (Eq.trans (b := ((unitL n p).take k).map eF ++ [eF (Fr.of 0)]) rfl hrow.symm)⟩, trivial⟩ ⟨.lo _ hlc, .lo _ (by repeat' (first | exact Lo.s _ | exact zah | refine zae ?_ ?_ | refine zai ?_ | refine Lo.cells ?_ | refine Lo.agg _ ?_ | refine Lo.ref _ ?_ | refine Lo.tup _ ?_ | refine Lo.fn _ _ ?_ | refine Lo.sl _ ?_ | intro _)), .lo _ (by repeat' (first | exact Lo.s _ | exact zah | refine zae ?_ ?_ | refine zai ?_ | refine Lo.cells ?_ | refine Lo.agg _ ?_ | refine Lo.ref _ ?_ | refine Lo.tup _ ?_ | refine Lo.fn _ _ ?_ | refine Lo.sl _ ?_ | intro _)), .own 1 0 2 _ _ rfl (by simp; omega), trivial⟩⟩
  · (refine aw_exit ?_; repeat (first | refine ath_x ?_ | refine abl_hit ?_ | refine abl_miss rfl ?_ | refine zaq ?_ | refine zap ?_ | refine zag ?_ | refine zad ?_ | refine zac ?_))
    refine zaf ?_
    first | refine zab rfl rfl (zaa rfl) (za3 (.inl rfl) rfl) ?_ | refine zab rfl rfl (zaa rfl) (zbi (.inl rfl) rfl) ?_ | refine zab rfl rfl (zaa rfl) (mv_s (.inl rfl) rfl) ?_ | refine zab rfl rfl (zaa rfl) (za4 (.inl rfl) rfl) ?_
    first | refine zab rfl rfl (zaa rfl) (za3 (.inr rfl) rfl) ?_ | refine zab rfl rfl (zaa rfl) (zbi (.inr rfl) rfl) ?_ | refine zab rfl rfl (zaa rfl) (mv_s (.inr rfl) rfl) ?_ | refine zab rfl rfl (zaa rfl) (za4 (.inr rfl) rfl) ?_
    refine zan ?_
    repeat (first | refine zag ?_ | refine zap ?_ | refine zad ?_ | refine zaq ?_ | refine zac ?_)
    (refine zbt ?_; repeat (first | refine ath_r ?_ | refine abl_r ?_))
    have e : (unitL n p).take k = unitL n p := List.take_of_length_le (by omega)
    refine post1f (.inr rfl) rfl ?_
    rw [e]
    exact .own _ _ _ _ _ rfl rfl (by simp; omega)
theorem prog2_pf (l : List Sft) (k i : Nat) (hi : i < l.length) : Pure P 45 [eI i, .ref [eL eSh l], .ref [eI k]] (eB (inB (gti l i).pd k)) := by
  have hc := containsI_pf (P := P) (gti l i).pd k
  refine aw_fn (by rw [IsP.eq (P := P)]; exact Try.func45) rfl rfl rfl rfl rfl (by repeat' (first | exact Lo.s _ | exact zah | refine zae ?_ ?_ | refine zai ?_ | refine Lo.cells ?_ | refine Lo.agg _ ?_ | refine Lo.ref _ ?_ | refine Lo.tup _ ?_ | refine Lo.fn _ _ ?_ | refine Lo.sl _ ?_ | intro _)) (by repeat' (first | exact Lo.s _ | exact zah | refine zae ?_ ?_ | refine zai ?_ | refine Lo.cells ?_ | refine Lo.agg _ ?_ | refine Lo.ref _ ?_ | refine Lo.tup _ ?_ | refine Lo.fn _ _ ?_ | refine Lo.sl _ ?_ | intro _)) (by simp only [argF]; rfl) ?_
  repeat (first | refine zag ?_ | refine zap ?_ | refine zad ?_ | refine zaq ?_ | refine zac ?_)
  refine zaf ?_
  refine zab rfl rfl (zaa rfl) (mv_s (.inr rfl) rfl) ?_
  refine zan ?_
  repeat (first | refine zag ?_ | refine zap ?_ | refine zad ?_ | refine zaq ?_ | refine zac ?_)
  all_goals refine aw_draw hmix ?_
  all_goals refine adraw_ex ?_
  all_goals (first | refine zas rfl rfl (zaa rfl) (fun _ => (zao rfl ta23 rfl)) ?_ | refine zb4 rfl rfl (zaa rfl) (look_ptr rfl ta23 rfl rfl rfl rfl rfl) ?_)
  all_goals refine zas rfl rfl (zaa rfl) (fun _ => (mv_s (.inl rfl) rfl)) ?_
  all_goals (first | refine zas rfl rfl (zaa rfl) (fun _ => (za1 rfl ts23 ti39 rfl rfl rfl (zb5 (by omega)) rfl)) ?_ | refine zas rfl rfl (zaa rfl) (fun _ => (zav rfl ts23 ti39 rfl rfl rfl (by omega))) ?_)
  all_goals (first | refine zas rfl rfl (zaa rfl) (fun _ => (zal rfl tf39_0 (by decide) rfl)) ?_ | refine zas rfl rfl (zaa rfl) (fun _ => (zaj rfl tf39_0 (by decide) rfl)) ?_)
  all_goals (first | refine zas rfl rfl (zaa rfl) (fun _ => (zao rfl ta22 rfl)) ?_ | refine zb4 rfl rfl (zaa rfl) (look_ptr rfl ta22 rfl rfl rfl rfl rfl) ?_)
  all_goals (first | refine zas rfl rfl (zaa rfl) (fun _ => (zao rfl ta3 rfl)) ?_ | refine zb4 rfl rfl (zaa rfl) (look_ptr rfl ta3 rfl rfl rfl rfl rfl) ?_)
  all_goals refine zas rfl rfl (zaa rfl) (fun _ => (za5 rfl rfl (hc) (zat rfl (zat rfl zbl)))) ?_
  all_goals refine zas rfl rfl (zaa rfl) (fun _ => (mv_s (.inr rfl) rfl)) ?_
  all_goals refine ex_nil (by kernel_rfl) ?_
  all_goals (repeat (first | refine zag ?_ | refine zap ?_ | refine zad ?_ | refine zaq ?_ | refine zac ?_))
  (refine zbt ?_; repeat (first | refine ath_r ?_ | refine abl_r ?_))
  exact post1 (.inr rfl) rfl rfl
theorem prog3_pf (k i : Nat) : Pure P 47 [eI i, .ref [eI k]] (eB (decide (i = k))) := by
  refine aw_fn (by rw [IsP.eq (P := P)]; exact Try.func47) rfl rfl rfl rfl rfl (by repeat' (first | exact Lo.s _ | exact zah | refine zae ?_ ?_ | refine zai ?_ | refine Lo.cells ?_ | refine Lo.agg _ ?_ | refine Lo.ref _ ?_ | refine Lo.tup _ ?_ | refine Lo.fn _ _ ?_ | refine Lo.sl _ ?_ | intro _)) (by repeat' (first | exact Lo.s _ | exact zah | refine zae ?_ ?_ | refine zai ?_ | refine Lo.cells ?_ | refine Lo.agg _ ?_ | refine Lo.ref _ ?_ | refine Lo.tup _ ?_ | refine Lo.fn _ _ ?_ | refine Lo.sl _ ?_ | intro _)) (by simp only [argF]; rfl) ?_
  repeat (first | refine zag ?_ | refine zap ?_ | refine zad ?_ | refine zaq ?_ | refine zac ?_)
  refine zaf ?_
  refine zab rfl rfl (zaa rfl) (mv_s (.inr rfl) rfl) ?_
  refine zan ?_
  repeat (first | refine zag ?_ | refine zap ?_ | refine zad ?_ | refine zaq ?_ | refine zac ?_)
  refine zaf ?_
  refine zab rfl rfl (zaa rfl) (mv_s (.inl rfl) rfl) ?_
  first | refine zab rfl rfl (zaa rfl) (zao rfl ta3 rfl) ?_ | refine zab rfl rfl (zaa rfl) (zar rfl ta3 rfl rfl rfl rfl rfl) ?_
  refine zab rfl rfl (zaa rfl) (does_eql rfl rfl rfl) ?_
  refine zab rfl rfl (zaa rfl) (mv_s (.inr rfl) rfl) ?_
  refine zan ?_
  repeat (first | refine zag ?_ | refine zap ?_ | refine zad ?_ | refine zaq ?_ | refine zac ?_)
  (refine zbt ?_; repeat (first | refine ath_r ?_ | refine abl_r ?_))
  exact post1 (.inr rfl) rfl (congrArg eB (by by_cases h : i = k <;> simp [h]; omega))
theorem prog4_pf (k i : Nat) : Pure P 48 [eI i, .ref [eI k]] (eB (decide (i = k))) := by
  refine aw_fn (by rw [IsP.eq (P := P)]; exact Try.func48) rfl rfl rfl rfl rfl (by repeat' (first | exact Lo.s _ | exact zah | refine zae ?_ ?_ | refine zai ?_ | refine Lo.cells ?_ | refine Lo.agg _ ?_ | refine Lo.ref _ ?_ | refine Lo.tup _ ?_ | refine Lo.fn _ _ ?_ | refine Lo.sl _ ?_ | intro _)) (by repeat' (first | exact Lo.s _ | exact zah | refine zae ?_ ?_ | refine zai ?_ | refine Lo.cells ?_ | refine Lo.agg _ ?_ | refine Lo.ref _ ?_ | refine Lo.tup _ ?_ | refine Lo.fn _ _ ?_ | refine Lo.sl _ ?_ | intro _)) (by simp only [argF]; rfl) ?_
  repeat (first | refine zag ?_ | refine zap ?_ | refine zad ?_ | refine zaq ?_ | refine zac ?_)
  refine zaf ?_
  refine zab rfl rfl (zaa rfl) (mv_s (.inr rfl) rfl) ?_
  refine zan ?_
  repeat (first | refine zag ?_ | refine zap ?_ | refine zad ?_ | refine zaq ?_ | refine zac ?_)
  refine zaf ?_
  refine zab rfl rfl (zaa rfl) (mv_s (.inl rfl) rfl) ?_
  first | refine zab rfl rfl (zaa rfl) (zao rfl ta3 rfl) ?_ | refine zab rfl rfl (zaa rfl) (zar rfl ta3 rfl rfl rfl rfl rfl) ?_
  refine zab rfl rfl (zaa rfl) (does_eql rfl rfl rfl) ?_
  refine zab rfl rfl (zaa rfl) (mv_s (.inr rfl) rfl) ?_
  refine zan ?_
  repeat (first | refine zag ?_ | refine zap ?_ | refine zad ?_ | refine zaq ?_ | refine zac ?_)
  (refine zbt ?_; repeat (first | refine ath_r ?_ | refine abl_r ?_))
  exact post1 (.inr rfl) rfl (congrArg eB (by by_cases h : i = k <;> simp [h]; omega))
/-! ## the closure that adds a row -/
theorem edraw_ex {N : Nat} {l : List Oper} {F : Frm} {σ : List Ob} {Q : Exit → Frm → List Ob → Prop} (h : EX P N l.toArray l [] l F σ (fun F' σ' => Q .normal F' σ')) : EDraw P N l F σ Q := by
  obtain ⟨F', σ', out, ks, sts, h1, h2, h3⟩ := h
  exact edraw_steps h1 (by simpa using h2) h3
/-- the program while it grows: the struct, and its four rows -/
def pgS (a b c d : Nat) (C : List Fr) (A : List (List Fr)) (R : List Int) (B : List Fr) : AV := .agg [.own a 2 (C.map eF).length, .own b 1 (A.map (eL eF)).length, .own c 1 (R.map eI).length, .own d 2 (B.map eF).length]
set_option maxHeartbeats 2000000 in
theorem prog1_call (n : Nat) (hn : n ≤ 12) (l : List Sft) (hl : l.length = n) (C : List Fr) (A : List (List Fr)) (R : List Int) (B : List Fr) (hA : A.length ≤ 60) (hR : R.length ≤ 60) (hB : B.length ≤ 60) (X Y : Ob) (f : FuncId) (caps : List AV) (p : Nat → Bool) (hlc : Lo 0 (.fn f caps)) (hf : ∀ i, i < n → Pure P f ([eI i] ++ caps) (eB (p i))) (rel v : Int) :
    CallE P 43 [.fn f caps, eI rel, eI v, .ptr 0 4 0 0, .ref [eL eSh l]] [.row 4 [pgS 1 2 3 4 C A R B], .row 2 (C.map eF), .row 1 (A.map (eL eF)), .row 1 (R.map eI), .row 2 (B.map eF), X, Y] (.tup [])
      [.row 4 [pgS 1 7 8 9 C (A ++ [unitL n p]) (R ++ [rel]) (B ++ [Fr.of v])], .row 2 (C.map eF), .dead, .dead, .dead, X, Y, .row 1 ((A ++ [unitL n p]).map (eL eF)), .row 1 ((R ++ [rel]).map eI), .row 2 ((B ++ [Fr.of v]).map eF)] := by
  subst hl
  have hu := unit_pf (P := P) l.length hn f caps p hlc hf
  generalize unitL l.length p = u at hu ⊢
  have e1 : (A ++ [u]).map (eL eF) = A.map (eL eF) ++ [eL eF u] := by simp
  have e2 : (R ++ [rel]).map eI = R.map eI ++ [eI rel] := by simp
  have e3 : (B ++ [Fr.of v]).map eF = B.map eF ++ [eF (Fr.of v)] := by simp
  have l1 : (A.map (eL eF) ++ [eL eF u]).length = (A.map (eL eF)).length + 1 := by simp
  have l2 : (R.map eI ++ [eI rel]).length = (R.map eI).length + 1 := by simp
  have l3 : (B.map eF ++ [eF (Fr.of v)]).length = (B.map eF).length + 1 := by simp
  unfold pgS
  rw [e1, e2, e3, l1, l2, l3]
  refine callE_fn (by rw [IsP.eq (P := P)]; exact Try.func43) rfl rfl (Nat.le_of_ble_eq_true rfl) ?_
  simp only [argF]
  refine ew_seq ?_
  all_goals refine ew_draw hmix ?_
  all_goals refine edraw_ex ?_
  all_goals (first | refine zas rfl rfl (zaa rfl) (fun _ => (zal rfl tf49_1 (by decide) rfl)) ?_ | refine zas rfl rfl (zaa rfl) (fun _ => (zaj rfl tf49_1 (by decide) rfl)) ?_)
  all_goals (first | refine zas rfl rfl (zaa rfl) (fun _ => (zao rfl ta47 rfl)) ?_ | refine zb4 rfl rfl (zaa rfl) (look_ptr rfl ta47 rfl rfl rfl rfl rfl) ?_)
  all_goals (first | refine zas rfl rfl (zaa rfl) (fun _ => (zao rfl ta23 rfl)) ?_ | refine zb4 rfl rfl (zaa rfl) (look_ptr rfl ta23 rfl rfl rfl rfl rfl) ?_)
  all_goals (first | refine zas rfl rfl (zaa rfl) (fun _ => (za0 rfl ts23 rfl)) ?_ | refine zas rfl rfl (zaa rfl) (fun _ => (za7 rfl ts23 rfl)) ?_ | refine zas rfl rfl (zaa rfl) (fun _ => (zaw rfl ts23 rfl)) ?_ | refine zas rfl rfl (zaa rfl) (fun _ => (zbc rfl ts23 rfl)) ?_ | refine zas rfl rfl (zaa rfl) (fun _ => (zax rfl ts23 rfl)) ?_)
  all_goals (first | refine zas rfl rfl (zaa rfl) (fun _ => (mv_fn (.inl rfl) rfl)) ?_ | refine zas rfl rfl (zaa rfl) (fun _ => (mv_s (.inl rfl) rfl)) ?_)
  all_goals refine zas rfl rfl (zaa rfl) (fun _ => (za5 rfl rfl (hu) (zat rfl (zat rfl zbl)))) ?_
  all_goals (first | refine zas rfl rfl (zaa rfl) (fun _ => (lit1_sF rfl ts47 ti27 rfl rfl rfl rfl)) ?_ | refine zas rfl rfl (zaa rfl) (fun _ => (lit1_slF rfl ts47 ti27 rfl rfl rfl rfl (by repeat' (first | exact Lo.s _ | exact zah | refine zae ?_ ?_ | refine zai ?_ | refine Lo.cells ?_ | refine Lo.agg _ ?_ | refine Lo.ref _ ?_ | refine Lo.tup _ ?_ | refine Lo.fn _ _ ?_ | refine Lo.sl _ ?_ | intro _)))) ?_ | refine zas rfl rfl (zaa rfl) (fun _ => (does_litAF rfl ts47 ti27 rfl rfl (by decide) (by decide) rfl rfl rfl (by repeat' (first | exact Lo.s _ | exact zah | refine zae ?_ ?_ | refine zai ?_ | refine Lo.cells ?_ | refine Lo.agg _ ?_ | refine Lo.ref _ ?_ | refine Lo.tup _ ?_ | refine Lo.fn _ _ ?_ | refine Lo.sl _ ?_ | intro _)))) ?_)
  all_goals (first | refine ex_eff rfl rfl (zaa rfl) (does_append rfl ts47 ti27 rfl (by decide) rfl rfl (by first | rfl | (simp; done) | (simp; omega)) rfl (by first | exact .own _ _ _ rfl rfl _ (by first | rfl | simp) | exact .emp | exact .nil | exact .sl _ (by first | simp; done | intro e he; simp at he; obtain ⟨_, _, rfl⟩ := he; rfl)) (by first | omega | (simp; omega) | (unfold maxLen; simp; omega)) (by first | omega | (simp; omega) | (unfold maxLen; simp; omega))) (fun _ h => app2_other h) ?_ | refine ex_eff rfl rfl (zaa rfl) (zbn rfl ts47 ti27 rfl (by decide) rfl (.inl rfl) rfl (by first | exact .own _ _ _ rfl rfl _ (by first | rfl | simp) | exact .emp | exact .nil | exact .sl _ (by first | simp; done | intro e he; simp at he; obtain ⟨_, _, rfl⟩ := he; rfl)) (by first | omega | (simp; omega) | (unfold maxLen; simp; omega)) (by first | omega | (simp; omega) | (unfold maxLen; simp; omega))) (fun _ h => app_other h) ?_ | refine ex_eff rfl rfl (zaa rfl) (zbn rfl ts47 ti27 rfl (by decide) rfl (.inr rfl) rfl (by first | exact .own _ _ _ rfl rfl _ (by first | rfl | simp) | exact .emp | exact .nil | exact .sl _ (by first | simp; done | intro e he; simp at he; obtain ⟨_, _, rfl⟩ := he; rfl)) (by first | omega | (simp; omega) | (unfold maxLen; simp; omega)) (by first | omega | (simp; omega) | (unfold maxLen; simp; omega))) (fun _ h => app_other h) ?_)
  all_goals (first | refine zas rfl rfl (zaa rfl) (fun _ => (zal rfl tf49_1 (by decide) rfl)) ?_ | refine zas rfl rfl (zaa rfl) (fun _ => (zaj rfl tf49_1 (by decide) rfl)) ?_)
  all_goals refine ex_eff0 rfl (zaa rfl) (zbe rfl ti47 rfl rfl rfl rfl rfl rfl (by decide) (by decide)) (fun _ h => set_other h) ?_
  all_goals refine ex_nil (by kernel_rfl) ?_
  all_goals (repeat (first | refine ew_seq ?_ | refine zap ?_ | refine ew_skip ?_ | refine zaq ?_ | refine ew_block ?_))
  refine ew_region ?_
  first | refine eops_op rfl rfl (zaa rfl) (zal rfl tf49_2 (by decide) rfl) ?_ | refine eops_op rfl rfl (zaa rfl) (zaj rfl tf49_2 (by decide) rfl) ?_
  first | refine eops_op rfl rfl (zaa rfl) (zao rfl ta22 rfl) ?_ | refine eops_op rfl rfl (zaa rfl) (zar rfl ta22 rfl rfl rfl rfl rfl) ?_
  refine eops_op rfl rfl (zaa rfl) (mv_s (.inl rfl) rfl) ?_
  first | refine eops_op rfl rfl (zaa rfl) (lit1_sF rfl ts22 ti3 rfl rfl rfl rfl) ?_ | refine eops_op rfl rfl (zaa rfl) (lit1_slF rfl ts22 ti3 rfl rfl rfl rfl (by repeat' (first | exact Lo.s _ | exact zah | refine zae ?_ ?_ | refine zai ?_ | refine Lo.cells ?_ | refine Lo.agg _ ?_ | refine Lo.ref _ ?_ | refine Lo.tup _ ?_ | refine Lo.fn _ _ ?_ | refine Lo.sl _ ?_ | intro _))) ?_ | refine eops_op rfl rfl (zaa rfl) (does_litAF rfl ts22 ti3 rfl rfl (by decide) (by decide) rfl rfl rfl (by repeat' (first | exact Lo.s _ | exact zah | refine zae ?_ ?_ | refine zai ?_ | refine Lo.cells ?_ | refine Lo.agg _ ?_ | refine Lo.ref _ ?_ | refine Lo.tup _ ?_ | refine Lo.fn _ _ ?_ | refine Lo.sl _ ?_ | intro _))) ?_
  first | refine eops_op rfl rfl (zaa rfl) (does_append rfl ts22 ti3 rfl (by decide) rfl rfl (by first | rfl | (simp; done) | (simp; omega)) rfl (by first | exact .own _ _ _ rfl rfl _ (by first | rfl | simp) | exact .emp | exact .nil | exact .sl _ (by first | simp; done | intro e he; simp at he; obtain ⟨_, _, rfl⟩ := he; rfl)) (by first | omega | (simp; omega) | (unfold maxLen; simp; omega)) (by first | omega | (simp; omega) | (unfold maxLen; simp; omega))) ?_ | refine eops_op rfl rfl (zaa rfl) (zbn rfl ts22 ti3 rfl (by decide) rfl (.inl rfl) rfl (by first | exact .own _ _ _ rfl rfl _ (by first | rfl | simp) | exact .emp | exact .nil | exact .sl _ (by first | simp; done | intro e he; simp at he; obtain ⟨_, _, rfl⟩ := he; rfl)) (by first | omega | (simp; omega) | (unfold maxLen; simp; omega)) (by first | omega | (simp; omega) | (unfold maxLen; simp; omega))) ?_ | refine eops_op rfl rfl (zaa rfl) (zbn rfl ts22 ti3 rfl (by decide) rfl (.inr rfl) rfl (by first | exact .own _ _ _ rfl rfl _ (by first | rfl | simp) | exact .emp | exact .nil | exact .sl _ (by first | simp; done | intro e he; simp at he; obtain ⟨_, _, rfl⟩ := he; rfl)) (by first | omega | (simp; omega) | (unfold maxLen; simp; omega)) (by first | omega | (simp; omega) | (unfold maxLen; simp; omega))) ?_
  first | refine eops_op rfl rfl (zaa rfl) (zal rfl tf49_2 (by decide) rfl) ?_ | refine eops_op rfl rfl (zaa rfl) (zaj rfl tf49_2 (by decide) rfl) ?_
  refine eops_eff rfl (zaa rfl) (zbe rfl ti22 rfl rfl rfl rfl rfl rfl (by decide) (by decide)) ?_
  refine eops_nil ?_
  repeat (first | refine ew_seq ?_ | refine zap ?_ | refine ew_skip ?_ | refine zaq ?_ | refine ew_block ?_)
  all_goals refine ew_draw hmix ?_
  all_goals refine edraw_ex ?_
  all_goals (first | refine zas rfl rfl (zaa rfl) (fun _ => (zal rfl tf49_3 (by decide) rfl)) ?_ | refine zas rfl rfl (zaa rfl) (fun _ => (zaj rfl tf49_3 (by decide) rfl)) ?_)
  all_goals (first | refine zas rfl rfl (zaa rfl) (fun _ => (zao rfl ta27 rfl)) ?_ | refine zb4 rfl rfl (zaa rfl) (look_ptr rfl ta27 rfl rfl rfl rfl rfl) ?_)
  all_goals refine zas rfl rfl (zaa rfl) (fun _ => (mv_s (.inl rfl) rfl)) ?_
  all_goals refine zas rfl rfl (zaa rfl) (fun _ => (za5 rfl rfl ((whole_pf _)) (zat rfl zbl))) ?_
  all_goals (first | refine zas rfl rfl (zaa rfl) (fun _ => (lit1_sF rfl ts27 ti59 rfl rfl rfl rfl)) ?_ | refine zas rfl rfl (zaa rfl) (fun _ => (lit1_slF rfl ts27 ti59 rfl rfl rfl rfl (by repeat' (first | exact Lo.s _ | exact zah | refine zae ?_ ?_ | refine zai ?_ | refine Lo.cells ?_ | refine Lo.agg _ ?_ | refine Lo.ref _ ?_ | refine Lo.tup _ ?_ | refine Lo.fn _ _ ?_ | refine Lo.sl _ ?_ | intro _)))) ?_ | refine zas rfl rfl (zaa rfl) (fun _ => (does_litAF rfl ts27 ti59 rfl rfl (by decide) (by decide) rfl rfl rfl (by repeat' (first | exact Lo.s _ | exact zah | refine zae ?_ ?_ | refine zai ?_ | refine Lo.cells ?_ | refine Lo.agg _ ?_ | refine Lo.ref _ ?_ | refine Lo.tup _ ?_ | refine Lo.fn _ _ ?_ | refine Lo.sl _ ?_ | intro _)))) ?_)
  all_goals (first | refine ex_eff rfl rfl (zaa rfl) (does_append rfl ts27 ti59 rfl (by decide) rfl rfl (by first | rfl | (simp; done) | (simp; omega)) rfl (by first | exact .own _ _ _ rfl rfl _ (by first | rfl | simp) | exact .emp | exact .nil | exact .sl _ (by first | simp; done | intro e he; simp at he; obtain ⟨_, _, rfl⟩ := he; rfl)) (by first | omega | (simp; omega) | (unfold maxLen; simp; omega)) (by first | omega | (simp; omega) | (unfold maxLen; simp; omega))) (fun _ h => app2_other h) ?_ | refine ex_eff rfl rfl (zaa rfl) (zbn rfl ts27 ti59 rfl (by decide) rfl (.inl rfl) rfl (by first | exact .own _ _ _ rfl rfl _ (by first | rfl | simp) | exact .emp | exact .nil | exact .sl _ (by first | simp; done | intro e he; simp at he; obtain ⟨_, _, rfl⟩ := he; rfl)) (by first | omega | (simp; omega) | (unfold maxLen; simp; omega)) (by first | omega | (simp; omega) | (unfold maxLen; simp; omega))) (fun _ h => app_other h) ?_ | refine ex_eff rfl rfl (zaa rfl) (zbn rfl ts27 ti59 rfl (by decide) rfl (.inr rfl) rfl (by first | exact .own _ _ _ rfl rfl _ (by first | rfl | simp) | exact .emp | exact .nil | exact .sl _ (by first | simp; done | intro e he; simp at he; obtain ⟨_, _, rfl⟩ := he; rfl)) (by first | omega | (simp; omega) | (unfold maxLen; simp; omega)) (by first | omega | (simp; omega) | (unfold maxLen; simp; omega))) (fun _ h => app_other h) ?_)
  all_goals (first | refine zas rfl rfl (zaa rfl) (fun _ => (zal rfl tf49_3 (by decide) rfl)) ?_ | refine zas rfl rfl (zaa rfl) (fun _ => (zaj rfl tf49_3 (by decide) rfl)) ?_)
  all_goals refine ex_eff0 rfl (zaa rfl) (zbe rfl ti27 rfl rfl rfl rfl rfl rfl (by decide) (by decide)) (fun _ h => set_other h) ?_
  all_goals refine ex_nil (by kernel_rfl) ?_
  all_goals (repeat (first | refine ew_seq ?_ | refine zap ?_ | refine ew_skip ?_ | refine zaq ?_ | refine ew_block ?_))
  exact ⟨.inl rfl, rfl, _, .nil, rfl⟩
end Go.Proofs.Ytmoipmnhgdmkpaa.Aw
end
section
namespace Go.Proofs.Ytmoipmnhgdmkpaa.Aw
set_option linter.unusedSimpArgs false
set_option linter.unusedVariables false
set_option linter.unusedSectionVars false
open Go.RowKit Go.Proofs
variable {P : Program} [IsP P]

abbrev Tr := List Fr × Int × Int
def tA (T : List Tr) : List (List Fr) := T.map Prod.fst
def tR (T : List Tr) : List Int := T.map fun t => t.2.1
def tB (T : List Tr) : List Fr := T.map fun t => Fr.of t.2.2
theorem tA_snoc (T : List Tr) (u : List Fr) (r v : Int) : tA (T ++ [(u, r, v)]) = tA T ++ [u] := by simp [tA]
theorem tR_snoc (T : List Tr) (u : List Fr) (r v : Int) : tR (T ++ [(u, r, v)]) = tR T ++ [r] := by simp [tR]
theorem tB_snoc (T : List Tr) (u : List Fr) (r v : Int) : tB (T ++ [(u, r, v)]) = tB T ++ [Fr.of v] := by simp [tB]
def uD (l : List Sft) (k : Nat) : List Fr := unitL l.length fun i => inB (gti l i).pd k
def uK (l : List Sft) (k : Nat) : List Fr := unitL l.length fun i => decide (i = k)
def t1 (d : List Int) (l : List Sft) : Nat → List Tr
  | 0 => []
  | n + 1 => t1 d l n ++ if 0 < gti d n then [(uD l n, 2, gti d n)] else []
def pe1 (d : List Int) : Nat → List Int
  | 0 => []
  | n + 1 => pe1 d n ++ if 0 < gti d n then [(n : Int)] else []
def t2 (d : List Int) (l : List Sft) (lo hi : List Int) : Nat → List Tr
  | 0 => t1 d l d.length
  | n + 1 => (t2 d l lo hi n ++ [(uK l n, 1, gti hi n)]) ++ if 0 < gti lo n then [(uK l n, 2, gti lo n)] else []
theorem t1_len (d : List Int) (l : List Sft) : ∀ n, (t1 d l n).length ≤ n
  | 0 => by simp [t1]
  | n + 1 => by
    have := t1_len d l n
    unfold t1
    split <;> simp <;> omega
theorem t2_len (d : List Int) (l : List Sft) (lo hi : List Int) : ∀ n, (t2 d l lo hi n).length ≤ d.length + 2 * n
  | 0 => by have := t1_len d l d.length; simpa [t2] using this
  | n + 1 => by
    have := t2_len d l lo hi n
    unfold t2
    split <;> simp <;> omega
theorem pe1_len (d : List Int) : ∀ n, (pe1 d n).length ≤ n
  | 0 => by simp [pe1]
  | n + 1 => by
    have := pe1_len d n
    unfold pe1
    split <;> simp <;> omega
def costL (l : List Sft) : List Fr := l.map fun s => Fr.of s.cost
theorem costL_len (l : List Sft) : (costL l).length = l.length := by simp [costL]
theorem costL_gti {l : List Sft} {k : Nat} (h : k < l.length) : gti (costL l) k = Fr.of (gti l k).cost := by
  have h1 : (costL l)[k]? = some (Fr.of (gti l k).cost) := by
    unfold costL
    rw [List.getElem?_map, gti_get h]; rfl
  unfold gti at *
  rw [h1]; rfl
def prgE (d : List Int) (l : List Sft) (lo hi : List Int) : LP := ⟨costL l, tA (t2 d l lo hi l.length), tR (t2 d l lo hi l.length), tB (t2 d l lo hi l.length)⟩
theorem post_cs {N : Nat} {F : Frm} {σ : List Ob} {ad u : Nat} {ty : TypeId} {id sz k n bt : Nat} {z : Option Value} {ob : Ob} {cs : List AV} {e1 r1 y r2 : AV} {e : Exit} (he : e = .normal ∨ e = .ret) (ha : tyAgg P ty = some true) (hi : zbx P ty = some (z, n, bt)) (hp : F.get ad = .ptr id sz k 0) (hs : σ[id]? = some ob) (ho : rowOf ob = some (sz, cs)) (hk : cs[k]? = some e1) (hn : e1.cells.length = n) (hu : F.get u = y) (hr1 : Fini σ (.agg e1.cells) r1) (hr2 : Fini σ y r2) : APost P [.cell ad ty, .tmp u] (.tup [r1, r2]) e F σ :=
  ⟨he, [.agg e1.cells, y], .cons _ _ _ _ (.cells ad ty id sz k n bt z ob cs e1 ha hi hp hs ho hk hn) (.cons _ _ _ _ (.tmp u y hu) .nil), .tup _ _ rfl (FiniL.cons hr1 (FiniL.cons hr2 FiniL.nil)).2⟩
def zP : AV := .agg [.s (.slice none 0 0), .s (.slice none 0 0), .s (.slice none 0 0), .s (.slice none 0 0)]
theorem zP_lo : ∀ e ∈ [zP], ∀ c ∈ e.cells, Lo 0 c := by
  intro e he c hc
  simp at he; subst he
  simp [zP, AV.cells] at hc; subst hc; exact .s _
/-- the store while a program is made -/
def stP (C : List Fr) (T : List Tr) (pe : List Int) : List Ob := [.row 4 [pgS 1 2 3 4 C (tA T) (tR T) (tB T)], .row 2 (C.map eF), .row 1 ((tA T).map (eL eF)), .row 1 ((tR T).map eI), .row 2 ((tB T).map eF), .row 4 [zP], .row 1 (pe.map eI)]
/-- the store after a row was added -/
def stQ (C : List Fr) (T : List Tr) (pe : List Int) : List Ob := [.row 4 [pgS 1 7 8 9 C (tA T) (tR T) (tB T)], .row 2 (C.map eF), .dead, .dead, .dead, .row 4 [zP], .row 1 (pe.map eI), .row 1 ((tA T).map (eL eF)), .row 1 ((tR T).map eI), .row 2 ((tB T).map eF)]
theorem prog1T (l : List Sft) (hl : l.length ≤ 12) (C : List Fr) (T : List Tr) (hT : T.length ≤ 60) (pe : List Int) (f : FuncId) (caps : List AV) (p : Nat → Bool) (hlc : Lo 0 (.fn f caps)) (hf : ∀ i, i < l.length → Pure P f ([eI i] ++ caps) (eB (p i))) (rel v : Int) :
    CallE P 43 [.fn f caps, eI rel, eI v, .ptr 0 4 0 0, .ref [eL eSh l]] (stP C T pe) (.tup []) (stQ C (T ++ [(unitL l.length p, rel, v)]) pe) := by
  have h := prog1_call (P := P) l.length hl l rfl C (tA T) (tR T) (tB T) (by simpa [tA] using hT) (by simpa [tR] using hT) (by simpa [tB] using hT) (.row 4 [zP]) (.row 1 (pe.map eI)) f caps p hlc hf rel v
  unfold stQ stP
  rw [tA_snoc, tR_snoc, tB_snoc]
  exact h
set_option maxHeartbeats 8000000 in
theorem program_pf (d : List Int) (l : List Sft) (lo hi : List Int) (hv : validS d l = true) (hlo : lo.length = l.length) (hhi : hi.length = l.length) : Pure P 31 [eL eI d, eL eSh l, eBx lo hi] (.tup [eP (prgE d l lo hi), eL eI (pe1 d d.length)]) := by
  obtain ⟨⟨q1, q2, q3⟩, qd, ql⟩ := validS_iff hv
  have hlL : Lo 0 (.ref [eL eSh l]) := (by repeat' (first | exact Lo.s _ | exact zah | refine zae ?_ ?_ | refine zai ?_ | refine Lo.cells ?_ | refine Lo.agg _ ?_ | refine Lo.ref _ ?_ | refine Lo.tup _ ?_ | refine Lo.fn _ _ ?_ | refine Lo.sl _ ?_ | intro _))
  refine aw_fn (by rw [IsP.eq (P := P)]; exact Try.func31) rfl rfl rfl rfl rfl (by repeat' (first | exact Lo.s _ | exact zah | refine zae ?_ ?_ | refine zai ?_ | refine Lo.cells ?_ | refine Lo.agg _ ?_ | refine Lo.ref _ ?_ | refine Lo.tup _ ?_ | refine Lo.fn _ _ ?_ | refine Lo.sl _ ?_ | intro _)) (by repeat' (first | exact Lo.s _ | exact zah | refine zae ?_ ?_ | refine zai ?_ | refine Lo.cells ?_ | refine Lo.agg _ ?_ | refine Lo.ref _ ?_ | refine Lo.tup _ ?_ | refine Lo.fn _ _ ?_ | refine Lo.sl _ ?_ | intro _)) (by simp only [argF]; rfl) ?_
  repeat (first | refine zag ?_ | refine zap ?_ | refine zad ?_ | refine zaq ?_ | refine zac ?_)
  refine zaf ?_
  refine zab rfl rfl (zaa rfl) (does_box rfl rfl rfl rfl) ?_
  refine zbr (wk_froz (id := 0) rfl) (zbr (wk_ref (d := 4) rfl rfl rfl) ?_)
  refine zab rfl rfl (zaa rfl) (does_box rfl rfl rfl rfl) ?_
  refine zbr (wk_froz (id := 1) rfl) (zbr (wk_ref (d := 5) rfl rfl rfl) ?_)
  refine zab rfl rfl (zaa rfl) (zbu rfl ti49 rfl rfl) ?_
  first | refine zab rfl rfl (zaa rfl) (za3 (.inr rfl) rfl) ?_ | refine zab rfl rfl (zaa rfl) (zbi (.inr rfl) rfl) ?_ | refine zab rfl rfl (zaa rfl) (mv_s (.inr rfl) rfl) ?_ | refine zab rfl rfl (zaa rfl) (za4 (.inr rfl) rfl) ?_
  refine zan ?_
  repeat (first | refine zag ?_ | refine zap ?_ | refine zad ?_ | refine zaq ?_ | refine zac ?_)
  refine zaf ?_
  refine zab rfl rfl (zaa rfl) (zbu rfl ti49 rfl rfl) ?_
  refine zan ?_
  repeat (first | refine zag ?_ | refine zap ?_ | refine zad ?_ | refine zaq ?_ | refine zac ?_)
  refine zaf ?_
  first | refine zab rfl rfl (zaa rfl) (za3 (.inr rfl) rfl) ?_ | refine zab rfl rfl (zaa rfl) (zbi (.inr rfl) rfl) ?_ | refine zab rfl rfl (zaa rfl) (mv_s (.inr rfl) rfl) ?_ | refine zab rfl rfl (zaa rfl) (za4 (.inr rfl) rfl) ?_
  refine zan ?_
  repeat (first | refine zag ?_ | refine zap ?_ | refine zad ?_ | refine zaq ?_ | refine zac ?_)
  refine zaf ?_
  first | refine zab rfl rfl (zaa rfl) (zao rfl ta23 rfl) ?_ | refine zab rfl rfl (zaa rfl) (zar rfl ta23 rfl rfl rfl rfl rfl) ?_
  first | refine zab rfl rfl (zaa rfl) (za0 rfl ts23 rfl) ?_ | refine zab rfl rfl (zaa rfl) (za7 rfl ts23 rfl) ?_ | refine zab rfl rfl (zaa rfl) (zaw rfl ts23 rfl) ?_ | refine zab rfl rfl (zaa rfl) (zbc rfl ts23 rfl) ?_ | refine zab rfl rfl (zaa rfl) (zax rfl ts23 rfl) ?_
  refine zab rfl rfl (zaa rfl) (mv_s (.inl rfl) rfl) ?_
  refine zan ?_
  repeat (first | refine zag ?_ | refine zap ?_ | refine zad ?_ | refine zaq ?_ | refine zac ?_)
  refine zb3 (wk_ownC (id := 3) (sz2 := 2) (e' := .agg [.own 4 2 0, .s (.slice none 0 0), .s (.slice none 0 0), .s (.slice none 0 0)]) (pre := []) (post := [.s (.slice none 0 0), .s (.slice none 0 0), .s (.slice none 0 0)]) rfl rfl rfl) ?_
  refine zb3 (wk_ownC (id := 3) (sz2 := 1) (e' := .agg [.own 4 2 0, .own 5 1 0, .s (.slice none 0 0), .s (.slice none 0 0)]) (pre := [.own 4 2 0]) (post := [.s (.slice none 0 0), .s (.slice none 0 0)]) rfl rfl rfl) ?_
  refine zb3 (wk_ownC (id := 3) (sz2 := 1) (e' := .agg [.own 4 2 0, .own 5 1 0, .own 6 1 0, .s (.slice none 0 0)]) (pre := [.own 4 2 0, .own 5 1 0]) (post := [.s (.slice none 0 0)]) rfl rfl rfl) ?_
  refine zb3 (wk_ownC (id := 3) (sz2 := 2) (e' := .agg [.own 4 2 0, .own 5 1 0, .own 6 1 0, .own 7 2 0]) (pre := [.own 4 2 0, .own 5 1 0, .own 6 1 0]) (post := []) rfl rfl rfl) ?_
  refine zb3 (wk_own (d := 9) 1 rfl (.inr rfl)) ?_
  refine aw_loops (S := Nat) (fun k => [(0, eL eI d), (4, .ref [eL eSh l]), (5, .ref (eBx lo hi).cells), (6, .ptr 5 4 0 0), (8, .ptr 0 4 0 0), (9, .own 6 1 0), (16, eL eSh l), (17, eI l.length), (18, eI k)]) (fun k => stP ((costL l).take k) [] []) (fun k => k ≤ l.length) (fun k => l.length - k) 0
    (wk_st [3, 4, 5, 6, 7, 2, 8] (by decide) ⟨⟨_, rfl, obRn_agg (.cons (.own _ _ _ _ _ rfl rfl) (.cons (.own _ _ _ _ _ rfl rfl) (.cons (.own _ _ _ _ _ rfl rfl) (.cons (.own _ _ _ _ _ rfl rfl) .nil))))⟩, ⟨_, rfl, .rowE (by repeat' (first | exact Lo.s _ | exact zah | exact zba | refine zae ?_ ?_ | refine zaz ?_ ?_ | refine zai ?_ | refine zbb ?_ | refine Lo.cells ?_ | refine Lo.agg _ ?_ | refine Lo.sl _ ?_ | intro _)) rfl⟩, ⟨_, rfl, .rowE (by repeat' (first | exact Lo.s _ | exact zah | exact zba | refine zae ?_ ?_ | refine zaz ?_ ?_ | refine zai ?_ | refine zbb ?_ | refine Lo.cells ?_ | refine Lo.agg _ ?_ | refine Lo.sl _ ?_ | intro _)) rfl⟩, ⟨_, rfl, .rowE (by repeat' (first | exact Lo.s _ | exact zah | exact zba | refine zae ?_ ?_ | refine zaz ?_ ?_ | refine zai ?_ | refine zbb ?_ | refine Lo.cells ?_ | refine Lo.agg _ ?_ | refine Lo.sl _ ?_ | intro _)) rfl⟩, ⟨_, rfl, .rowE (by repeat' (first | exact Lo.s _ | exact zah | exact zba | refine zae ?_ ?_ | refine zaz ?_ ?_ | refine zai ?_ | refine zbb ?_ | refine Lo.cells ?_ | refine Lo.agg _ ?_ | refine Lo.sl _ ?_ | intro _)) rfl⟩, ⟨_, rfl, .rowE zP_lo rfl⟩, ⟨_, rfl, .rowE (by repeat' (first | exact Lo.s _ | exact zah | exact zba | refine zae ?_ ?_ | refine zaz ?_ ?_ | refine zai ?_ | refine zbb ?_ | refine Lo.cells ?_ | refine Lo.agg _ ?_ | refine Lo.sl _ ?_ | intro _)) rfl⟩, trivial⟩ ⟨.lo _ (by repeat' (first | exact Lo.s _ | exact zah | refine zae ?_ ?_ | refine zai ?_ | refine Lo.cells ?_ | refine Lo.agg _ ?_ | refine Lo.ref _ ?_ | refine Lo.tup _ ?_ | refine Lo.fn _ _ ?_ | refine Lo.sl _ ?_ | intro _)), .lo _ hlL, .lo _ (by repeat' (first | exact Lo.s _ | exact zah | refine zae ?_ ?_ | refine zai ?_ | refine Lo.cells ?_ | refine Lo.agg _ ?_ | refine Lo.ref _ ?_ | refine Lo.tup _ ?_ | refine Lo.fn _ _ ?_ | refine Lo.sl _ ?_ | intro _)), .ptr 2 5 4 0 0 rfl, .ptr 3 0 4 0 0 rfl, .own 8 6 1 _ _ rfl rfl, .lo _ (by repeat' (first | exact Lo.s _ | exact zah | refine zae ?_ ?_ | refine zai ?_ | refine Lo.cells ?_ | refine Lo.agg _ ?_ | refine Lo.ref _ ?_ | refine Lo.tup _ ?_ | refine Lo.fn _ _ ?_ | refine Lo.sl _ ?_ | intro _)), .lo _ (by repeat' (first | exact Lo.s _ | exact zah | refine zae ?_ ?_ | refine zai ?_ | refine Lo.cells ?_ | refine Lo.agg _ ?_ | refine Lo.ref _ ?_ | refine Lo.tup _ ?_ | refine Lo.fn _ _ ?_ | refine Lo.sl _ ?_ | intro _)), .lo _ (by repeat' (first | exact Lo.s _ | exact zah | refine zae ?_ ?_ | refine zai ?_ | refine Lo.cells ?_ | refine Lo.agg _ ?_ | refine Lo.ref _ ?_ | refine Lo.tup _ ?_ | refine Lo.fn _ _ ?_ | refine Lo.sl _ ?_ | intro _)), trivial⟩) (Nat.zero_le _) (fun k hk => ?_)
  have hcl := costL_len l
  repeat (first | refine zag ?_ | refine zap ?_ | refine zad ?_ | refine zaq ?_ | refine zac ?_)
  all_goals refine zaf ?_
  all_goals (first | refine zbj rfl rfl (zaa rfl) (zbd rfl rfl rfl) (fun h19 => ?_) (fun h19 => ?_) | refine zbk rfl rfl (zaa rfl) (zbd rfl rfl rfl) (fun h19 => ?_) (fun h19 => ?_))
  all_goals refine zan ?_
  all_goals (repeat (first | refine zag ?_ | refine zap ?_ | refine zad ?_ | refine zaq ?_ | refine zac ?_))
  all_goals (first | refine zbq rfl ?_ | refine zbm rfl ?_)
  all_goals (repeat (first | refine zag ?_ | refine zap ?_ | refine zad ?_ | refine zaq ?_ | refine zac ?_))
  · have hlt : k < l.length := by omega
    have htk : (((costL l).take k).map eF).length = k := by simp; omega
    have hrow : ((costL l).take (k + 1)).map eF = ((costL l).take k).map eF ++ [eF (Fr.of (gti l k).cost)] := by
      rw [take_snoc (by omega), List.map_append, costL_gti hlt]; rfl
    have hrl : (((costL l).take (k + 1)).map eF).length = (((costL l).take k).map eF).length + 1 := by rw [hrow]; simp
    refine zaf ?_
    first | refine zab rfl rfl (zaa rfl) (za1 rfl ts23 ti39 rfl rfl rfl (zb5 (by omega)) rfl) ?_ | refine zab rfl rfl (zaa rfl) (zav rfl ts23 ti39 rfl rfl rfl (by omega)) ?_
    first | refine zab rfl rfl (zaa rfl) (za9 rfl ta39 ti39 rfl rfl) ?_ | refine zab rfl rfl (zaa rfl) (zbf rfl ta39 ti39 rfl rfl rfl rfl rfl) ?_ | refine zab rfl rfl (zaa rfl) (za8 rfl ta39 ti39 rfl (Nat.le_of_ble_eq_true rfl)) ?_ | refine zab rfl rfl (zaa rfl) (zbg rfl ta39 ti39 rfl rfl rfl rfl (Nat.le_of_ble_eq_true rfl)) ?_
    refine zab rfl rfl (zaa rfl) (zbu rfl ti39 rfl rfl) ?_
    refine zb2 rfl (zaa rfl) (zbe rfl ti39 rfl rfl rfl rfl rfl rfl (by decide) (by decide)) ?_
    refine zan ?_
    repeat (first | refine zag ?_ | refine zap ?_ | refine zad ?_ | refine zaq ?_ | refine zac ?_)
    refine zb3 (wk_froz (id := 7) rfl) ?_
    refine zb3 (wk_ref (d := 11) rfl rfl rfl) ?_
    all_goals refine aw_draw hmix ?_
    all_goals refine adraw_ex ?_
    all_goals (first | refine zas rfl rfl (zaa rfl) (fun _ => (zal rfl tf49_0 (by decide) rfl)) ?_ | refine zas rfl rfl (zaa rfl) (fun _ => (zaj rfl tf49_0 (by decide) rfl)) ?_)
    all_goals (first | refine zas rfl rfl (zaa rfl) (fun _ => (zao rfl ta27 rfl)) ?_ | refine zb4 rfl rfl (zaa rfl) (look_ptr rfl ta27 rfl rfl rfl rfl rfl) ?_)
    all_goals (first | refine zas rfl rfl (zaa rfl) (fun _ => (zal rfl tf39_1 (by decide) rfl)) ?_ | refine zas rfl rfl (zaa rfl) (fun _ => (zaj rfl tf39_1 (by decide) rfl)) ?_)
    all_goals (first | refine zas rfl rfl (zaa rfl) (fun _ => (zao rfl ta3 rfl)) ?_ | refine zb4 rfl rfl (zaa rfl) (look_ptr rfl ta3 rfl rfl rfl rfl rfl) ?_)
    all_goals refine zas rfl rfl (zaa rfl) (fun _ => (za5 rfl rfl ((whole_pf _)) (zat rfl zbl))) ?_
    all_goals (first | refine zas rfl rfl (zaa rfl) (fun _ => (lit1_sF rfl ts27 ti59 rfl rfl rfl rfl)) ?_ | refine zas rfl rfl (zaa rfl) (fun _ => (lit1_slF rfl ts27 ti59 rfl rfl rfl rfl (by repeat' (first | exact Lo.s _ | exact zah | refine zae ?_ ?_ | refine zai ?_ | refine Lo.cells ?_ | refine Lo.agg _ ?_ | refine Lo.ref _ ?_ | refine Lo.tup _ ?_ | refine Lo.fn _ _ ?_ | refine Lo.sl _ ?_ | intro _)))) ?_ | refine zas rfl rfl (zaa rfl) (fun _ => (does_litAF rfl ts27 ti59 rfl rfl (by decide) (by decide) rfl rfl rfl (by repeat' (first | exact Lo.s _ | exact zah | refine zae ?_ ?_ | refine zai ?_ | refine Lo.cells ?_ | refine Lo.agg _ ?_ | refine Lo.ref _ ?_ | refine Lo.tup _ ?_ | refine Lo.fn _ _ ?_ | refine Lo.sl _ ?_ | intro _)))) ?_)
    all_goals (first | refine ex_eff rfl rfl (zaa rfl) (does_append rfl ts27 ti59 rfl (by decide) rfl rfl (by first | rfl | (simp; done) | (simp; omega)) rfl (by first | exact .own _ _ _ rfl rfl _ (by first | rfl | simp) | exact .emp | exact .nil | exact .sl _ (by first | simp; done | intro e he; simp at he; obtain ⟨_, _, rfl⟩ := he; rfl)) (by first | omega | (simp; omega) | (unfold maxLen; simp; omega)) (by first | omega | (simp; omega) | (unfold maxLen; simp; omega))) (fun _ h => app2_other h) ?_ | refine ex_eff rfl rfl (zaa rfl) (zbn rfl ts27 ti59 rfl (by decide) rfl (.inl rfl) rfl (by first | exact .own _ _ _ rfl rfl _ (by first | rfl | simp) | exact .emp | exact .nil | exact .sl _ (by first | simp; done | intro e he; simp at he; obtain ⟨_, _, rfl⟩ := he; rfl)) (by first | omega | (simp; omega) | (unfold maxLen; simp; omega)) (by first | omega | (simp; omega) | (unfold maxLen; simp; omega))) (fun _ h => app_other h) ?_ | refine ex_eff rfl rfl (zaa rfl) (zbn rfl ts27 ti59 rfl (by decide) rfl (.inr rfl) rfl (by first | exact .own _ _ _ rfl rfl _ (by first | rfl | simp) | exact .emp | exact .nil | exact .sl _ (by first | simp; done | intro e he; simp at he; obtain ⟨_, _, rfl⟩ := he; rfl)) (by first | omega | (simp; omega) | (unfold maxLen; simp; omega)) (by first | omega | (simp; omega) | (unfold maxLen; simp; omega))) (fun _ h => app_other h) ?_)
    all_goals (first | refine zas rfl rfl (zaa rfl) (fun _ => (zal rfl tf49_0 (by decide) rfl)) ?_ | refine zas rfl rfl (zaa rfl) (fun _ => (zaj rfl tf49_0 (by decide) rfl)) ?_)
    all_goals refine ex_eff0 rfl (zaa rfl) (zbe rfl ti27 rfl rfl rfl rfl rfl rfl (by decide) (by decide)) (fun _ h => set_other h) ?_
    all_goals refine ex_nil (by kernel_rfl) ?_
    all_goals (repeat (first | refine zag ?_ | refine zap ?_ | refine zad ?_ | refine zaq ?_ | refine zac ?_))
    refine zaf ?_
    refine zab rfl rfl (zaa rfl) (zbw rfl rfl rfl (IntWalk.i64_in _ (by omega))) ?_
    refine zab rfl rfl (zaa rfl) (mv_s (.inl rfl) rfl) ?_
    refine zan ?_
    repeat (first | refine zag ?_ | refine zap ?_ | refine zad ?_ | refine zaq ?_ | refine zac ?_)
    exact ⟨k + 1, by omega, by omega, wk_st [0, 8, 2, 3, 4, 5, 6] (by decide) ⟨⟨_, rfl, obRn_agg (.cons (.own _ _ _ _ _ rfl hrl.symm) (.cons (.own _ _ _ _ _ rfl rfl) (.cons (.own _ _ _ _ _ rfl rfl) (.cons (.own _ _ _ _ _ rfl rfl) .nil))))⟩, ⟨_, rfl, .rowE (by repeat' (first | exact Lo.s _ | exact zah | exact zba | refine zae ?_ ?_ | refine zaz ?_ ?_ | refine zai ?_ | refine zbb ?_ | refine Lo.cells ?_ | refine Lo.agg _ ?_ | refine Lo.sl _ ?_ | intro _)) (Eq.trans (b := ((costL l).take k).map eF ++ [eF (Fr.of (gti l k).cost)]) rfl hrow.symm)⟩, ⟨_, rfl, .rowE (by repeat' (first | exact Lo.s _ | exact zah | exact zba | refine zae ?_ ?_ | refine zaz ?_ ?_ | refine zai ?_ | refine zbb ?_ | refine Lo.cells ?_ | refine Lo.agg _ ?_ | refine Lo.sl _ ?_ | intro _)) rfl⟩, ⟨_, rfl, .rowE (by repeat' (first | exact Lo.s _ | exact zah | exact zba | refine zae ?_ ?_ | refine zaz ?_ ?_ | refine zai ?_ | refine zbb ?_ | refine Lo.cells ?_ | refine Lo.agg _ ?_ | refine Lo.sl _ ?_ | intro _)) rfl⟩, ⟨_, rfl, .rowE (by repeat' (first | exact Lo.s _ | exact zah | exact zba | refine zae ?_ ?_ | refine zaz ?_ ?_ | refine zai ?_ | refine zbb ?_ | refine Lo.cells ?_ | refine Lo.agg _ ?_ | refine Lo.sl _ ?_ | intro _)) rfl⟩, ⟨_, rfl, .rowE zP_lo rfl⟩, ⟨_, rfl, .rowE (by repeat' (first | exact Lo.s _ | exact zah | exact zba | refine zae ?_ ?_ | refine zaz ?_ ?_ | refine zai ?_ | refine zbb ?_ | refine Lo.cells ?_ | refine Lo.agg _ ?_ | refine Lo.sl _ ?_ | intro _)) rfl⟩, trivial⟩ ⟨.lo _ (by repeat' (first | exact Lo.s _ | exact zah | refine zae ?_ ?_ | refine zai ?_ | refine Lo.cells ?_ | refine Lo.agg _ ?_ | refine Lo.ref _ ?_ | refine Lo.tup _ ?_ | refine Lo.fn _ _ ?_ | refine Lo.sl _ ?_ | intro _)), .lo _ hlL, .lo _ (by repeat' (first | exact Lo.s _ | exact zah | refine zae ?_ ?_ | refine zai ?_ | refine Lo.cells ?_ | refine Lo.agg _ ?_ | refine Lo.ref _ ?_ | refine Lo.tup _ ?_ | refine Lo.fn _ _ ?_ | refine Lo.sl _ ?_ | intro _)), .ptr 5 5 4 0 0 rfl, .ptr 0 0 4 0 0 rfl, .own 6 6 1 _ _ rfl rfl, .lo _ (by repeat' (first | exact Lo.s _ | exact zah | refine zae ?_ ?_ | refine zai ?_ | refine Lo.cells ?_ | refine Lo.agg _ ?_ | refine Lo.ref _ ?_ | refine Lo.tup _ ?_ | refine Lo.fn _ _ ?_ | refine Lo.sl _ ?_ | intro _)), .lo _ (by repeat' (first | exact Lo.s _ | exact zah | refine zae ?_ ?_ | refine zai ?_ | refine Lo.cells ?_ | refine Lo.agg _ ?_ | refine Lo.ref _ ?_ | refine Lo.tup _ ?_ | refine Lo.fn _ _ ?_ | refine Lo.sl _ ?_ | intro _)), .lo _ (by repeat' (first | exact Lo.s _ | exact zah | refine zae ?_ ?_ | refine zai ?_ | refine Lo.cells ?_ | refine Lo.agg _ ?_ | refine Lo.ref _ ?_ | refine Lo.tup _ ?_ | refine Lo.fn _ _ ?_ | refine Lo.sl _ ?_ | intro _)), trivial⟩⟩
  (refine aw_exit ?_; repeat (first | refine ath_x ?_ | refine abl_hit ?_ | refine abl_miss rfl ?_ | refine zaq ?_ | refine zap ?_ | refine zag ?_ | refine zad ?_ | refine zac ?_))
  have e : (costL l).take k = costL l := List.take_of_length_le (by omega)
  rw [e]
  refine zaf ?_
  refine zab rfl rfl (zaa rfl) (does_func rfl rfl) ?_
  first | refine zab rfl rfl (zaa rfl) (mv_fn (.inr rfl) rfl) ?_ | refine zab rfl rfl (zaa rfl) (mv_s (.inr rfl) rfl) ?_
  refine zan ?_
  repeat (first | refine zag ?_ | refine zap ?_ | refine zad ?_ | refine zaq ?_ | refine zac ?_)
  refine zaf ?_
  first | refine zab rfl rfl (zaa rfl) (za3 (.inl rfl) rfl) ?_ | refine zab rfl rfl (zaa rfl) (zbi (.inl rfl) rfl) ?_ | refine zab rfl rfl (zaa rfl) (mv_s (.inl rfl) rfl) ?_ | refine zab rfl rfl (zaa rfl) (za4 (.inl rfl) rfl) ?_
  first | refine zab rfl rfl (zaa rfl) (za0 rfl ts22 rfl) ?_ | refine zab rfl rfl (zaa rfl) (za7 rfl ts22 rfl) ?_ | refine zab rfl rfl (zaa rfl) (zaw rfl ts22 rfl) ?_ | refine zab rfl rfl (zaa rfl) (zbc rfl ts22 rfl) ?_ | refine zab rfl rfl (zaa rfl) (zax rfl ts22 rfl) ?_
  refine zab rfl rfl (zaa rfl) (mv_s (.inl rfl) rfl) ?_
  refine zan ?_
  repeat (first | refine zag ?_ | refine zap ?_ | refine zad ?_ | refine zaq ?_ | refine zac ?_)
  refine aw_loops (S := Nat) (fun n => [(4, .ref [eL eSh l]), (5, .ref (eBx lo hi).cells), (6, .ptr 5 4 0 0), (8, .ptr 0 4 0 0), (9, .own 6 1 (pe1 d n).length), (12, .fn 43 [.ptr 0 4 0 0, .ref [eL eSh l]]), (32, eL eI d), (33, eI d.length), (34, eI n)]) (fun n => stP (costL l) (t1 d l n) (pe1 d n)) (fun n => n ≤ d.length) (fun n => d.length - n) 0
    (wk_st [0, 1, 2, 3, 4, 5, 6] (by decide) ⟨⟨_, rfl, obRn_agg (.cons (.own _ _ _ _ _ rfl rfl) (.cons (.own _ _ _ _ _ rfl rfl) (.cons (.own _ _ _ _ _ rfl rfl) (.cons (.own _ _ _ _ _ rfl rfl) .nil))))⟩, ⟨_, rfl, .rowE (by repeat' (first | exact Lo.s _ | exact zah | exact zba | refine zae ?_ ?_ | refine zaz ?_ ?_ | refine zai ?_ | refine zbb ?_ | refine Lo.cells ?_ | refine Lo.agg _ ?_ | refine Lo.sl _ ?_ | intro _)) rfl⟩, ⟨_, rfl, .rowE (by repeat' (first | exact Lo.s _ | exact zah | exact zba | refine zae ?_ ?_ | refine zaz ?_ ?_ | refine zai ?_ | refine zbb ?_ | refine Lo.cells ?_ | refine Lo.agg _ ?_ | refine Lo.sl _ ?_ | intro _)) rfl⟩, ⟨_, rfl, .rowE (by repeat' (first | exact Lo.s _ | exact zah | exact zba | refine zae ?_ ?_ | refine zaz ?_ ?_ | refine zai ?_ | refine zbb ?_ | refine Lo.cells ?_ | refine Lo.agg _ ?_ | refine Lo.sl _ ?_ | intro _)) rfl⟩, ⟨_, rfl, .rowE (by repeat' (first | exact Lo.s _ | exact zah | exact zba | refine zae ?_ ?_ | refine zaz ?_ ?_ | refine zai ?_ | refine zbb ?_ | refine Lo.cells ?_ | refine Lo.agg _ ?_ | refine Lo.sl _ ?_ | intro _)) rfl⟩, ⟨_, rfl, .rowE zP_lo rfl⟩, ⟨_, rfl, .rowE (by repeat' (first | exact Lo.s _ | exact zah | exact zba | refine zae ?_ ?_ | refine zaz ?_ ?_ | refine zai ?_ | refine zbb ?_ | refine Lo.cells ?_ | refine Lo.agg _ ?_ | refine Lo.sl _ ?_ | intro _)) rfl⟩, trivial⟩ ⟨.lo _ hlL, .lo _ (by repeat' (first | exact Lo.s _ | exact zah | refine zae ?_ ?_ | refine zai ?_ | refine Lo.cells ?_ | refine Lo.agg _ ?_ | refine Lo.ref _ ?_ | refine Lo.tup _ ?_ | refine Lo.fn _ _ ?_ | refine Lo.sl _ ?_ | intro _)), .ptr 5 5 4 0 0 rfl, .ptr 0 0 4 0 0 rfl, .own 6 6 1 _ _ rfl rfl, .fn _ _ _ rfl (RnL.cons (.ptr 0 0 4 0 0 rfl) (RnL.cons (.lo _ hlL) RnL.nil)).2, .lo _ (by repeat' (first | exact Lo.s _ | exact zah | refine zae ?_ ?_ | refine zai ?_ | refine Lo.cells ?_ | refine Lo.agg _ ?_ | refine Lo.ref _ ?_ | refine Lo.tup _ ?_ | refine Lo.fn _ _ ?_ | refine Lo.sl _ ?_ | intro _)), .lo _ (by repeat' (first | exact Lo.s _ | exact zah | refine zae ?_ ?_ | refine zai ?_ | refine Lo.cells ?_ | refine Lo.agg _ ?_ | refine Lo.ref _ ?_ | refine Lo.tup _ ?_ | refine Lo.fn _ _ ?_ | refine Lo.sl _ ?_ | intro _)), .lo _ (by repeat' (first | exact Lo.s _ | exact zah | refine zae ?_ ?_ | refine zai ?_ | refine Lo.cells ?_ | refine Lo.agg _ ?_ | refine Lo.ref _ ?_ | refine Lo.tup _ ?_ | refine Lo.fn _ _ ?_ | refine Lo.sl _ ?_ | intro _)), trivial⟩) (Nat.zero_le _) (fun n hn => ?_)
  have hpl := pe1_len d n
  have htl := t1_len d l n
  repeat (first | refine zag ?_ | refine zap ?_ | refine zad ?_ | refine zaq ?_ | refine zac ?_)
  all_goals refine zaf ?_
  all_goals (first | refine zbj rfl rfl (zaa rfl) (zbd rfl rfl rfl) (fun h35 => ?_) (fun h35 => ?_) | refine zbk rfl rfl (zaa rfl) (zbd rfl rfl rfl) (fun h35 => ?_) (fun h35 => ?_))
  all_goals refine zan ?_
  all_goals (repeat (first | refine zag ?_ | refine zap ?_ | refine zad ?_ | refine zaq ?_ | refine zac ?_))
  all_goals (first | refine zbq rfl ?_ | refine zbm rfl ?_)
  all_goals (repeat (first | refine zag ?_ | refine zap ?_ | refine zad ?_ | refine zaq ?_ | refine zac ?_))
  · have hlt : n < d.length := by omega
    have hT : t1 d l (n + 1) = t1 d l n ++ if 0 < gti d n then [(uD l n, 2, gti d n)] else [] := rfl
    have hp : pe1 d (n + 1) = pe1 d n ++ if 0 < gti d n then [(n : Int)] else [] := rfl
    refine zaf ?_
    refine zab rfl rfl (zaa rfl) (mv_s (.inl rfl) rfl) ?_
    first | refine zab rfl rfl (zaa rfl) (za1 rfl ts22 ti3 rfl rfl rfl (zb5 (by omega)) rfl) ?_ | refine zab rfl rfl (zaa rfl) (zav rfl ts22 ti3 rfl rfl rfl (by omega)) ?_
    first | refine zab rfl rfl (zaa rfl) (zao rfl ta3 rfl) ?_ | refine zab rfl rfl (zaa rfl) (zar rfl ta3 rfl rfl rfl rfl rfl) ?_
    refine zab rfl rfl (zaa rfl) (zbu rfl ti3 rfl rfl) ?_
    refine zb2 rfl (zaa rfl) (zbe rfl ti3 rfl rfl rfl rfl rfl rfl (by decide) (by decide)) ?_
    refine zab rfl rfl (zaa rfl) (mv_s (.inr rfl) rfl) ?_
    refine zan ?_
    repeat (first | refine zag ?_ | refine zap ?_ | refine zad ?_ | refine zaq ?_ | refine zac ?_)
    all_goals refine zaf ?_
    all_goals refine zab rfl rfl (zaa rfl) (mv_s (.inl rfl) rfl) ?_
    all_goals (first | refine zbj rfl rfl (zaa rfl) (zbz rfl rfl rfl) (fun h40 => ?_) (fun h40 => ?_) | refine zbk rfl rfl (zaa rfl) (zbz rfl rfl rfl) (fun h40 => ?_) (fun h40 => ?_))
    all_goals refine zan ?_
    all_goals (repeat (first | refine zag ?_ | refine zap ?_ | refine zad ?_ | refine zaq ?_ | refine zac ?_))
    all_goals (first | refine zbq rfl ?_ | refine zbm rfl ?_)
    all_goals (repeat (first | refine zag ?_ | refine zap ?_ | refine zad ?_ | refine zaq ?_ | refine zac ?_))
    · rw [if_pos h40] at hT hp
      have hpr : (pe1 d (n + 1)).map eI = (pe1 d n).map eI ++ [eI n] := by rw [hp]; simp
      have hpn : (pe1 d (n + 1)).length = (pe1 d n).length + 1 := by rw [hp]; simp
      have hml : ((pe1 d n).map eI).length = (pe1 d n).length := by simp
      refine zaf ?_
      first | refine zab rfl rfl (zaa rfl) (za3 (.inl rfl) rfl) ?_ | refine zab rfl rfl (zaa rfl) (zbi (.inl rfl) rfl) ?_ | refine zab rfl rfl (zaa rfl) (mv_s (.inl rfl) rfl) ?_ | refine zab rfl rfl (zaa rfl) (za4 (.inl rfl) rfl) ?_
      first | refine zab rfl rfl (zaa rfl) (zao rfl ta3 rfl) ?_ | refine zab rfl rfl (zaa rfl) (zar rfl ta3 rfl rfl rfl rfl rfl) ?_
      first | refine zab rfl rfl (zaa rfl) (lit1_sF rfl ts22 ti3 rfl rfl rfl rfl) ?_ | refine zab rfl rfl (zaa rfl) (lit1_slF rfl ts22 ti3 rfl rfl rfl rfl (by repeat' (first | exact Lo.s _ | exact zah | refine zae ?_ ?_ | refine zai ?_ | refine Lo.cells ?_ | refine Lo.agg _ ?_ | refine Lo.ref _ ?_ | refine Lo.tup _ ?_ | refine Lo.fn _ _ ?_ | refine Lo.sl _ ?_ | intro _))) ?_ | refine zab rfl rfl (zaa rfl) (does_litAF rfl ts22 ti3 rfl rfl (by decide) (by decide) rfl rfl rfl (by repeat' (first | exact Lo.s _ | exact zah | refine zae ?_ ?_ | refine zai ?_ | refine Lo.cells ?_ | refine Lo.agg _ ?_ | refine Lo.ref _ ?_ | refine Lo.tup _ ?_ | refine Lo.fn _ _ ?_ | refine Lo.sl _ ?_ | intro _))) ?_
      first | refine zab rfl rfl (zaa rfl) (does_append rfl ts22 ti3 rfl (by decide) rfl rfl (by first | rfl | (simp; done) | (simp; omega)) rfl (by first | exact .own _ _ _ rfl rfl _ (by first | rfl | simp) | exact .emp | exact .nil | exact .sl _ (by first | simp; done | intro e he; simp at he; obtain ⟨_, _, rfl⟩ := he; rfl)) (by first | omega | (simp; omega) | (unfold maxLen; simp; omega)) (by first | omega | (simp; omega) | (unfold maxLen; simp; omega))) ?_ | refine zab rfl rfl (zaa rfl) (zbn rfl ts22 ti3 rfl (by decide) rfl (.inl rfl) rfl (by first | exact .own _ _ _ rfl rfl _ (by first | rfl | simp) | exact .emp | exact .nil | exact .sl _ (by first | simp; done | intro e he; simp at he; obtain ⟨_, _, rfl⟩ := he; rfl)) (by first | omega | (simp; omega) | (unfold maxLen; simp; omega)) (by first | omega | (simp; omega) | (unfold maxLen; simp; omega))) ?_ | refine zab rfl rfl (zaa rfl) (zbn rfl ts22 ti3 rfl (by decide) rfl (.inr rfl) rfl (by first | exact .own _ _ _ rfl rfl _ (by first | rfl | simp) | exact .emp | exact .nil | exact .sl _ (by first | simp; done | intro e he; simp at he; obtain ⟨_, _, rfl⟩ := he; rfl)) (by first | omega | (simp; omega) | (unfold maxLen; simp; omega)) (by first | omega | (simp; omega) | (unfold maxLen; simp; omega))) ?_
      first | refine zab rfl rfl (zaa rfl) (za3 (.inr rfl) rfl) ?_ | refine zab rfl rfl (zaa rfl) (zbi (.inr rfl) rfl) ?_ | refine zab rfl rfl (zaa rfl) (mv_s (.inr rfl) rfl) ?_ | refine zab rfl rfl (zaa rfl) (za4 (.inr rfl) rfl) ?_
      refine zan ?_
      repeat (first | refine zag ?_ | refine zap ?_ | refine zad ?_ | refine zaq ?_ | refine zac ?_)
      refine zb3 (wk_froz (id := 7) rfl) ?_
      refine zb3 (wk_ref (d := 13) rfl rfl rfl) ?_
      refine zb3 (F' := [(4, .ref [eL eSh l]), (5, .ref (eBx lo hi).cells), (6, .ptr 5 4 0 0), (8, .ptr 0 4 0 0), (9, .own 6 1 (pe1 d (n + 1)).length), (12, .fn 43 [.ptr 0 4 0 0, .ref [eL eSh l]]), (13, .ref [eI n]), (14, eI (gti d n)), (32, eL eI d), (33, eI d.length), (34, eI n)]) (σ' := stP (costL l) (t1 d l n) (pe1 d (n + 1))) (wk_st [0, 1, 2, 3, 4, 5, 8] (by decide) ⟨⟨_, rfl, obRn_agg (.cons (.own _ _ _ _ _ rfl rfl) (.cons (.own _ _ _ _ _ rfl rfl) (.cons (.own _ _ _ _ _ rfl rfl) (.cons (.own _ _ _ _ _ rfl rfl) .nil))))⟩, ⟨_, rfl, .rowE (by repeat' (first | exact Lo.s _ | exact zah | exact zba | refine zae ?_ ?_ | refine zaz ?_ ?_ | refine zai ?_ | refine zbb ?_ | refine Lo.cells ?_ | refine Lo.agg _ ?_ | refine Lo.sl _ ?_ | intro _)) rfl⟩, ⟨_, rfl, .rowE (by repeat' (first | exact Lo.s _ | exact zah | exact zba | refine zae ?_ ?_ | refine zaz ?_ ?_ | refine zai ?_ | refine zbb ?_ | refine Lo.cells ?_ | refine Lo.agg _ ?_ | refine Lo.sl _ ?_ | intro _)) rfl⟩, ⟨_, rfl, .rowE (by repeat' (first | exact Lo.s _ | exact zah | exact zba | refine zae ?_ ?_ | refine zaz ?_ ?_ | refine zai ?_ | refine zbb ?_ | refine Lo.cells ?_ | refine Lo.agg _ ?_ | refine Lo.sl _ ?_ | intro _)) rfl⟩, ⟨_, rfl, .rowE (by repeat' (first | exact Lo.s _ | exact zah | exact zba | refine zae ?_ ?_ | refine zaz ?_ ?_ | refine zai ?_ | refine zbb ?_ | refine Lo.cells ?_ | refine Lo.agg _ ?_ | refine Lo.sl _ ?_ | intro _)) rfl⟩, ⟨_, rfl, .rowE zP_lo rfl⟩, ⟨_, rfl, .rowE (by repeat' (first | exact Lo.s _ | exact zah | exact zba | refine zae ?_ ?_ | refine zaz ?_ ?_ | refine zai ?_ | refine zbb ?_ | refine Lo.cells ?_ | refine Lo.agg _ ?_ | refine Lo.sl _ ?_ | intro _)) (Eq.trans (b := (pe1 d n).map eI ++ [eI n]) rfl hpr.symm)⟩, trivial⟩ ⟨.lo _ hlL, .lo _ (by repeat' (first | exact Lo.s _ | exact zah | refine zae ?_ ?_ | refine zai ?_ | refine Lo.cells ?_ | refine Lo.agg _ ?_ | refine Lo.ref _ ?_ | refine Lo.tup _ ?_ | refine Lo.fn _ _ ?_ | refine Lo.sl _ ?_ | intro _)), .ptr 5 5 4 0 0 rfl, .ptr 0 0 4 0 0 rfl, .own 8 6 1 _ _ rfl (by rw [hpn]; simp), .fn _ _ _ rfl (RnL.cons (.ptr 0 0 4 0 0 rfl) (RnL.cons (.lo _ hlL) RnL.nil)).2, .lo _ (by repeat' (first | exact Lo.s _ | exact zah | refine zae ?_ ?_ | refine zai ?_ | refine Lo.cells ?_ | refine Lo.agg _ ?_ | refine Lo.ref _ ?_ | refine Lo.tup _ ?_ | refine Lo.fn _ _ ?_ | refine Lo.sl _ ?_ | intro _)), .lo _ (by repeat' (first | exact Lo.s _ | exact zah | refine zae ?_ ?_ | refine zai ?_ | refine Lo.cells ?_ | refine Lo.agg _ ?_ | refine Lo.ref _ ?_ | refine Lo.tup _ ?_ | refine Lo.fn _ _ ?_ | refine Lo.sl _ ?_ | intro _)), .lo _ (by repeat' (first | exact Lo.s _ | exact zah | refine zae ?_ ?_ | refine zai ?_ | refine Lo.cells ?_ | refine Lo.agg _ ?_ | refine Lo.ref _ ?_ | refine Lo.tup _ ?_ | refine Lo.fn _ _ ?_ | refine Lo.sl _ ?_ | intro _)), .lo _ (by repeat' (first | exact Lo.s _ | exact zah | refine zae ?_ ?_ | refine zai ?_ | refine Lo.cells ?_ | refine Lo.agg _ ?_ | refine Lo.ref _ ?_ | refine Lo.tup _ ?_ | refine Lo.fn _ _ ?_ | refine Lo.sl _ ?_ | intro _)), .lo _ (by repeat' (first | exact Lo.s _ | exact zah | refine zae ?_ ?_ | refine zai ?_ | refine Lo.cells ?_ | refine Lo.agg _ ?_ | refine Lo.ref _ ?_ | refine Lo.tup _ ?_ | refine Lo.fn _ _ ?_ | refine Lo.sl _ ?_ | intro _)), trivial⟩) ?_
      have hcall := prog1T (P := P) l q3 (costL l) (t1 d l n) (by omega) (pe1 d (n + 1)) 45 [.ref [eL eSh l], .ref [eI n]] (fun i => inB (gti l i).pd n) (by repeat' (first | exact Lo.s _ | exact zah | refine zae ?_ ?_ | refine zai ?_ | refine Lo.cells ?_ | refine Lo.agg _ ?_ | refine Lo.ref _ ?_ | refine Lo.tup _ ?_ | refine Lo.fn _ _ ?_ | refine Lo.sl _ ?_ | intro _)) (fun i hi => prog2_pf l n i hi) 2 (gti d n)
      rw [show t1 d l n ++ [(unitL l.length (fun i => inB (gti l i).pd n), 2, gti d n)] = t1 d l (n + 1) from hT.symm] at hcall
      refine zaf ?_
      first | refine zab rfl rfl (zaa rfl) (mv_fn (.inl rfl) rfl) ?_ | refine zab rfl rfl (zaa rfl) (mv_s (.inl rfl) rfl) ?_
      refine zab rfl rfl (zaa rfl) (does_func rfl rfl) ?_
      refine zab rfl rfl (zaa rfl) (mv_s (.inl rfl) rfl) ?_
      refine zab rfl rfl (zaa rfl) (does_callE rfl rfl hcall rfl) ?_
      refine zan ?_
      repeat (first | refine zag ?_ | refine zap ?_ | refine zad ?_ | refine zaq ?_ | refine zac ?_)
      refine zaf ?_
      refine zab rfl rfl (zaa rfl) (zbw rfl rfl rfl (IntWalk.i64_in _ (by omega))) ?_
      refine zab rfl rfl (zaa rfl) (mv_s (.inl rfl) rfl) ?_
      refine zan ?_
      repeat (first | refine zag ?_ | refine zap ?_ | refine zad ?_ | refine zaq ?_ | refine zac ?_)
      exact ⟨n + 1, by omega, by omega, wk_st [0, 1, 7, 8, 9, 5, 6] (by decide) ⟨⟨_, rfl, obRn_agg (.cons (.own _ _ _ _ _ rfl rfl) (.cons (.own _ _ _ _ _ rfl rfl) (.cons (.own _ _ _ _ _ rfl rfl) (.cons (.own _ _ _ _ _ rfl rfl) .nil))))⟩, ⟨_, rfl, .rowE (by repeat' (first | exact Lo.s _ | exact zah | exact zba | refine zae ?_ ?_ | refine zaz ?_ ?_ | refine zai ?_ | refine zbb ?_ | refine Lo.cells ?_ | refine Lo.agg _ ?_ | refine Lo.sl _ ?_ | intro _)) rfl⟩, ⟨_, rfl, .rowE (by repeat' (first | exact Lo.s _ | exact zah | exact zba | refine zae ?_ ?_ | refine zaz ?_ ?_ | refine zai ?_ | refine zbb ?_ | refine Lo.cells ?_ | refine Lo.agg _ ?_ | refine Lo.sl _ ?_ | intro _)) rfl⟩, ⟨_, rfl, .rowE (by repeat' (first | exact Lo.s _ | exact zah | exact zba | refine zae ?_ ?_ | refine zaz ?_ ?_ | refine zai ?_ | refine zbb ?_ | refine Lo.cells ?_ | refine Lo.agg _ ?_ | refine Lo.sl _ ?_ | intro _)) rfl⟩, ⟨_, rfl, .rowE (by repeat' (first | exact Lo.s _ | exact zah | exact zba | refine zae ?_ ?_ | refine zaz ?_ ?_ | refine zai ?_ | refine zbb ?_ | refine Lo.cells ?_ | refine Lo.agg _ ?_ | refine Lo.sl _ ?_ | intro _)) rfl⟩, ⟨_, rfl, .rowE zP_lo rfl⟩, ⟨_, rfl, .rowE (by repeat' (first | exact Lo.s _ | exact zah | exact zba | refine zae ?_ ?_ | refine zaz ?_ ?_ | refine zai ?_ | refine zbb ?_ | refine Lo.cells ?_ | refine Lo.agg _ ?_ | refine Lo.sl _ ?_ | intro _)) rfl⟩, trivial⟩ ⟨.lo _ hlL, .lo _ (by repeat' (first | exact Lo.s _ | exact zah | refine zae ?_ ?_ | refine zai ?_ | refine Lo.cells ?_ | refine Lo.agg _ ?_ | refine Lo.ref _ ?_ | refine Lo.tup _ ?_ | refine Lo.fn _ _ ?_ | refine Lo.sl _ ?_ | intro _)), .ptr 5 5 4 0 0 rfl, .ptr 0 0 4 0 0 rfl, .own 6 6 1 _ _ rfl rfl, .fn _ _ _ rfl (RnL.cons (.ptr 0 0 4 0 0 rfl) (RnL.cons (.lo _ hlL) RnL.nil)).2, .lo _ (by repeat' (first | exact Lo.s _ | exact zah | refine zae ?_ ?_ | refine zai ?_ | refine Lo.cells ?_ | refine Lo.agg _ ?_ | refine Lo.ref _ ?_ | refine Lo.tup _ ?_ | refine Lo.fn _ _ ?_ | refine Lo.sl _ ?_ | intro _)), .lo _ (by repeat' (first | exact Lo.s _ | exact zah | refine zae ?_ ?_ | refine zai ?_ | refine Lo.cells ?_ | refine Lo.agg _ ?_ | refine Lo.ref _ ?_ | refine Lo.tup _ ?_ | refine Lo.fn _ _ ?_ | refine Lo.sl _ ?_ | intro _)), .lo _ (by repeat' (first | exact Lo.s _ | exact zah | refine zae ?_ ?_ | refine zai ?_ | refine Lo.cells ?_ | refine Lo.agg _ ?_ | refine Lo.ref _ ?_ | refine Lo.tup _ ?_ | refine Lo.fn _ _ ?_ | refine Lo.sl _ ?_ | intro _)), trivial⟩⟩
    · rw [if_neg h40, List.append_nil] at hT hp
      refine zaf ?_
      refine zab rfl rfl (zaa rfl) (zbw rfl rfl rfl (IntWalk.i64_in _ (by omega))) ?_
      refine zab rfl rfl (zaa rfl) (mv_s (.inl rfl) rfl) ?_
      refine zan ?_
      repeat (first | refine zag ?_ | refine zap ?_ | refine zad ?_ | refine zaq ?_ | refine zac ?_)
      rw [← hT, ← hp]
      exact ⟨n + 1, by omega, by omega, wk_st [0, 1, 2, 3, 4, 5, 6] (by decide) ⟨⟨_, rfl, obRn_agg (.cons (.own _ _ _ _ _ rfl rfl) (.cons (.own _ _ _ _ _ rfl rfl) (.cons (.own _ _ _ _ _ rfl rfl) (.cons (.own _ _ _ _ _ rfl rfl) .nil))))⟩, ⟨_, rfl, .rowE (by repeat' (first | exact Lo.s _ | exact zah | exact zba | refine zae ?_ ?_ | refine zaz ?_ ?_ | refine zai ?_ | refine zbb ?_ | refine Lo.cells ?_ | refine Lo.agg _ ?_ | refine Lo.sl _ ?_ | intro _)) rfl⟩, ⟨_, rfl, .rowE (by repeat' (first | exact Lo.s _ | exact zah | exact zba | refine zae ?_ ?_ | refine zaz ?_ ?_ | refine zai ?_ | refine zbb ?_ | refine Lo.cells ?_ | refine Lo.agg _ ?_ | refine Lo.sl _ ?_ | intro _)) rfl⟩, ⟨_, rfl, .rowE (by repeat' (first | exact Lo.s _ | exact zah | exact zba | refine zae ?_ ?_ | refine zaz ?_ ?_ | refine zai ?_ | refine zbb ?_ | refine Lo.cells ?_ | refine Lo.agg _ ?_ | refine Lo.sl _ ?_ | intro _)) rfl⟩, ⟨_, rfl, .rowE (by repeat' (first | exact Lo.s _ | exact zah | exact zba | refine zae ?_ ?_ | refine zaz ?_ ?_ | refine zai ?_ | refine zbb ?_ | refine Lo.cells ?_ | refine Lo.agg _ ?_ | refine Lo.sl _ ?_ | intro _)) rfl⟩, ⟨_, rfl, .rowE zP_lo rfl⟩, ⟨_, rfl, .rowE (by repeat' (first | exact Lo.s _ | exact zah | exact zba | refine zae ?_ ?_ | refine zaz ?_ ?_ | refine zai ?_ | refine zbb ?_ | refine Lo.cells ?_ | refine Lo.agg _ ?_ | refine Lo.sl _ ?_ | intro _)) rfl⟩, trivial⟩ ⟨.lo _ hlL, .lo _ (by repeat' (first | exact Lo.s _ | exact zah | refine zae ?_ ?_ | refine zai ?_ | refine Lo.cells ?_ | refine Lo.agg _ ?_ | refine Lo.ref _ ?_ | refine Lo.tup _ ?_ | refine Lo.fn _ _ ?_ | refine Lo.sl _ ?_ | intro _)), .ptr 5 5 4 0 0 rfl, .ptr 0 0 4 0 0 rfl, .own 6 6 1 _ _ rfl rfl, .fn _ _ _ rfl (RnL.cons (.ptr 0 0 4 0 0 rfl) (RnL.cons (.lo _ hlL) RnL.nil)).2, .lo _ (by repeat' (first | exact Lo.s _ | exact zah | refine zae ?_ ?_ | refine zai ?_ | refine Lo.cells ?_ | refine Lo.agg _ ?_ | refine Lo.ref _ ?_ | refine Lo.tup _ ?_ | refine Lo.fn _ _ ?_ | refine Lo.sl _ ?_ | intro _)), .lo _ (by repeat' (first | exact Lo.s _ | exact zah | refine zae ?_ ?_ | refine zai ?_ | refine Lo.cells ?_ | refine Lo.agg _ ?_ | refine Lo.ref _ ?_ | refine Lo.tup _ ?_ | refine Lo.fn _ _ ?_ | refine Lo.sl _ ?_ | intro _)), .lo _ (by repeat' (first | exact Lo.s _ | exact zah | refine zae ?_ ?_ | refine zai ?_ | refine Lo.cells ?_ | refine Lo.agg _ ?_ | refine Lo.ref _ ?_ | refine Lo.tup _ ?_ | refine Lo.fn _ _ ?_ | refine Lo.sl _ ?_ | intro _)), trivial⟩⟩
  have e : n = d.length := by omega
  subst e
  (refine aw_exit ?_; repeat (first | refine ath_x ?_ | refine abl_hit ?_ | refine abl_miss rfl ?_ | refine zaq ?_ | refine zap ?_ | refine zag ?_ | refine zad ?_ | refine zac ?_))
  refine zaf ?_
  first | refine zab rfl rfl (zaa rfl) (zao rfl ta23 rfl) ?_ | refine zab rfl rfl (zaa rfl) (zar rfl ta23 rfl rfl rfl rfl rfl) ?_
  first | refine zab rfl rfl (zaa rfl) (za0 rfl ts23 rfl) ?_ | refine zab rfl rfl (zaa rfl) (za7 rfl ts23 rfl) ?_ | refine zab rfl rfl (zaa rfl) (zaw rfl ts23 rfl) ?_ | refine zab rfl rfl (zaa rfl) (zbc rfl ts23 rfl) ?_ | refine zab rfl rfl (zaa rfl) (zax rfl ts23 rfl) ?_
  refine zab rfl rfl (zaa rfl) (mv_s (.inl rfl) rfl) ?_
  refine zan ?_
  repeat (first | refine zag ?_ | refine zap ?_ | refine zad ?_ | refine zaq ?_ | refine zac ?_)
  refine aw_loops (S := Nat) (fun k => [(5, .ref (eBx lo hi).cells), (6, .ptr 5 4 0 0), (8, .ptr 0 4 0 0), (9, .own 6 1 (pe1 d d.length).length), (12, .fn 43 [.ptr 0 4 0 0, .ref [eL eSh l]]), (50, eL eSh l), (51, eI l.length), (52, eI k)]) (fun k => stP (costL l) (t2 d l lo hi k) (pe1 d d.length)) (fun k => k ≤ l.length) (fun k => l.length - k) 0
    (wk_st [0, 1, 2, 3, 4, 5, 6] (by decide) ⟨⟨_, rfl, obRn_agg (.cons (.own _ _ _ _ _ rfl rfl) (.cons (.own _ _ _ _ _ rfl rfl) (.cons (.own _ _ _ _ _ rfl rfl) (.cons (.own _ _ _ _ _ rfl rfl) .nil))))⟩, ⟨_, rfl, .rowE (by repeat' (first | exact Lo.s _ | exact zah | exact zba | refine zae ?_ ?_ | refine zaz ?_ ?_ | refine zai ?_ | refine zbb ?_ | refine Lo.cells ?_ | refine Lo.agg _ ?_ | refine Lo.sl _ ?_ | intro _)) rfl⟩, ⟨_, rfl, .rowE (by repeat' (first | exact Lo.s _ | exact zah | exact zba | refine zae ?_ ?_ | refine zaz ?_ ?_ | refine zai ?_ | refine zbb ?_ | refine Lo.cells ?_ | refine Lo.agg _ ?_ | refine Lo.sl _ ?_ | intro _)) rfl⟩, ⟨_, rfl, .rowE (by repeat' (first | exact Lo.s _ | exact zah | exact zba | refine zae ?_ ?_ | refine zaz ?_ ?_ | refine zai ?_ | refine zbb ?_ | refine Lo.cells ?_ | refine Lo.agg _ ?_ | refine Lo.sl _ ?_ | intro _)) rfl⟩, ⟨_, rfl, .rowE (by repeat' (first | exact Lo.s _ | exact zah | exact zba | refine zae ?_ ?_ | refine zaz ?_ ?_ | refine zai ?_ | refine zbb ?_ | refine Lo.cells ?_ | refine Lo.agg _ ?_ | refine Lo.sl _ ?_ | intro _)) rfl⟩, ⟨_, rfl, .rowE zP_lo rfl⟩, ⟨_, rfl, .rowE (by repeat' (first | exact Lo.s _ | exact zah | exact zba | refine zae ?_ ?_ | refine zaz ?_ ?_ | refine zai ?_ | refine zbb ?_ | refine Lo.cells ?_ | refine Lo.agg _ ?_ | refine Lo.sl _ ?_ | intro _)) rfl⟩, trivial⟩ ⟨.lo _ (by repeat' (first | exact Lo.s _ | exact zah | refine zae ?_ ?_ | refine zai ?_ | refine Lo.cells ?_ | refine Lo.agg _ ?_ | refine Lo.ref _ ?_ | refine Lo.tup _ ?_ | refine Lo.fn _ _ ?_ | refine Lo.sl _ ?_ | intro _)), .ptr 5 5 4 0 0 rfl, .ptr 0 0 4 0 0 rfl, .own 6 6 1 _ _ rfl rfl, .fn _ _ _ rfl (RnL.cons (.ptr 0 0 4 0 0 rfl) (RnL.cons (.lo _ hlL) RnL.nil)).2, .lo _ (by repeat' (first | exact Lo.s _ | exact zah | refine zae ?_ ?_ | refine zai ?_ | refine Lo.cells ?_ | refine Lo.agg _ ?_ | refine Lo.ref _ ?_ | refine Lo.tup _ ?_ | refine Lo.fn _ _ ?_ | refine Lo.sl _ ?_ | intro _)), .lo _ (by repeat' (first | exact Lo.s _ | exact zah | refine zae ?_ ?_ | refine zai ?_ | refine Lo.cells ?_ | refine Lo.agg _ ?_ | refine Lo.ref _ ?_ | refine Lo.tup _ ?_ | refine Lo.fn _ _ ?_ | refine Lo.sl _ ?_ | intro _)), .lo _ (by repeat' (first | exact Lo.s _ | exact zah | refine zae ?_ ?_ | refine zai ?_ | refine Lo.cells ?_ | refine Lo.agg _ ?_ | refine Lo.ref _ ?_ | refine Lo.tup _ ?_ | refine Lo.fn _ _ ?_ | refine Lo.sl _ ?_ | intro _)), trivial⟩) (Nat.zero_le _) (fun k hk => ?_)
  have htl := t2_len d l lo hi k
  repeat (first | refine zag ?_ | refine zap ?_ | refine zad ?_ | refine zaq ?_ | refine zac ?_)
  all_goals refine zaf ?_
  all_goals (first | refine zbj rfl rfl (zaa rfl) (zbd rfl rfl rfl) (fun h53 => ?_) (fun h53 => ?_) | refine zbk rfl rfl (zaa rfl) (zbd rfl rfl rfl) (fun h53 => ?_) (fun h53 => ?_))
  all_goals refine zan ?_
  all_goals (repeat (first | refine zag ?_ | refine zap ?_ | refine zad ?_ | refine zaq ?_ | refine zac ?_))
  all_goals (first | refine zbq rfl ?_ | refine zbm rfl ?_)
  all_goals (repeat (first | refine zag ?_ | refine zap ?_ | refine zad ?_ | refine zaq ?_ | refine zac ?_))
  · have hlt : k < l.length := by omega
    have hT : t2 d l lo hi (k + 1) = (t2 d l lo hi k ++ [(uK l k, 1, gti hi k)]) ++ if 0 < gti lo k then [(uK l k, 2, gti lo k)] else [] := rfl
    refine zaf ?_
    refine zab rfl rfl (zaa rfl) (mv_s (.inl rfl) rfl) ?_
    refine zab rfl rfl (zaa rfl) (zbu rfl ti3 rfl rfl) ?_
    refine zb2 rfl (zaa rfl) (zbe rfl ti3 rfl rfl rfl rfl rfl rfl (by decide) (by decide)) ?_
    refine zan ?_
    repeat (first | refine zag ?_ | refine zap ?_ | refine zad ?_ | refine zaq ?_ | refine zac ?_)
    refine zb3 (wk_froz (id := 7) rfl) ?_
    refine zb3 (wk_ref (d := 15) rfl rfl rfl) ?_
    refine zb3 (F' := [(5, .ref (eBx lo hi).cells), (6, .ptr 5 4 0 0), (8, .ptr 0 4 0 0), (9, .own 6 1 (pe1 d d.length).length), (12, .fn 43 [.ptr 0 4 0 0, .ref [eL eSh l]]), (15, .ref [eI k]), (50, eL eSh l), (51, eI l.length), (52, eI k)]) (σ' := stP (costL l) (t2 d l lo hi k) (pe1 d d.length)) (wk_st [0, 1, 2, 3, 4, 5, 6] (by decide) ⟨⟨_, rfl, obRn_agg (.cons (.own _ _ _ _ _ rfl rfl) (.cons (.own _ _ _ _ _ rfl rfl) (.cons (.own _ _ _ _ _ rfl rfl) (.cons (.own _ _ _ _ _ rfl rfl) .nil))))⟩, ⟨_, rfl, .rowE (by repeat' (first | exact Lo.s _ | exact zah | exact zba | refine zae ?_ ?_ | refine zaz ?_ ?_ | refine zai ?_ | refine zbb ?_ | refine Lo.cells ?_ | refine Lo.agg _ ?_ | refine Lo.sl _ ?_ | intro _)) rfl⟩, ⟨_, rfl, .rowE (by repeat' (first | exact Lo.s _ | exact zah | exact zba | refine zae ?_ ?_ | refine zaz ?_ ?_ | refine zai ?_ | refine zbb ?_ | refine Lo.cells ?_ | refine Lo.agg _ ?_ | refine Lo.sl _ ?_ | intro _)) rfl⟩, ⟨_, rfl, .rowE (by repeat' (first | exact Lo.s _ | exact zah | exact zba | refine zae ?_ ?_ | refine zaz ?_ ?_ | refine zai ?_ | refine zbb ?_ | refine Lo.cells ?_ | refine Lo.agg _ ?_ | refine Lo.sl _ ?_ | intro _)) rfl⟩, ⟨_, rfl, .rowE (by repeat' (first | exact Lo.s _ | exact zah | exact zba | refine zae ?_ ?_ | refine zaz ?_ ?_ | refine zai ?_ | refine zbb ?_ | refine Lo.cells ?_ | refine Lo.agg _ ?_ | refine Lo.sl _ ?_ | intro _)) rfl⟩, ⟨_, rfl, .rowE zP_lo rfl⟩, ⟨_, rfl, .rowE (by repeat' (first | exact Lo.s _ | exact zah | exact zba | refine zae ?_ ?_ | refine zaz ?_ ?_ | refine zai ?_ | refine zbb ?_ | refine Lo.cells ?_ | refine Lo.agg _ ?_ | refine Lo.sl _ ?_ | intro _)) rfl⟩, trivial⟩ ⟨.lo _ (by repeat' (first | exact Lo.s _ | exact zah | refine zae ?_ ?_ | refine zai ?_ | refine Lo.cells ?_ | refine Lo.agg _ ?_ | refine Lo.ref _ ?_ | refine Lo.tup _ ?_ | refine Lo.fn _ _ ?_ | refine Lo.sl _ ?_ | intro _)), .ptr 5 5 4 0 0 rfl, .ptr 0 0 4 0 0 rfl, .own 6 6 1 _ _ rfl rfl, .fn _ _ _ rfl (RnL.cons (.ptr 0 0 4 0 0 rfl) (RnL.cons (.lo _ hlL) RnL.nil)).2, .lo _ (by repeat' (first | exact Lo.s _ | exact zah | refine zae ?_ ?_ | refine zai ?_ | refine Lo.cells ?_ | refine Lo.agg _ ?_ | refine Lo.ref _ ?_ | refine Lo.tup _ ?_ | refine Lo.fn _ _ ?_ | refine Lo.sl _ ?_ | intro _)), .lo _ (by repeat' (first | exact Lo.s _ | exact zah | refine zae ?_ ?_ | refine zai ?_ | refine Lo.cells ?_ | refine Lo.agg _ ?_ | refine Lo.ref _ ?_ | refine Lo.tup _ ?_ | refine Lo.fn _ _ ?_ | refine Lo.sl _ ?_ | intro _)), .lo _ (by repeat' (first | exact Lo.s _ | exact zah | refine zae ?_ ?_ | refine zai ?_ | refine Lo.cells ?_ | refine Lo.agg _ ?_ | refine Lo.ref _ ?_ | refine Lo.tup _ ?_ | refine Lo.fn _ _ ?_ | refine Lo.sl _ ?_ | intro _)), .lo _ (by repeat' (first | exact Lo.s _ | exact zah | refine zae ?_ ?_ | refine zai ?_ | refine Lo.cells ?_ | refine Lo.agg _ ?_ | refine Lo.ref _ ?_ | refine Lo.tup _ ?_ | refine Lo.fn _ _ ?_ | refine Lo.sl _ ?_ | intro _)), trivial⟩) ?_
    have hcall := prog1T (P := P) l q3 (costL l) (t2 d l lo hi k) (by omega) (pe1 d d.length) 47 [.ref [eI k]] (fun i => decide (i = k)) (by repeat' (first | exact Lo.s _ | exact zah | refine zae ?_ ?_ | refine zai ?_ | refine Lo.cells ?_ | refine Lo.agg _ ?_ | refine Lo.ref _ ?_ | refine Lo.tup _ ?_ | refine Lo.fn _ _ ?_ | refine Lo.sl _ ?_ | intro _)) (fun i hi => prog3_pf k i) 1 (gti hi k)
    refine zaf ?_
    first | refine zab rfl rfl (zaa rfl) (mv_fn (.inl rfl) rfl) ?_ | refine zab rfl rfl (zaa rfl) (mv_s (.inl rfl) rfl) ?_
    refine zab rfl rfl (zaa rfl) (does_func rfl rfl) ?_
    first | refine zab rfl rfl (zaa rfl) (zal rfl tf69_1 (by decide) rfl) ?_ | refine zab rfl rfl (zaa rfl) (zaj rfl tf69_1 (by decide) rfl) ?_
    first | refine zab rfl rfl (zaa rfl) (zao rfl ta22 rfl) ?_ | refine zab rfl rfl (zaa rfl) (zar rfl ta22 rfl rfl rfl rfl rfl) ?_
    first | refine zab rfl rfl (zaa rfl) (zao rfl ta3 rfl) ?_ | refine zab rfl rfl (zaa rfl) (zar rfl ta3 rfl rfl rfl rfl rfl) ?_
    first | refine zab rfl rfl (zaa rfl) (za1 rfl ts22 ti3 rfl rfl rfl (zb5 (by omega)) rfl) ?_ | refine zab rfl rfl (zaa rfl) (zav rfl ts22 ti3 rfl rfl rfl (by omega)) ?_
    first | refine zab rfl rfl (zaa rfl) (zao rfl ta3 rfl) ?_ | refine zab rfl rfl (zaa rfl) (zar rfl ta3 rfl rfl rfl rfl rfl) ?_
    refine zab rfl rfl (zaa rfl) (does_callE rfl rfl hcall rfl) ?_
    refine zan ?_
    repeat (first | refine zag ?_ | refine zap ?_ | refine zad ?_ | refine zaq ?_ | refine zac ?_)
    obtain ⟨T1, hT1⟩ : ∃ T1, T1 = t2 d l lo hi k ++ [(unitL l.length (fun i => decide (i = k)), 1, gti hi k)] := ⟨_, rfl⟩
    rw [← hT1]
    have hT1l : T1.length = (t2 d l lo hi k).length + 1 := by rw [hT1]; simp
    replace hT : t2 d l lo hi (k + 1) = T1 ++ if 0 < gti lo k then [(uK l k, 2, gti lo k)] else [] := by rw [hT, hT1]; rfl
    clear hT1 hcall
    refine zb3 (F' := [(5, .ref (eBx lo hi).cells), (6, .ptr 5 4 0 0), (8, .ptr 0 4 0 0), (9, .own 6 1 (pe1 d d.length).length), (12, .fn 43 [.ptr 0 4 0 0, .ref [eL eSh l]]), (15, .ref [eI k]), (50, eL eSh l), (51, eI l.length), (52, eI k)]) (σ' := stP (costL l) T1 (pe1 d d.length)) (wk_st [0, 1, 7, 8, 9, 5, 6] (by decide) ⟨⟨_, rfl, obRn_agg (.cons (.own _ _ _ _ _ rfl rfl) (.cons (.own _ _ _ _ _ rfl rfl) (.cons (.own _ _ _ _ _ rfl rfl) (.cons (.own _ _ _ _ _ rfl rfl) .nil))))⟩, ⟨_, rfl, .rowE (by repeat' (first | exact Lo.s _ | exact zah | exact zba | refine zae ?_ ?_ | refine zaz ?_ ?_ | refine zai ?_ | refine zbb ?_ | refine Lo.cells ?_ | refine Lo.agg _ ?_ | refine Lo.sl _ ?_ | intro _)) rfl⟩, ⟨_, rfl, .rowE (by repeat' (first | exact Lo.s _ | exact zah | exact zba | refine zae ?_ ?_ | refine zaz ?_ ?_ | refine zai ?_ | refine zbb ?_ | refine Lo.cells ?_ | refine Lo.agg _ ?_ | refine Lo.sl _ ?_ | intro _)) rfl⟩, ⟨_, rfl, .rowE (by repeat' (first | exact Lo.s _ | exact zah | exact zba | refine zae ?_ ?_ | refine zaz ?_ ?_ | refine zai ?_ | refine zbb ?_ | refine Lo.cells ?_ | refine Lo.agg _ ?_ | refine Lo.sl _ ?_ | intro _)) rfl⟩, ⟨_, rfl, .rowE (by repeat' (first | exact Lo.s _ | exact zah | exact zba | refine zae ?_ ?_ | refine zaz ?_ ?_ | refine zai ?_ | refine zbb ?_ | refine Lo.cells ?_ | refine Lo.agg _ ?_ | refine Lo.sl _ ?_ | intro _)) rfl⟩, ⟨_, rfl, .rowE zP_lo rfl⟩, ⟨_, rfl, .rowE (by repeat' (first | exact Lo.s _ | exact zah | exact zba | refine zae ?_ ?_ | refine zaz ?_ ?_ | refine zai ?_ | refine zbb ?_ | refine Lo.cells ?_ | refine Lo.agg _ ?_ | refine Lo.sl _ ?_ | intro _)) rfl⟩, trivial⟩ ⟨.lo _ (by repeat' (first | exact Lo.s _ | exact zah | refine zae ?_ ?_ | refine zai ?_ | refine Lo.cells ?_ | refine Lo.agg _ ?_ | refine Lo.ref _ ?_ | refine Lo.tup _ ?_ | refine Lo.fn _ _ ?_ | refine Lo.sl _ ?_ | intro _)), .ptr 5 5 4 0 0 rfl, .ptr 0 0 4 0 0 rfl, .own 6 6 1 _ _ rfl rfl, .fn _ _ _ rfl (RnL.cons (.ptr 0 0 4 0 0 rfl) (RnL.cons (.lo _ hlL) RnL.nil)).2, .lo _ (by repeat' (first | exact Lo.s _ | exact zah | refine zae ?_ ?_ | refine zai ?_ | refine Lo.cells ?_ | refine Lo.agg _ ?_ | refine Lo.ref _ ?_ | refine Lo.tup _ ?_ | refine Lo.fn _ _ ?_ | refine Lo.sl _ ?_ | intro _)), .lo _ (by repeat' (first | exact Lo.s _ | exact zah | refine zae ?_ ?_ | refine zai ?_ | refine Lo.cells ?_ | refine Lo.agg _ ?_ | refine Lo.ref _ ?_ | refine Lo.tup _ ?_ | refine Lo.fn _ _ ?_ | refine Lo.sl _ ?_ | intro _)), .lo _ (by repeat' (first | exact Lo.s _ | exact zah | refine zae ?_ ?_ | refine zai ?_ | refine Lo.cells ?_ | refine Lo.agg _ ?_ | refine Lo.ref _ ?_ | refine Lo.tup _ ?_ | refine Lo.fn _ _ ?_ | refine Lo.sl _ ?_ | intro _)), .lo _ (by repeat' (first | exact Lo.s _ | exact zah | refine zae ?_ ?_ | refine zai ?_ | refine Lo.cells ?_ | refine Lo.agg _ ?_ | refine Lo.ref _ ?_ | refine Lo.tup _ ?_ | refine Lo.fn _ _ ?_ | refine Lo.sl _ ?_ | intro _)), trivial⟩) ?_
    all_goals refine zaf ?_
    all_goals (first | refine zab rfl rfl (zaa rfl) (zal rfl tf69_0 (by decide) rfl) ?_ | refine zab rfl rfl (zaa rfl) (zaj rfl tf69_0 (by decide) rfl) ?_)
    all_goals (first | refine zab rfl rfl (zaa rfl) (zao rfl ta22 rfl) ?_ | refine zab rfl rfl (zaa rfl) (zar rfl ta22 rfl rfl rfl rfl rfl) ?_)
    all_goals (first | refine zab rfl rfl (zaa rfl) (zao rfl ta3 rfl) ?_ | refine zab rfl rfl (zaa rfl) (zar rfl ta3 rfl rfl rfl rfl rfl) ?_)
    all_goals (first | refine zab rfl rfl (zaa rfl) (za1 rfl ts22 ti3 rfl rfl rfl (zb5 (by omega)) rfl) ?_ | refine zab rfl rfl (zaa rfl) (zav rfl ts22 ti3 rfl rfl rfl (by omega)) ?_)
    all_goals (first | refine zab rfl rfl (zaa rfl) (zao rfl ta3 rfl) ?_ | refine zab rfl rfl (zaa rfl) (zar rfl ta3 rfl rfl rfl rfl rfl) ?_)
    all_goals (first | refine zbj rfl rfl (zaa rfl) (zbz rfl rfl rfl) (fun h68 => ?_) (fun h68 => ?_) | refine zbk rfl rfl (zaa rfl) (zbz rfl rfl rfl) (fun h68 => ?_) (fun h68 => ?_))
    all_goals refine zan ?_
    all_goals (repeat (first | refine zag ?_ | refine zap ?_ | refine zad ?_ | refine zaq ?_ | refine zac ?_))
    all_goals (first | refine zbq rfl ?_ | refine zbm rfl ?_)
    all_goals (repeat (first | refine zag ?_ | refine zap ?_ | refine zad ?_ | refine zaq ?_ | refine zac ?_))
    · rw [if_pos h68] at hT
      have hcall := prog1T (P := P) l q3 (costL l) T1 (by omega) (pe1 d d.length) 48 [.ref [eI k]] (fun i => decide (i = k)) (by repeat' (first | exact Lo.s _ | exact zah | refine zae ?_ ?_ | refine zai ?_ | refine Lo.cells ?_ | refine Lo.agg _ ?_ | refine Lo.ref _ ?_ | refine Lo.tup _ ?_ | refine Lo.fn _ _ ?_ | refine Lo.sl _ ?_ | intro _)) (fun i hi => prog4_pf k i) 2 (gti lo k)
      rw [show T1 ++ [(unitL l.length (fun i => decide (i = k)), 2, gti lo k)] = t2 d l lo hi (k + 1) from hT.symm] at hcall
      refine zaf ?_
      first | refine zab rfl rfl (zaa rfl) (mv_fn (.inl rfl) rfl) ?_ | refine zab rfl rfl (zaa rfl) (mv_s (.inl rfl) rfl) ?_
      refine zab rfl rfl (zaa rfl) (does_func rfl rfl) ?_
      first | refine zab rfl rfl (zaa rfl) (zal rfl tf69_0 (by decide) rfl) ?_ | refine zab rfl rfl (zaa rfl) (zaj rfl tf69_0 (by decide) rfl) ?_
      first | refine zab rfl rfl (zaa rfl) (zao rfl ta22 rfl) ?_ | refine zab rfl rfl (zaa rfl) (zar rfl ta22 rfl rfl rfl rfl rfl) ?_
      first | refine zab rfl rfl (zaa rfl) (zao rfl ta3 rfl) ?_ | refine zab rfl rfl (zaa rfl) (zar rfl ta3 rfl rfl rfl rfl rfl) ?_
      first | refine zab rfl rfl (zaa rfl) (za1 rfl ts22 ti3 rfl rfl rfl (zb5 (by omega)) rfl) ?_ | refine zab rfl rfl (zaa rfl) (zav rfl ts22 ti3 rfl rfl rfl (by omega)) ?_
      first | refine zab rfl rfl (zaa rfl) (zao rfl ta3 rfl) ?_ | refine zab rfl rfl (zaa rfl) (zar rfl ta3 rfl rfl rfl rfl rfl) ?_
      refine zab rfl rfl (zaa rfl) (does_callE rfl rfl hcall rfl) ?_
      refine zan ?_
      repeat (first | refine zag ?_ | refine zap ?_ | refine zad ?_ | refine zaq ?_ | refine zac ?_)
      refine zaf ?_
      refine zab rfl rfl (zaa rfl) (zbw rfl rfl rfl (IntWalk.i64_in _ (by omega))) ?_
      refine zab rfl rfl (zaa rfl) (mv_s (.inl rfl) rfl) ?_
      refine zan ?_
      repeat (first | refine zag ?_ | refine zap ?_ | refine zad ?_ | refine zaq ?_ | refine zac ?_)
      exact ⟨k + 1, by omega, by omega, wk_st [0, 1, 7, 8, 9, 5, 6] (by decide) ⟨⟨_, rfl, obRn_agg (.cons (.own _ _ _ _ _ rfl rfl) (.cons (.own _ _ _ _ _ rfl rfl) (.cons (.own _ _ _ _ _ rfl rfl) (.cons (.own _ _ _ _ _ rfl rfl) .nil))))⟩, ⟨_, rfl, .rowE (by repeat' (first | exact Lo.s _ | exact zah | exact zba | refine zae ?_ ?_ | refine zaz ?_ ?_ | refine zai ?_ | refine zbb ?_ | refine Lo.cells ?_ | refine Lo.agg _ ?_ | refine Lo.sl _ ?_ | intro _)) rfl⟩, ⟨_, rfl, .rowE (by repeat' (first | exact Lo.s _ | exact zah | exact zba | refine zae ?_ ?_ | refine zaz ?_ ?_ | refine zai ?_ | refine zbb ?_ | refine Lo.cells ?_ | refine Lo.agg _ ?_ | refine Lo.sl _ ?_ | intro _)) rfl⟩, ⟨_, rfl, .rowE (by repeat' (first | exact Lo.s _ | exact zah | exact zba | refine zae ?_ ?_ | refine zaz ?_ ?_ | refine zai ?_ | refine zbb ?_ | refine Lo.cells ?_ | refine Lo.agg _ ?_ | refine Lo.sl _ ?_ | intro _)) rfl⟩, ⟨_, rfl, .rowE (by repeat' (first | exact Lo.s _ | exact zah | exact zba | refine zae ?_ ?_ | refine zaz ?_ ?_ | refine zai ?_ | refine zbb ?_ | refine Lo.cells ?_ | refine Lo.agg _ ?_ | refine Lo.sl _ ?_ | intro _)) rfl⟩, ⟨_, rfl, .rowE zP_lo rfl⟩, ⟨_, rfl, .rowE (by repeat' (first | exact Lo.s _ | exact zah | exact zba | refine zae ?_ ?_ | refine zaz ?_ ?_ | refine zai ?_ | refine zbb ?_ | refine Lo.cells ?_ | refine Lo.agg _ ?_ | refine Lo.sl _ ?_ | intro _)) rfl⟩, trivial⟩ ⟨.lo _ (by repeat' (first | exact Lo.s _ | exact zah | refine zae ?_ ?_ | refine zai ?_ | refine Lo.cells ?_ | refine Lo.agg _ ?_ | refine Lo.ref _ ?_ | refine Lo.tup _ ?_ | refine Lo.fn _ _ ?_ | refine Lo.sl _ ?_ | intro _)), .ptr 5 5 4 0 0 rfl, .ptr 0 0 4 0 0 rfl, .own 6 6 1 _ _ rfl rfl, .fn _ _ _ rfl (RnL.cons (.ptr 0 0 4 0 0 rfl) (RnL.cons (.lo _ hlL) RnL.nil)).2, .lo _ (by repeat' (first | exact Lo.s _ | exact zah | refine zae ?_ ?_ | refine zai ?_ | refine Lo.cells ?_ | refine Lo.agg _ ?_ | refine Lo.ref _ ?_ | refine Lo.tup _ ?_ | refine Lo.fn _ _ ?_ | refine Lo.sl _ ?_ | intro _)), .lo _ (by repeat' (first | exact Lo.s _ | exact zah | refine zae ?_ ?_ | refine zai ?_ | refine Lo.cells ?_ | refine Lo.agg _ ?_ | refine Lo.ref _ ?_ | refine Lo.tup _ ?_ | refine Lo.fn _ _ ?_ | refine Lo.sl _ ?_ | intro _)), .lo _ (by repeat' (first | exact Lo.s _ | exact zah | refine zae ?_ ?_ | refine zai ?_ | refine Lo.cells ?_ | refine Lo.agg _ ?_ | refine Lo.ref _ ?_ | refine Lo.tup _ ?_ | refine Lo.fn _ _ ?_ | refine Lo.sl _ ?_ | intro _)), trivial⟩⟩
    · rw [if_neg h68, List.append_nil] at hT
      subst hT
      refine zaf ?_
      refine zab rfl rfl (zaa rfl) (zbw rfl rfl rfl (IntWalk.i64_in _ (by omega))) ?_
      refine zab rfl rfl (zaa rfl) (mv_s (.inl rfl) rfl) ?_
      refine zan ?_
      repeat (first | refine zag ?_ | refine zap ?_ | refine zad ?_ | refine zaq ?_ | refine zac ?_)
      exact ⟨k + 1, by omega, by omega, wk_st [0, 1, 2, 3, 4, 5, 6] (by decide) ⟨⟨_, rfl, obRn_agg (.cons (.own _ _ _ _ _ rfl rfl) (.cons (.own _ _ _ _ _ rfl rfl) (.cons (.own _ _ _ _ _ rfl rfl) (.cons (.own _ _ _ _ _ rfl rfl) .nil))))⟩, ⟨_, rfl, .rowE (by repeat' (first | exact Lo.s _ | exact zah | exact zba | refine zae ?_ ?_ | refine zaz ?_ ?_ | refine zai ?_ | refine zbb ?_ | refine Lo.cells ?_ | refine Lo.agg _ ?_ | refine Lo.sl _ ?_ | intro _)) rfl⟩, ⟨_, rfl, .rowE (by repeat' (first | exact Lo.s _ | exact zah | exact zba | refine zae ?_ ?_ | refine zaz ?_ ?_ | refine zai ?_ | refine zbb ?_ | refine Lo.cells ?_ | refine Lo.agg _ ?_ | refine Lo.sl _ ?_ | intro _)) rfl⟩, ⟨_, rfl, .rowE (by repeat' (first | exact Lo.s _ | exact zah | exact zba | refine zae ?_ ?_ | refine zaz ?_ ?_ | refine zai ?_ | refine zbb ?_ | refine Lo.cells ?_ | refine Lo.agg _ ?_ | refine Lo.sl _ ?_ | intro _)) rfl⟩, ⟨_, rfl, .rowE (by repeat' (first | exact Lo.s _ | exact zah | exact zba | refine zae ?_ ?_ | refine zaz ?_ ?_ | refine zai ?_ | refine zbb ?_ | refine Lo.cells ?_ | refine Lo.agg _ ?_ | refine Lo.sl _ ?_ | intro _)) rfl⟩, ⟨_, rfl, .rowE zP_lo rfl⟩, ⟨_, rfl, .rowE (by repeat' (first | exact Lo.s _ | exact zah | exact zba | refine zae ?_ ?_ | refine zaz ?_ ?_ | refine zai ?_ | refine zbb ?_ | refine Lo.cells ?_ | refine Lo.agg _ ?_ | refine Lo.sl _ ?_ | intro _)) rfl⟩, trivial⟩ ⟨.lo _ (by repeat' (first | exact Lo.s _ | exact zah | refine zae ?_ ?_ | refine zai ?_ | refine Lo.cells ?_ | refine Lo.agg _ ?_ | refine Lo.ref _ ?_ | refine Lo.tup _ ?_ | refine Lo.fn _ _ ?_ | refine Lo.sl _ ?_ | intro _)), .ptr 5 5 4 0 0 rfl, .ptr 0 0 4 0 0 rfl, .own 6 6 1 _ _ rfl rfl, .fn _ _ _ rfl (RnL.cons (.ptr 0 0 4 0 0 rfl) (RnL.cons (.lo _ hlL) RnL.nil)).2, .lo _ (by repeat' (first | exact Lo.s _ | exact zah | refine zae ?_ ?_ | refine zai ?_ | refine Lo.cells ?_ | refine Lo.agg _ ?_ | refine Lo.ref _ ?_ | refine Lo.tup _ ?_ | refine Lo.fn _ _ ?_ | refine Lo.sl _ ?_ | intro _)), .lo _ (by repeat' (first | exact Lo.s _ | exact zah | refine zae ?_ ?_ | refine zai ?_ | refine Lo.cells ?_ | refine Lo.agg _ ?_ | refine Lo.ref _ ?_ | refine Lo.tup _ ?_ | refine Lo.fn _ _ ?_ | refine Lo.sl _ ?_ | intro _)), .lo _ (by repeat' (first | exact Lo.s _ | exact zah | refine zae ?_ ?_ | refine zai ?_ | refine Lo.cells ?_ | refine Lo.agg _ ?_ | refine Lo.ref _ ?_ | refine Lo.tup _ ?_ | refine Lo.fn _ _ ?_ | refine Lo.sl _ ?_ | intro _)), trivial⟩⟩
  · have e : k = l.length := by omega
    subst e
    (refine aw_exit ?_; repeat (first | refine ath_x ?_ | refine abl_hit ?_ | refine abl_miss rfl ?_ | refine zaq ?_ | refine zap ?_ | refine zag ?_ | refine zad ?_ | refine zac ?_))
    refine zaf ?_
    first | refine zab rfl rfl (zaa rfl) (za9 rfl ta49 ti49 rfl rfl) ?_ | refine zab rfl rfl (zaa rfl) (zbf rfl ta49 ti49 rfl rfl rfl rfl rfl) ?_ | refine zab rfl rfl (zaa rfl) (za8 rfl ta49 ti49 rfl (Nat.le_of_ble_eq_true rfl)) ?_ | refine zab rfl rfl (zaa rfl) (zbg rfl ta49 ti49 rfl rfl rfl rfl (Nat.le_of_ble_eq_true rfl)) ?_
    first | refine zab rfl rfl (zaa rfl) (za3 (.inl rfl) rfl) ?_ | refine zab rfl rfl (zaa rfl) (zbi (.inl rfl) rfl) ?_ | refine zab rfl rfl (zaa rfl) (mv_s (.inl rfl) rfl) ?_ | refine zab rfl rfl (zaa rfl) (za4 (.inl rfl) rfl) ?_
    refine zb2 rfl (zaa rfl) (zbe rfl ti49 rfl rfl rfl rfl rfl rfl (by decide) (by decide)) ?_
    first | refine zab rfl rfl (zaa rfl) (za3 (.inr rfl) rfl) ?_ | refine zab rfl rfl (zaa rfl) (zbi (.inr rfl) rfl) ?_ | refine zab rfl rfl (zaa rfl) (mv_s (.inr rfl) rfl) ?_ | refine zab rfl rfl (zaa rfl) (za4 (.inr rfl) rfl) ?_
    refine zan ?_
    repeat (first | refine zag ?_ | refine zap ?_ | refine zad ?_ | refine zaq ?_ | refine zac ?_)
    (refine zbt ?_; repeat (first | refine ath_r ?_ | refine abl_r ?_))
    refine post_cs (N := 0) (.inr rfl) ta49 ti49 rfl rfl rfl rfl rfl rfl ?_ ?_
    · exact .agg _ _ rfl (FiniL.cons (.own _ _ _ _ _ rfl rfl rfl) (FiniL.cons (.own _ _ _ _ _ rfl rfl rfl) (FiniL.cons (.own _ _ _ _ _ rfl rfl rfl) (FiniL.cons (.own _ _ _ _ _ rfl rfl rfl) FiniL.nil)))).2
    · exact .own _ _ _ _ _ rfl rfl (by simp)
end Go.Proofs.Ytmoipmnhgdmkpaa.Aw
end
