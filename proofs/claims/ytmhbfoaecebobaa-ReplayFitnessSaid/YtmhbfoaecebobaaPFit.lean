/-
  ReplayFitness: Fitness returns what is specified. Conditions: none.
-/
import Derived.Test.YtmhbfoaecebobaaAwk
import Derived.Test.YtmhbfoaecebobaaRFit2
import Derived.Test.YtmhbfoaecebobaaOpen
import Derived.ChangeShapes
namespace Go.Proofs.Ytmhbfoaecebobaa
set_option linter.unusedSimpArgs false
set_option linter.unusedVariables false
open Go.ChangeShapes Go.WideShapes Go.ChangeAt Go.RowKit

section
variable {H : Type} {enc : TypeId × Value → H} {w : World} {base : Nat} {sp : Nat → Bool} {held : Bool} {d : DataW H} {p : List MemPlace} {v : Value} {r : Reach} {b0 : Nat}
set_option maxRecDepth 100000 in
theorem cnt_open {fuel : Nat} {cs : List Value} {x : DataW H × List MemPlace} (h : DataW.trod enc Try.prog w base sp held fuel 29 cs = some x) : ∃ c : Cnt, cs = encC c := by
  obtain ⟨xs, n, _, _, hlen, hl, hg⟩ := DataW.trod_struct Try.underlying29 h
  have hc : Try.prog.cellsOf 29 = 4 := by kernel_rfl
  have hi : Try.prog.cellsOf 3 = 1 := by kernel_rfl
  match cs, hlen.trans hc, xs, hl with
  | [c0, c1, c2, c3], _, [x0, x1, x2, x3], _ =>
    have g0 := hg 0 _ rfl
    have g1 := hg 1 _ rfl
    have g2 := hg 2 _ rfl
    have g3 := hg 3 _ rfl
    simp [hi] at g0 g1 g2 g3
    obtain ⟨n0, e0, _⟩ := DataW.trod_int Try.underlying3 g0
    obtain ⟨n1, e1, _⟩ := DataW.trod_int Try.underlying3 g1
    obtain ⟨n2, e2, _⟩ := DataW.trod_int Try.underlying3 g2
    obtain ⟨n3, e3, _⟩ := DataW.trod_int Try.underlying3 g3
    injection e0 with e0
    injection e1 with e1
    injection e2 with e2
    injection e3 with e3
    exact ⟨⟨n0, n1, n2, n3⟩, by rw [e0, e1, e2, e3]⟩
set_option maxRecDepth 100000 in
theorem cnts_open {fuel : Nat} {cs : List Value} {x : DataW H × List MemPlace} (h : DataW.trod enc Try.prog w base sp held fuel 37 cs = some x) : ∃ v l, cs = [v] ∧ RdCn w 0 w.heap.size v l := by
  obtain ⟨v, l, h1, h2, _⟩ := open_rd (en := encC) (Pr := fun _ => True) (size := 4) Try.underlying37 (by kernel_rfl) (by decide) (fun _ => rfl) (fun fuel cs x h => by
    obtain ⟨n, rfl⟩ := cnt_open h
    exact ⟨n, rfl, True.intro⟩) h
  exact ⟨v, l, h1, h2⟩
set_option maxRecDepth 100000 in
theorem open_cnts' (hv : Value.okWide Try.prog w r b0 37 v) (h : DataW.Trod enc Try.prog w base sp held 37 v d p) : ∃ l, RdCn w 0 w.heap.size v l := by
  obtain ⟨a, n, c, rfl⟩ := okWide_slice Try.underlying37 hv
  obtain ⟨fuel, hf⟩ := h
  obtain ⟨v', l, ha, hr⟩ := cnts_open hf
  simp [Value.cells] at ha
  subst ha
  exact ⟨l, hr⟩
end
theorem frac_eq (x : FE) : (x.n == x.n) = true := by simp
set_option maxRecDepth 100000 in
set_option maxHeartbeats 4000000 in
theorem lawFitness_any (l : List Cnt) (v : Value) (lo hi : Nat) (w : World) (hv : RdCn w lo hi v l) (hhi : hi ≤ w.heap.size) :
    Calls Try.prog 4 #[v] w fun e w' => e = .returned (.bool true) ∧ Below w.heap.size w w' := by
  obtain ⟨A, c, rfl, hc, hm⟩ := hv.form
  have HV := Lib.hid hv
  clear hv
  have HF1 := Lib.hid (fun W (hW : Below w.heap.size w W) => Fitness_any l lo hi _ W (HV.out.after hW) (Nat.le_trans hhi hW.size))
  have HF2 := Lib.hid (fun W (hW : Below w.heap.size w W) => rFitness_any l lo hi _ W (HV.out.after hW) (Nat.le_trans hhi hW.size))
  generalize FitE l = fe at *
  have M : Hid (Mem [Loc.bl w.heap.size w] w) := Lib.hid ⟨⟨Below.refl _ _, Nat.le_refl _⟩, True.intro⟩
  have tL : l.length ≤ 30 ∨ (30 < l.length ∧ l.length ≤ 1000) ∨ (1000 < l.length ∧ l.length ≤ 1100) ∨ 1100 < l.length := by omega
  have go : ∀ (z1 z2 z3 : Bool), decide ((30 : Int) < l.length) = z1 → decide ((l.length : Int) ≤ 1000) = z2 → decide ((1100 : Int) < l.length) = z3 → Calls Try.prog 4 #[.slice A l.length c] w fun e w' => e = .returned (.bool true) ∧ Below w.heap.size w w' := by
    intro z1 z2 z3 d1 d2 d3
    cases z1 <;> cases z2 <;> cases z3
    all_goals
      refine calls_cps fun R hR => ?_
      have HR := Lib.hid hR
      clear hR
      go_enter Try.func4, Try.ntmps4
      go_wp2_with (first
        | (go_at_call 8; refine (awake_any _).mono ?_; rintro e w1 ⟨rfl, hb1⟩; replace M := Lib.hid (M.out.below hb1); clear hb1; skip)
        | (go_at_call 13; refine (HF1.out _ M.out.1.1).mono ?_; rintro e w2 ⟨rfl, hb2⟩; replace M := Lib.hid (M.out.below hb2); clear hb2; have M2 : Hid (Mem [Loc.k2 w2.heap.size (.int .i64 fe.n) (.int .i64 fe.d), Loc.bl w.heap.size w] (w2.alloc (.cells #[.int .i64 fe.n, .int .i64 fe.d] 39))) := Lib.hid ⟨K2.new _ _ _ _, M.out.alloc _⟩; have hka := M2.out.1)
        | (go_at_call 14; refine (HF2.out _ M2.out.2.1.1).mono ?_; rintro e w3 ⟨rfl, hb3⟩; replace M2 := Lib.hid (M2.out.below hb3); clear hb3; have M3 : Hid (Mem [Loc.k2 w3.heap.size (.int .i64 fe.n) (.int .i64 fe.d), Loc.k2 w2.heap.size (.int .i64 fe.n) (.int .i64 fe.d), Loc.bl w.heap.size w] (w3.alloc (.cells #[.int .i64 fe.n, .int .i64 fe.d] 39))) := Lib.hid ⟨K2.new _ _ _ _, M2.out.alloc _⟩; replace hka := M3.out.2.1; have hkb := M3.out.1))
    all_goals first
      | exact HR.out _ _ ⟨rfl, M3.out.2.2.1.1⟩
      | exact HR.out _ _ ⟨rfl, M.out.1.1⟩
      | done
  exact go _ _ _ rfl rfl rfl

set_option maxRecDepth 100000 in
theorem replayFitness_lifted (os : Os) (started : os.Started) (H : Type) (enc : TypeId × Value → H) :
    ReturnsInHanded {} Try.checked os 4 .any (Rows.replayFitnessSpec.pre6 enc Try.prog Try.f4 Rows.replayFitnessRow.domain false) (Rows.replayFitnessSpec.post enc Try.prog Try.f4 false true false false) := by
  refine returnsInHanded_of_change (C := Try.checked) own_knob started (by kernel_rfl) Try.func4
    (ChangeSpec.witness6 (enc := enc) (C := Try.checked) false ⟨#[], #[.slice none 0 0], []⟩ 8 (by kernel_rfl) (by kernel_rfl) (by kernel_rfl) (by kernel_rfl)) ?_
  intro W base args ds gs before hval0 hW hcnd _
  have hval : ∀ (j : Nat) t v, Try.f4.params[j]? = some t → args[j]? = some v → Value.okWide Try.prog W .any base t v := hval0
  have hW' := hW
  obtain ⟨p, q, hA0, hV, rfl, hfz, hnd⟩ := hW
  have hA : DataW.TrodAll enc Try.prog W 0 (fun _ => true) true Try.f4.params.toList args.toList ds p := hA0
  rw [Try.params4] at hA hval
  obtain ⟨v0, d0, rfl, rfl, h0⟩ := trodAll_one hA
  obtain ⟨rfl, rfl⟩ := trodVars_none hV
  obtain ⟨l, hl⟩ := open_cnts' (hval 0 37 v0 rfl rfl) h0
  simp only [List.append_nil] at hW'
  refine (lawFitness_any l v0 0 _ W hl (Nat.le_refl _)).mono fun e W' ⟨he, hb⟩ => ?_
  subst he
  have hg := trodAll_mk1 (Below.trod laid_out (by kernel_rfl) (of_decide_eq_true (by kernel_rfl)) h0 hb (fun x hx => hW'.lt x (by simpa using hx)))
  exact ⟨_, rfl, law_post (t := 4) hW' (by kernel_rfl) Try.underlying4 ⟨rfl, rfl, rfl⟩ rfl hg hb⟩

theorem replayFitness_holds : Rows.ReplayFitnessSaid :=
  OpenClaim.holds_of_wide 4 Try.f4 rfl rfl rfl rfl rfl rfl rfl ⟨rfl, rfl, rfl, rfl, rfl⟩ rfl rfl rfl rfl rfl (by kernel_rfl) Try.func4 (by kernel_rfl)
    (of_decide_eq_true (by kernel_rfl)) (by unfold Func.isWrapper; first | (rw [if_pos (by decide +kernel)]; kernel_rfl) | (rw [if_neg (by decide +kernel)]; exact ⟨rfl, rfl⟩))
    (fun os started H enc _ => replayFitness_lifted os started H enc)

#print axioms replayFitness_holds

end Go.Proofs.Ytmhbfoaecebobaa
