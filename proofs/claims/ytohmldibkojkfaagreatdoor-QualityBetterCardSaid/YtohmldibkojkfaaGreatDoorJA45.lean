import Derived.Test.YtohmldibkojkfaaGreatDoorJA22
import Derived.Test.YtohmldibkojkfaaGreatDoorJA40
import Derived.Test.YtohmldibkojkfaaGreatDoorCards
import Derived.Test.YtohmldibkojkfaaGreatDoorTie
import Derived.LaidMore
import Derived.Lay
import Derived.SevenTiedAt
import Derived.Stop.Joined
import Derived.Stop.LaidErr
import Derived.MakeChecks
import Derived.Lib.LaidTab
import Derived.Carry
set_option linter.unusedSimpArgs false
set_option linter.unusedVariables false
set_option linter.unusedSectionVars false
section
namespace Go.Proofs.YtohmldibkojkfaaGreatDoor
open Go.ChangeShapes Go.WideShapes Go.ChangeAt Go.RowKit
section
variable {H : Type} {enc : TypeId × Value → H} {P : Program} {w : World} {base : Nat} {spare : Nat → Bool} {held : Bool}
theorem zon {t0 t1 t2 t3 t4 : TypeId} {args : Array Value} {ds : List (DataW H)} {ps : List MemPlace} (h : DataW.TrodAll enc P w base spare held [t0, t1, t2, t3, t4] args.toList ds ps) :
  ∃ v0 v1 v2 v3 v4 d0 d1 d2 d3 d4 p0 p1 p2 p3 p4, args = #[v0, v1, v2, v3, v4] ∧ ds = [d0, d1, d2, d3, d4] ∧ ps = p0 ++ p1 ++ p2 ++ p3 ++ p4 ∧ DataW.Trod enc P w base spare held t0 v0 d0 p0 ∧ DataW.Trod enc P w base spare held t1 v1 d1 p1 ∧ DataW.Trod enc P w base spare held t2 v2 d2 p2 ∧ DataW.Trod enc P w base spare held t3 v3 d3 p3 ∧ DataW.Trod enc P w base spare held t4 v4 d4 p4 := by
 obtain ⟨v0, vs, d0, e1, p0, q, hargs, rfl, rfl, h0, g1⟩ := trodAll_cons h
 obtain ⟨v1, u1, d1, e2, p1, q1, rfl, rfl, rfl, h1, g2⟩ := trodAll_cons g1
 obtain ⟨v2, u2, d2, e3, p2, q2, rfl, rfl, rfl, h2, g3⟩ := trodAll_cons g2
 obtain ⟨v3, u3, d3, e4, p3, q3, rfl, rfl, rfl, h3, g4⟩ := trodAll_cons g3
 obtain ⟨v4, u4, d4, e5, p4, q4, rfl, rfl, rfl, h4, g5⟩ := trodAll_cons g4
 obtain ⟨rfl, rfl, rfl⟩ := trodAll_nil g5
 exact ⟨v0, v1, v2, v3, v4, d0, d1, d2, d3, d4, p0, p1, p2, p3, p4, by cases args; simp_all, rfl, by simp, h0, h1, h2, h3, h4⟩
theorem zqh {t0 t1 t2 t3 t4 : TypeId} {v0 v1 v2 v3 v4 : Value} {d0 d1 d2 d3 d4 : DataW H} {p0 p1 p2 p3 p4 : List MemPlace} (h0 : DataW.Trod enc P w base spare held t0 v0 d0 p0) (h1 : DataW.Trod enc P w base spare held t1 v1 d1 p1) (h2 : DataW.Trod enc P w base spare held t2 v2 d2 p2) (h3 : DataW.Trod enc P w base spare held t3 v3 d3 p3) (h4 : DataW.Trod enc P w base spare held t4 v4 d4 p4) : DataW.TrodAll enc P w base spare held [t0, t1, t2, t3, t4] [v0, v1, v2, v3, v4] [d0, d1, d2, d3, d4] (p0 ++ (p1 ++ (p2 ++ (p3 ++ p4)))) := ⟨p0, p1 ++ (p2 ++ (p3 ++ p4)), h0, trodAll_mk4 h1 h2 h3 h4, rfl⟩
end
namespace Aw
open Dl
theorem tab_of_laid {W : World} (h : laidMetH Tryz.prog Rows.qualityFitnessRow.laid W) : TabP W := by
 rw [MakeChecks.laidMetH_plain _ _ _ (by kernel_rfl)] at h
 have h1 : laidMet Tryz.prog [("internal/strconv.uint64pow10", Lib.tabData .u64 Lib.pow10Tab)] W := laidMet.tail (laidMet.tail h)
 have hg : Tryz.prog.globalNamed "internal/strconv.uint64pow10" = some 0 := by kernel_rfl
 have h2 := Lib.tabIs_of_head (t := 214) (e := 113) (n := 20) hg (by kernel_rfl) (by kernel_rfl) (by kernel_rfl) (by kernel_rfl) (by kernel_rfl) h1
 unfold Lib.TabIs World.var? at h2
 rw [hg] at h2
 simp only [Option.bind_some] at h2
 cases hx : W.heap[0]? with
 | none => rw [hx] at h2; cases h2
 | some ob =>
  rw [hx] at h2
  cases ob with
  | cells cs t f =>
   replace h2 : some cs = some _ := h2
   injection h2 with h2
   subst h2
   exact ⟨_, _, hx⟩
  | _ => cases h2
theorem pure_lawT {P : Program} {f : FuncId} {args : List AV} (hp : Pure P f args (eB true)) (W : World) (ht : TabP W) (vargs : Array Value) (hsz : vargs.size = args.length) (hrep : ∀ (j : Nat) v x, vargs[j]? = some v → args[j]? = some x → Rep (G0 W) v x) :
  Calls P f vargs W fun e w' => e = .returned (.bool true) ∧ Below W.heap.size W w' :=
 (hp.call (G0 W) vargs ⟨fun b o h => h, ht⟩ hsz hrep).mono (by
  rintro e w' ⟨v, G', rfl, rfl, hb, _, _, _, hr⟩
  exact ⟨by rw [zdr hr], hb⟩)
section
variable {H : Type} {enc : TypeId × Value → H} {w : World} {base : Nat} {sp : Nat → Bool} {held : Bool}
set_option maxRecDepth 100000 in
theorem zqs {fuel : Nat} {cs : List Value} {x : DataW H × List MemPlace} (h : DataW.trod enc Tryz.prog w base sp held fuel 27 cs = some x) : ∃ q : Cst, Rc w cs (eC q).cells := by
 obtain ⟨xs, n, _, _, hlen, hl, hg⟩ := DataW.trod_struct Tryz.underlying27 h
 have hc : Tryz.prog.cellsOf 27 = 3 := by kernel_rfl
 have h1 : Tryz.prog.cellsOf 3 = 1 := by kernel_rfl
 match cs, hlen.trans hc, xs, hl with
 | [c0, c1, c2], _, [x0, x1, x2], _ =>
  have g0 := hg 0 _ rfl
  have g1 := hg 1 _ rfl
  have g2 := hg 2 _ rfl
  simp [h1] at g0 g1 g2
  obtain ⟨a, e0, _⟩ := DataW.trod_int Tryz.underlying3 g0
  obtain ⟨b, e1, _⟩ := DataW.trod_int Tryz.underlying3 g1
  obtain ⟨s, e2, _⟩ := DataW.trod_int Tryz.underlying3 g2
  injection e0 with e0
  injection e1 with e1
  injection e2 with e2
  subst e0 e1 e2
  exact ⟨⟨a, b, s⟩, zeg (.s _) rfl (zeg (.s _) rfl (zeg (.s _) rfl zmh))⟩
set_option maxRecDepth 100000 in
theorem zni {fuel : Nat} {cs : List Value} {x : DataW H × List MemPlace} (h : DataW.trod enc Tryz.prog w base sp held fuel 46 cs = some x) : ∃ q : Vr, Rc w cs (eVr q).cells := by
 obtain ⟨xs, n, _, _, hlen, hl, hg⟩ := DataW.trod_struct Tryz.underlying46 h
 have hc : Tryz.prog.cellsOf 46 = 2 := by kernel_rfl
 have h1 : Tryz.prog.cellsOf 3 = 1 := by kernel_rfl
 have h2 : Tryz.prog.cellsOf 44 = 1 := by kernel_rfl
 match cs, hlen.trans hc, xs, hl with
 | [c0, c1], _, [x0, x1], _ =>
  have g0 := hg 0 _ rfl
  have g1 := hg 1 _ rfl
  simp [h1, h2] at g0 g1
  obtain ⟨v0, l0, e0, r0⟩ := ztz g0
  obtain ⟨b, e1, _⟩ := DataW.trod_int Tryz.underlying3 g1
  injection e0 with e0
  injection e1 with e1
  subst e0 e1
  exact ⟨⟨l0, b⟩, zeg r0 rfl (zeg (.s _) rfl zmh)⟩
theorem zly {fuel : Nat} {cs : List Value} {x : DataW H × List MemPlace} (h : DataW.trod enc Tryz.prog w base sp held fuel 25 cs = some x) : ∃ (v : Value) (l : List Vr), cs = [v] ∧ Rep (G0 w) v (eL eVr l) :=
 zgm (size := 2) Tryz.underlying25 (by kernel_rfl) (by decide) (fun _ => rfl) (fun fuel cs x h => zni h) h
variable {b0 : Nat} {r : Reach} {v : Value} {d : DataW H} {p : List MemPlace}
set_option maxRecDepth 100000 in
theorem open_costs (hv : Value.okWide Tryz.prog w r b0 27 v) (h : DataW.Trod enc Tryz.prog w base sp held 27 v d p) : ∃ q : Cst, Rep (G0 w) v (eC q) := by
 obtain ⟨cs, rfl, hsz⟩ := okWide_struct Tryz.underlying27 hv
 obtain ⟨fuel, hf⟩ := h
 obtain ⟨q, ha⟩ := zqs hf
 exact ⟨q, z0i (vs := cs) ha⟩
set_option maxRecDepth 100000 in
theorem open_variants (hv : Value.okWide Tryz.prog w r b0 25 v) (h : DataW.Trod enc Tryz.prog w base sp held 25 v d p) : ∃ l : List Vr, Rep (G0 w) v (eL eVr l) := by
 obtain ⟨a, n, c, rfl⟩ := okWide_slice Tryz.underlying25 hv
 obtain ⟨fuel, hf⟩ := h
 obtain ⟨v', l, ha, hr⟩ := zly hf
 simp [Value.cells] at ha
 subst ha
 exact ⟨l, hr⟩
end
end Aw
end Go.Proofs.YtohmldibkojkfaaGreatDoor
end
