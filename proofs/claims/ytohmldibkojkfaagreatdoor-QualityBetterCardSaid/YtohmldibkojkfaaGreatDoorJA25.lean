import Derived.Test.YtohmldibkojkfaaGreatDoorJA6
import Derived.Test.YtohmldibkojkfaaGreatDoorJA24
import Derived.Test.YtohmldibkojkfaaGreatDoorJA10
import Derived.Test.YtohmldibkojkfaaGreatDoorJA18
set_option linter.unusedSimpArgs false
set_option linter.unusedVariables false
set_option linter.unusedSectionVars false
section
namespace Go.Proofs.YtohmldibkojkfaaGreatDoor.Aw
open Go.RowKit Go.Proofs
variable {P : Program} [IsP P]
theorem znl {G : Cx} {w' : World} {b o : Nat} (h1 : G.w.heap.size ≤ b) (h2 : b < w'.heap.size) : (zt2 G w').St b o := .inr ⟨h1, h2⟩
theorem zd6 {f : FuncId} {args : List AV} {r : AV} (h : Pure Tryz.prog f args r) : Pure P f args r := by rw [IsP.eq (P := P)]; exact h
theorem lo_I {k : Nat} {l : List Int} : Lo k (eL eI l) := zb9 fun _ => .s _
theorem zf5 {f : FuncId} {args : List AV} {r : List Int × Int} (he : Ent f) (h : ∀ (G : Cx) (vargs : Array Value), StT G.St G.w → vargs.size = args.length → (∀ (j : Nat) v x, vargs[j]? = some v → args[j]? = some x → Rep G v x) → Calls Tryz.prog f vargs G.w (RetI G.w r)) : Pure P f args (.tup [eL eI r.1, eI r.2]) :=
 zd6 (zfw he (.tup _ (zaj lo_I (zaj (.s _) zbb))) fun G vargs hst hsz hrep => (h G vargs hst hsz hrep).mono (by
  rintro e w' ⟨A, c, rfl, hr, hb⟩
  refine ⟨_, rfl, hb, .tup _ _ rfl (fun j v x hv hx => ?_)⟩
  match j, hv, hx with
  | 0, hv, hx => simp at hv hx; subst hv hx; exact z1t (G := zt2 G w') hr (fun b o h1 h2 _ => znl h1 h2)
  | 1, hv, hx => simp at hv hx; subst hv hx; exact .s _
  | j + 2, hv, hx => simp at hv))
theorem ze2 {f : FuncId} {args : List AV} {b : Bool} (he : Ent f) (h : ∀ (G : Cx) (vargs : Array Value), StT G.St G.w → vargs.size = args.length → (∀ (j : Nat) v x, vargs[j]? = some v → args[j]? = some x → Rep G v x) → Calls Tryz.prog f vargs G.w fun e w' => e = .returned (.bool b) ∧ Below G.w.heap.size G.w w') : Pure P f args (eB b) :=
 zd6 (zfw he (.s _) fun G vargs hst hsz hrep => (h G vargs hst hsz hrep).mono (by
  rintro e w' ⟨rfl, hb⟩
  exact ⟨_, rfl, hb, .s _⟩))
theorem zvc {f : FuncId} {args : List AV} {n : Int} (he : Ent f) (h : ∀ (G : Cx) (vargs : Array Value), StT G.St G.w → vargs.size = args.length → (∀ (j : Nat) v x, vargs[j]? = some v → args[j]? = some x → Rep G v x) → Calls Tryz.prog f vargs G.w fun e w' => e = .returned (.int .i64 n) ∧ Below G.w.heap.size G.w w') : Pure P f args (eI n) :=
 zd6 (zfw he (.s _) fun G vargs hst hsz hrep => (h G vargs hst hsz hrep).mono (by
  rintro e w' ⟨rfl, hb⟩
  exact ⟨_, rfl, hb, .s _⟩))
theorem args1 {G : Cx} {vargs : Array Value} {n : Net} (hst : ∀ b o, G.St b o → b < G.w.heap.size) (hsz : vargs.size = [eN n].length) (hrep : ∀ (j : Nat) v y, vargs[j]? = some v → [eN n][j]? = some y → Rep G v y) :
  ∃ vt, vargs = #[netV n vt] ∧ RdT G.w 0 G.w.heap.size vt n.trans := by
 obtain ⟨l⟩ := vargs
 match l, hsz with
 | [a], _ =>
  obtain ⟨vt, rfl, h1⟩ := znf (hrep 0 a _ rfl rfl) hst
  exact ⟨vt, rfl, h1⟩
theorem argsS {G : Cx} {vargs : Array Value} {l : List ByteArray} (hst : ∀ b o, G.St b o → b < G.w.heap.size) (hsz : vargs.size = [eL eS l].length) (hrep : ∀ (j : Nat) v y, vargs[j]? = some v → [eL eS l][j]? = some y → Rep G v y) :
  ∃ v, vargs = #[v] ∧ RdS G.w 0 G.w.heap.size v l := by
 obtain ⟨q⟩ := vargs
 match q, hsz with
 | [a], _ => exact ⟨a, rfl, zne (hrep 0 a _ rfl rfl) hst⟩
theorem zkl (n : Net) : Pure P 48 [eN n] (eB (wfB n)) :=
 ze2 (zc1 Tryz.func48 rfl rfl) fun G vargs hst hsz hrep => by
  obtain ⟨vt, rfl, h1⟩ := args1 hst hsz hrep
  exact zog n vt _ _ G.w h1
theorem zoq (n : Net) : Pure P 43 [eN n] (eB (zb2 n)) :=
 ze2 (zc1 Tryz.func43 rfl rfl) fun G vargs hst hsz hrep => by
  obtain ⟨vt, rfl, h1⟩ := args1 hst hsz hrep
  exact zmd n vt _ _ G.w h1
end Go.Proofs.YtohmldibkojkfaaGreatDoor.Aw
end
section
namespace Go.Proofs.YtohmldibkojkfaaGreatDoor.Aw
open Go.RowKit Go.Proofs
variable {P : Program} [IsP P]
theorem argsII {G : Cx} {vargs : Array Value} {a b : List Int} (hst : ∀ b o, G.St b o → b < G.w.heap.size) (hsz : vargs.size = [eL eI a, eL eI b].length) (hrep : ∀ (j : Nat) v y, vargs[j]? = some v → [eL eI a, eL eI b][j]? = some y → Rep G v y) :
  ∃ x y, vargs = #[x, y] ∧ RdI G.w 0 G.w.heap.size x a ∧ RdI G.w 0 G.w.heap.size y b := by
 obtain ⟨q⟩ := vargs
 match q, hsz with
 | [x, y], _ => exact ⟨x, y, rfl, zh7 (hrep 0 x _ rfl rfl) hst, zh7 (hrep 1 y _ rfl rfl) hst⟩
theorem argsI {G : Cx} {vargs : Array Value} {a : List Int} (hst : ∀ b o, G.St b o → b < G.w.heap.size) (hsz : vargs.size = [eL eI a].length) (hrep : ∀ (j : Nat) v y, vargs[j]? = some v → [eL eI a][j]? = some y → Rep G v y) :
  ∃ x, vargs = #[x] ∧ RdI G.w 0 G.w.heap.size x a := by
 obtain ⟨q⟩ := vargs
 match q, hsz with
 | [x], _ => exact ⟨x, rfl, zh7 (hrep 0 x _ rfl rfl) hst⟩
theorem eqI_pf (a b : List Int) : Pure P 53 [eL eI a, eL eI b] (eB (decide (a = b))) :=
 ze2 (zc1 Tryz.func53 rfl rfl) fun G vargs hst hsz hrep => by
  obtain ⟨x, y, rfl, h1, h2⟩ := argsII hst hsz hrep
  exact zug a b _ _ _ _ x y G.w h1 h2
end Go.Proofs.YtohmldibkojkfaaGreatDoor.Aw
end
