import Derived.Test.YtjhdcgaiccnmeaaGreatDoorJB24
import Derived.Test.YtjhdcgaiccnmeaaGreatDoorJB10
import Derived.Test.YtjhdcgaiccnmeaaGreatDoorJB18
set_option linter.unusedSimpArgs false
set_option linter.unusedVariables false
set_option linter.unusedSectionVars false
namespace Go.Proofs.YtjhdcgaiccnmeaaGreatDoor
namespace Aw
open Go.RowKit Go.Proofs
variable {P : Program} [IsP P]
theorem znn {G : Cx} {w' : World} {b o : Nat} (h1 : G.w.heap.size ≤ b) (h2 : b < w'.heap.size) : (ztw G w').St b o := .inr ⟨h1, h2⟩
theorem zcs {f : FuncId} {args : List AV} {r : AV} (h : Pure Tryz.prog f args r) : Pure P f args r := by rw [IsP.eq (P := P)]; exact h
theorem lo_I {k : Nat} {l : List Int} : Lo k (eL eI l) := zan fun _ => .s _
theorem zgg {f : FuncId} {args : List AV} {r : List Int × Int} (he : Ent f) (h : ∀ (G : Cx) (vargs : Array Value), StT G.St G.w → vargs.size = args.length → (∀ (j : Nat) v x, vargs[j]? = some v → args[j]? = some x → Rep G v x) → Calls Tryz.prog f vargs G.w (RetI G.w r)) : Pure P f args (.tup [eL eI r.1, eI r.2]) :=
 zcs (zfr he (.tup _ (zah lo_I (zah (.s _) zak))) fun G vargs hst hsz hrep => (h G vargs hst hsz hrep).mono (by
  rintro e w' ⟨A, c, rfl, hr, hb⟩
  refine ⟨_, rfl, hb, .tup _ _ rfl (fun j v x hv hx => ?_)⟩
  match j, hv, hx with
  | 0, hv, hx => simp at hv hx; subst hv hx; exact z06 (G := ztw G w') hr (fun b o h1 h2 _ => znn h1 h2)
  | 1, hv, hx => simp at hv hx; subst hv hx; exact .s _
  | j + 2, hv, hx => simp at hv))
theorem zgh {f : FuncId} {args : List AV} {b : Bool} (he : Ent f) (h : ∀ (G : Cx) (vargs : Array Value), StT G.St G.w → vargs.size = args.length → (∀ (j : Nat) v x, vargs[j]? = some v → args[j]? = some x → Rep G v x) → Calls Tryz.prog f vargs G.w fun e w' => e = .returned (.bool b) ∧ Below G.w.heap.size G.w w') : Pure P f args (eB b) :=
 zcs (zfr he (.s _) fun G vargs hst hsz hrep => (h G vargs hst hsz hrep).mono (by
  rintro e w' ⟨rfl, hb⟩
  exact ⟨_, rfl, hb, .s _⟩))
theorem zu0 {f : FuncId} {args : List AV} {n : Int} (he : Ent f) (h : ∀ (G : Cx) (vargs : Array Value), StT G.St G.w → vargs.size = args.length → (∀ (j : Nat) v x, vargs[j]? = some v → args[j]? = some x → Rep G v x) → Calls Tryz.prog f vargs G.w fun e w' => e = .returned (.int .i64 n) ∧ Below G.w.heap.size G.w w') : Pure P f args (eI n) :=
 zcs (zfr he (.s _) fun G vargs hst hsz hrep => (h G vargs hst hsz hrep).mono (by
  rintro e w' ⟨rfl, hb⟩
  exact ⟨_, rfl, hb, .s _⟩))
theorem args1 {G : Cx} {vargs : Array Value} {n : Net} (hst : ∀ b o, G.St b o → b < G.w.heap.size) (hsz : vargs.size = [eN n].length) (hrep : ∀ (j : Nat) v y, vargs[j]? = some v → [eN n][j]? = some y → Rep G v y) :
  ∃ vt, vargs = #[netV n vt] ∧ RdT G.w 0 G.w.heap.size vt n.trans := by
 obtain ⟨l⟩ := vargs
 match l, hsz with
 | [a], _ =>
  obtain ⟨vt, rfl, h1⟩ := zni (hrep 0 a _ rfl rfl) hst
  exact ⟨vt, rfl, h1⟩
theorem argsS {G : Cx} {vargs : Array Value} {l : List ByteArray} (hst : ∀ b o, G.St b o → b < G.w.heap.size) (hsz : vargs.size = [eL eS l].length) (hrep : ∀ (j : Nat) v y, vargs[j]? = some v → [eL eS l][j]? = some y → Rep G v y) :
  ∃ v, vargs = #[v] ∧ RdS G.w 0 G.w.heap.size v l := by
 obtain ⟨q⟩ := vargs
 match q, hsz with
 | [a], _ => exact ⟨a, rfl, znh (hrep 0 a _ rfl rfl) hst⟩
theorem zos (n : Net) : Pure P 20 [eN n] (eB (zd5 n)) :=
 zgh (zej Tryz.func20 rfl rfl) fun G vargs hst hsz hrep => by
  obtain ⟨vt, rfl, h1⟩ := args1 hst hsz hrep
  exact zmo n vt _ _ G.w h1
end Aw
namespace Aw
open Go.RowKit Go.Proofs
variable {P : Program} [IsP P]
theorem argsII {G : Cx} {vargs : Array Value} {a b : List Int} (hst : ∀ b o, G.St b o → b < G.w.heap.size) (hsz : vargs.size = [eL eI a, eL eI b].length) (hrep : ∀ (j : Nat) v y, vargs[j]? = some v → [eL eI a, eL eI b][j]? = some y → Rep G v y) :
  ∃ x y, vargs = #[x, y] ∧ RdI G.w 0 G.w.heap.size x a ∧ RdI G.w 0 G.w.heap.size y b := by
 obtain ⟨q⟩ := vargs
 match q, hsz with
 | [x, y], _ => exact ⟨x, y, rfl, zih (hrep 0 x _ rfl rfl) hst, zih (hrep 1 y _ rfl rfl) hst⟩
theorem argsI {G : Cx} {vargs : Array Value} {a : List Int} (hst : ∀ b o, G.St b o → b < G.w.heap.size) (hsz : vargs.size = [eL eI a].length) (hrep : ∀ (j : Nat) v y, vargs[j]? = some v → [eL eI a][j]? = some y → Rep G v y) :
  ∃ x, vargs = #[x] ∧ RdI G.w 0 G.w.heap.size x a := by
 obtain ⟨q⟩ := vargs
 match q, hsz with
 | [x], _ => exact ⟨x, rfl, zih (hrep 0 x _ rfl rfl) hst⟩
theorem z0i (a b : List Int) : Pure P 18 [eL eI a, eL eI b] (eB (decide (a = b))) :=
 zgh (zej Tryz.func18 rfl rfl) fun G vargs hst hsz hrep => by
  obtain ⟨x, y, rfl, h1, h2⟩ := argsII hst hsz hrep
  exact zt6 a b _ _ _ _ x y G.w h1 h2
end Aw
end Go.Proofs.YtjhdcgaiccnmeaaGreatDoor
