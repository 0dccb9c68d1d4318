import Derived.Test.YtjhdcgaiccnmeaaGreatDoorJG23
import Derived.Test.YtjhdcgaiccnmeaaGreatDoorJG10
import Derived.Test.YtjhdcgaiccnmeaaGreatDoorJG17
set_option linter.unusedSimpArgs false
set_option linter.unusedVariables false
set_option linter.unusedSectionVars false
section
namespace Go.Proofs.YtjhdcgaiccnmeaaGreatDoor.Aw
open Go.RowKit Go.Proofs
variable {P : Program} [IsP P]
theorem newCx_st {G : Cx} {w' : World} {b o : Nat} (h1 : G.w.heap.size ≤ b) (h2 : b < w'.heap.size) : (newCx G w').St b o := .inr ⟨h1, h2⟩
theorem pure_prog {f : FuncId} {args : List AV} {r : AV} (h : Pure Tryz.prog f args r) : Pure P f args r := by rw [IsP.eq (P := P)]; exact h
theorem lo_I {k : Nat} {l : List Int} : Lo k (eL eI l) := zaq fun _ => .s _
theorem retI_pure {f : FuncId} {args : List AV} {r : List Int × Int} (he : Ent f) (h : ∀ (G : Cx) (vargs : Array Value), StT G.St G.w → vargs.size = args.length → (∀ (j : Nat) v x, vargs[j]? = some v → args[j]? = some x → Rep G v x) → Calls Tryz.prog f vargs G.w (RetI G.w r)) : Pure P f args (.tup [eL eI r.1, eI r.2]) :=
 pure_prog (pure_mk he (.tup _ (zah lo_I (zah (.s _) zap))) fun G vargs hst hsz hrep => (h G vargs hst hsz hrep).mono (by
  rintro e w' ⟨A, c, rfl, hr, hb⟩
  refine ⟨_, rfl, hb, .tup _ _ rfl (fun j v x hv hx => ?_)⟩
  match j, hv, hx with
  | 0, hv, hx => simp at hv hx; subst hv hx; exact rdI_rep (G := newCx G w') hr (fun b o h1 h2 _ => newCx_st h1 h2)
  | 1, hv, hx => simp at hv hx; subst hv hx; exact .s _
  | j + 2, hv, hx => simp at hv))
theorem retB_pure {f : FuncId} {args : List AV} {b : Bool} (he : Ent f) (h : ∀ (G : Cx) (vargs : Array Value), StT G.St G.w → vargs.size = args.length → (∀ (j : Nat) v x, vargs[j]? = some v → args[j]? = some x → Rep G v x) → Calls Tryz.prog f vargs G.w fun e w' => e = .returned (.bool b) ∧ Below G.w.heap.size G.w w') : Pure P f args (eB b) :=
 pure_prog (pure_mk he (.s _) fun G vargs hst hsz hrep => (h G vargs hst hsz hrep).mono (by
  rintro e w' ⟨rfl, hb⟩
  exact ⟨_, rfl, hb, .s _⟩))
theorem args3 {G : Cx} {vargs : Array Value} {n : Net} {m : List Int} {x : Value} (hst : ∀ b o, G.St b o → b < G.w.heap.size) (hsz : vargs.size = [eN n, eL eI m, .s x].length) (hrep : ∀ (j : Nat) v y, vargs[j]? = some v → [eN n, eL eI m, .s x][j]? = some y → Rep G v y) :
  ∃ vt v, vargs = #[netV n vt, v, x] ∧ RdT G.w 0 G.w.heap.size vt n.trans ∧ RdI G.w 0 G.w.heap.size v m := by
 obtain ⟨l⟩ := vargs
 match l, hsz with
 | [a, b, c], _ =>
  obtain ⟨vt, rfl, h1⟩ := rep_net (hrep 0 a _ rfl rfl) hst
  have h2 := rep_rdI (hrep 1 b _ rfl rfl) hst
  have h3 := zdr (hrep 2 c _ rfl rfl)
  subst h3
  exact ⟨vt, b, rfl, h1, h2⟩
theorem args2 {G : Cx} {vargs : Array Value} {n : Net} {m : List Int} (hst : ∀ b o, G.St b o → b < G.w.heap.size) (hsz : vargs.size = [eN n, eL eI m].length) (hrep : ∀ (j : Nat) v y, vargs[j]? = some v → [eN n, eL eI m][j]? = some y → Rep G v y) :
  ∃ vt v, vargs = #[netV n vt, v] ∧ RdT G.w 0 G.w.heap.size vt n.trans ∧ RdI G.w 0 G.w.heap.size v m := by
 obtain ⟨l⟩ := vargs
 match l, hsz with
 | [a, b], _ =>
  obtain ⟨vt, rfl, h1⟩ := rep_net (hrep 0 a _ rfl rfl) hst
  exact ⟨vt, b, rfl, h1, rep_rdI (hrep 1 b _ rfl rfl) hst⟩
theorem args1 {G : Cx} {vargs : Array Value} {n : Net} (hst : ∀ b o, G.St b o → b < G.w.heap.size) (hsz : vargs.size = [eN n].length) (hrep : ∀ (j : Nat) v y, vargs[j]? = some v → [eN n][j]? = some y → Rep G v y) :
  ∃ vt, vargs = #[netV n vt] ∧ RdT G.w 0 G.w.heap.size vt n.trans := by
 obtain ⟨l⟩ := vargs
 match l, hsz with
 | [a], _ =>
  obtain ⟨vt, rfl, h1⟩ := rep_net (hrep 0 a _ rfl rfl) hst
  exact ⟨vt, rfl, h1⟩
theorem argsS {G : Cx} {vargs : Array Value} {l : List ByteArray} (hst : ∀ b o, G.St b o → b < G.w.heap.size) (hsz : vargs.size = [eL eS l].length) (hrep : ∀ (j : Nat) v y, vargs[j]? = some v → [eL eS l][j]? = some y → Rep G v y) :
  ∃ v, vargs = #[v] ∧ RdS G.w 0 G.w.heap.size v l := by
 obtain ⟨q⟩ := vargs
 match q, hsz with
 | [a], _ => exact ⟨a, rfl, rep_rdS (hrep 0 a _ rfl rfl) hst⟩
theorem rvalid_pf (n : Net) : Pure P 20 [eN n] (eB (zbc n)) :=
 retB_pure (zdg Tryz.func20 rfl rfl) fun G vargs hst hsz hrep => by
  obtain ⟨vt, rfl, h1⟩ := args1 hst hsz hrep
  exact rvalid_any n vt _ _ G.w h1
end Go.Proofs.YtjhdcgaiccnmeaaGreatDoor.Aw
end
section
namespace Go.Proofs.YtjhdcgaiccnmeaaGreatDoor.Aw
open Go.RowKit Go.Proofs
variable {P : Program} [IsP P]
theorem argsII {G : Cx} {vargs : Array Value} {a b : List Int} (hst : ∀ b o, G.St b o → b < G.w.heap.size) (hsz : vargs.size = [eL eI a, eL eI b].length) (hrep : ∀ (j : Nat) v y, vargs[j]? = some v → [eL eI a, eL eI b][j]? = some y → Rep G v y) :
  ∃ x y, vargs = #[x, y] ∧ RdI G.w 0 G.w.heap.size x a ∧ RdI G.w 0 G.w.heap.size y b := by
 obtain ⟨q⟩ := vargs
 match q, hsz with
 | [x, y], _ => exact ⟨x, y, rfl, rep_rdI (hrep 0 x _ rfl rfl) hst, rep_rdI (hrep 1 y _ rfl rfl) hst⟩
theorem argsI {G : Cx} {vargs : Array Value} {a : List Int} (hst : ∀ b o, G.St b o → b < G.w.heap.size) (hsz : vargs.size = [eL eI a].length) (hrep : ∀ (j : Nat) v y, vargs[j]? = some v → [eL eI a][j]? = some y → Rep G v y) :
  ∃ x, vargs = #[x] ∧ RdI G.w 0 G.w.heap.size x a := by
 obtain ⟨q⟩ := vargs
 match q, hsz with
 | [x], _ => exact ⟨x, rfl, rep_rdI (hrep 0 x _ rfl rfl) hst⟩
theorem eqI_pf (a b : List Int) : Pure P 18 [eL eI a, eL eI b] (eB (decide (a = b))) :=
 retB_pure (zdg Tryz.func18 rfl rfl) fun G vargs hst hsz hrep => by
  obtain ⟨x, y, rfl, h1, h2⟩ := argsII hst hsz hrep
  exact equalI_any a b _ _ _ _ x y G.w h1 h2
theorem initial_pf (n : Net) : Pure P 38 [eN n] (.tup [eL eI (oneE n n.source).1, eI (oneE n n.source).2]) :=
 retI_pure (zdg Tryz.func38 rfl rfl) fun G vargs hst hsz hrep => by
  obtain ⟨vt, rfl, h1⟩ := args1 hst hsz hrep
  exact initial_any n vt _ _ G.w h1
theorem final_pf (n : Net) : Pure P 39 [eN n] (.tup [eL eI (oneE n n.sink).1, eI (oneE n n.sink).2]) :=
 retI_pure (zdg Tryz.func39 rfl rfl) fun G vargs hst hsz hrep => by
  obtain ⟨vt, rfl, h1⟩ := args1 hst hsz hrep
  exact final_any n vt _ _ G.w h1
end Go.Proofs.YtjhdcgaiccnmeaaGreatDoor.Aw
end
