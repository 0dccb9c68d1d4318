import Derived.Test.YtohmldibkojkfaaGreatDoorJB6
import Derived.Test.YtohmldibkojkfaaGreatDoorJB26
import Derived.Test.YtohmldibkojkfaaGreatDoorJB11
import Derived.Test.YtohmldibkojkfaaGreatDoorJB19
set_option linter.unusedSimpArgs false
set_option linter.unusedVariables false
set_option linter.unusedSectionVars false
section
namespace Go.Proofs.YtohmldibkojkfaaGreatDoor.Aw
open Go.RowKit Go.Proofs
variable {P : Program} [IsP P]
theorem zte {G : Cx} {w' : World} {b o : Nat} (h1 : G.w.heap.size ≤ b) (h2 : b < w'.heap.size) : (zwt G w').St b o := .inr ⟨h1, h2⟩
theorem zey {f : FuncId} {args : List AV} {r : AV} (h : Pure Tryz.prog f args r) : Pure P f args r := by rw [IsP.eq (P := P)]; exact h
theorem lo_I {k : Nat} {l : List Int} : Lo k (eL eI l) := za1 fun _ => .s _
theorem zfm {f : FuncId} {args : List AV} {r : List Int × Int} (he : Ent f) (h : ∀ (G : Cx) (vargs : Array Value), StT G.St G.w → vargs.size = args.length → (∀ (j : Nat) v x, vargs[j]? = some v → args[j]? = some x → Rep G v x) → Calls Tryz.prog f vargs G.w (RetI G.w r)) : Pure P f args (.tup [eL eI r.1, eI r.2]) :=
 zey (zhb he (.tup _ (zaj lo_I (zaj (.s _) zar))) fun G vargs hst hsz hrep => (h G vargs hst hsz hrep).mono (by
  rintro e w' ⟨A, c, rfl, hr, hb⟩
  refine ⟨_, rfl, hb, .tup _ _ rfl (fun j v x hv hx => ?_)⟩
  match j, hv, hx with
  | 0, hv, hx => simp at hv hx; subst hv hx; exact z11 (G := zwt G w') hr (fun b o h1 h2 _ => zte h1 h2)
  | 1, hv, hx => simp at hv hx; subst hv hx; exact .s _
  | j + 2, hv, hx => simp at hv))
theorem zf5 {f : FuncId} {args : List AV} {b : Bool} (he : Ent f) (h : ∀ (G : Cx) (vargs : Array Value), StT G.St G.w → vargs.size = args.length → (∀ (j : Nat) v x, vargs[j]? = some v → args[j]? = some x → Rep G v x) → Calls Tryz.prog f vargs G.w fun e w' => e = .returned (.bool b) ∧ Below G.w.heap.size G.w w') : Pure P f args (eB b) :=
 zey (zhb he (.s _) fun G vargs hst hsz hrep => (h G vargs hst hsz hrep).mono (by
  rintro e w' ⟨rfl, hb⟩
  exact ⟨_, rfl, hb, .s _⟩))
theorem args3 {G : Cx} {vargs : Array Value} {n : Net} {m : List Int} {x : Value} (hst : ∀ b o, G.St b o → b < G.w.heap.size) (hsz : vargs.size = [eN n, eL eI m, .s x].length) (hrep : ∀ (j : Nat) v y, vargs[j]? = some v → [eN n, eL eI m, .s x][j]? = some y → Rep G v y) :
  ∃ vt v, vargs = #[netV n vt, v, x] ∧ RdT G.w 0 G.w.heap.size vt n.trans ∧ RdI G.w 0 G.w.heap.size v m := by
 obtain ⟨l⟩ := vargs
 match l, hsz with
 | [a, b, c], _ =>
  obtain ⟨vt, rfl, h1⟩ := zk9 (hrep 0 a _ rfl rfl) hst
  have h2 := zg9 (hrep 1 b _ rfl rfl) hst
  have h3 := zdd (hrep 2 c _ rfl rfl)
  subst h3
  exact ⟨vt, b, rfl, h1, h2⟩
theorem zz8 {G : Cx} {vargs : Array Value} {n : Net} (hst : ∀ b o, G.St b o → b < G.w.heap.size) (hsz : vargs.size = [eN n].length) (hrep : ∀ (j : Nat) v y, vargs[j]? = some v → [eN n][j]? = some y → Rep G v y) :
  ∃ vt, vargs = #[netV n vt] ∧ RdT G.w 0 G.w.heap.size vt n.trans := by
 obtain ⟨l⟩ := vargs
 match l, hsz with
 | [a], _ =>
  obtain ⟨vt, rfl, h1⟩ := zk9 (hrep 0 a _ rfl rfl) hst
  exact ⟨vt, rfl, h1⟩
theorem zy1 (n : Net) (m : List Int) (t : Int) : Pure P 88 [eN n, eL eI m, eI t] (.tup [eL eI (zci n m t).1, eI (zci n m t).2]) :=
 zfm (zdb Tryz.func88 rfl rfl) fun G vargs hst hsz hrep => by
  obtain ⟨vt, v, rfl, h1, h2⟩ := args3 hst hsz hrep
  exact zwc n m t vt v _ _ _ _ G.w h1 h2
theorem zh5 (n : Net) : Pure P 48 [eN n] (eB (wfB n)) :=
 zf5 (zdb Tryz.func48 rfl rfl) fun G vargs hst hsz hrep => by
  obtain ⟨vt, rfl, h1⟩ := zz8 hst hsz hrep
  exact zo0 n vt _ _ G.w h1
theorem zv3 (n : Net) : Pure P 43 [eN n] (eB (zca n)) :=
 zf5 (zdb Tryz.func43 rfl rfl) fun G vargs hst hsz hrep => by
  obtain ⟨vt, rfl, h1⟩ := zz8 hst hsz hrep
  exact zmy n vt _ _ G.w h1
end Go.Proofs.YtohmldibkojkfaaGreatDoor.Aw
end
section
namespace Go.Proofs.YtohmldibkojkfaaGreatDoor.Aw
open Go.RowKit Go.Proofs
variable {P : Program} [IsP P]
theorem argsII {G : Cx} {vargs : Array Value} {a b : List Int} (hst : ∀ b o, G.St b o → b < G.w.heap.size) (hsz : vargs.size = [eL eI a, eL eI b].length) (hrep : ∀ (j : Nat) v y, vargs[j]? = some v → [eL eI a, eL eI b][j]? = some y → Rep G v y) :
  ∃ x y, vargs = #[x, y] ∧ RdI G.w 0 G.w.heap.size x a ∧ RdI G.w 0 G.w.heap.size y b := by
 obtain ⟨q⟩ := vargs
 match q, hsz with
 | [x, y], _ => exact ⟨x, y, rfl, zg9 (hrep 0 x _ rfl rfl) hst, zg9 (hrep 1 y _ rfl rfl) hst⟩
theorem z3h {G : Cx} {vargs : Array Value} {a : List Int} (hst : ∀ b o, G.St b o → b < G.w.heap.size) (hsz : vargs.size = [eL eI a].length) (hrep : ∀ (j : Nat) v y, vargs[j]? = some v → [eL eI a][j]? = some y → Rep G v y) :
  ∃ x, vargs = #[x] ∧ RdI G.w 0 G.w.heap.size x a := by
 obtain ⟨q⟩ := vargs
 match q, hsz with
 | [x], _ => exact ⟨x, rfl, zg9 (hrep 0 x _ rfl rfl) hst⟩
theorem z05 (a b : List Int) : Pure P 53 [eL eI a, eL eI b] (eB (decide (a = b))) :=
 zf5 (zdb Tryz.func53 rfl rfl) fun G vargs hst hsz hrep => by
  obtain ⟨x, y, rfl, h1, h2⟩ := argsII hst hsz hrep
  exact zu4 a b _ _ _ _ x y G.w h1 h2
theorem z3n (n : Net) (m : List Int) (t : Int) : Pure P 55 [eN n, eL eI m, eI t] (.tup [eL eI (zci n m t).1, eI (zci n m t).2]) :=
 zfm (zdb Tryz.func55 rfl rfl) fun G vargs hst hsz hrep => by
  obtain ⟨vt, v, rfl, h1, h2⟩ := args3 hst hsz hrep
  exact zow n m t vt v _ _ _ _ G.w h1 h2
theorem zux (n : Net) : Pure P 50 [eN n] (.tup [eL eI (oneE n n.source).1, eI (oneE n n.source).2]) :=
 zfm (zdb Tryz.func50 rfl rfl) fun G vargs hst hsz hrep => by
  obtain ⟨vt, rfl, h1⟩ := zz8 hst hsz hrep
  exact zgs n vt _ _ G.w h1
theorem zzt (n : Net) : Pure P 51 [eN n] (.tup [eL eI (oneE n n.sink).1, eI (oneE n n.sink).2]) :=
 zfm (zdb Tryz.func51 rfl rfl) fun G vargs hst hsz hrep => by
  obtain ⟨vt, rfl, h1⟩ := zz8 hst hsz hrep
  exact zi2 n vt _ _ G.w h1
end Go.Proofs.YtohmldibkojkfaaGreatDoor.Aw
end
