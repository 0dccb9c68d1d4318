import Derived.Test.YtohmldibkojkfaaGreatDoorJB27
import Derived.Test.YtohmldibkojkfaaGreatDoorJB17
import Derived.Test.YtohmldibkojkfaaGreatDoorJB20
import Derived.Test.YtohmldibkojkfaaGreatDoorJB21
import Derived.Test.YtohmldibkojkfaaGreatDoorJB5
import Derived.Test.YtohmldibkojkfaaGreatDoorJB4
set_option linter.unusedSimpArgs false
set_option linter.unusedVariables false
set_option linter.unusedSectionVars false
section
namespace Go.Proofs.YtohmldibkojkfaaGreatDoor.Aw
open Go.RowKit Go.Proofs
variable {P : Program} [IsP P]
theorem gti_mem {α : Type} [Inhabited α] {l : List α} {k : Nat} (h : k < l.length) : gti l k ∈ l := List.mem_of_getElem? (zbn h)
instance : Inhabited Fr := ⟨⟨0, 0⟩⟩
def eF (a : Fr) : AV := .agg [eI a.n, eI a.d]
def eFE (x : FE) : AV := .tup [.agg [eI x.n, eI x.d], eI x.e]
theorem lo_F (a : Fr) : Lo 0 (eF a) := .agg _ (zaj (.s _) (zaj (.s _) zar))
theorem z1y {G : Cx} {v : Value} {a : Fr} (h : Rep G v (eF a)) : v = .agg #[.int .i64 a.n, .int .i64 a.d] := by
 generalize hx : eF a = x at h
 cases h with
 | agg vs cs hl h1 hr =>
  unfold eF at hx
  injection hx with hx
  subst hx
  obtain ⟨q⟩ := vs
  match q, hl with
  | [u, w], _ =>
   have e1 := zdd (hr 0 u _ rfl rfl)
   have e2 := zdd (hr 1 w _ rfl rfl)
   rw [e1, e2]
 | _ => unfold eF at hx; cases hx
theorem z1v (G : Cx) (n d : Int) : Rep G (.agg #[.int .i64 n, .int .i64 d]) (.agg [eI n, eI d]) :=
 .agg _ _ rfl (fun c hc => by simp at hc; rcases hc with rfl | rfl <;> rfl) (fun j v c hv hc => by
  match j, hv, hc with
  | 0, hv, hc => simp at hv hc; subst hv hc; exact .s _
  | 1, hv, hc => simp at hv hc; subst hv hc; exact .s _
  | j + 2, hv, hc => simp at hv)
theorem zm1 {f : FuncId} {args : List AV} {x : FE} (he : Ent f) (h : ∀ (G : Cx) (vargs : Array Value), vargs.size = args.length → (∀ (j : Nat) v x, vargs[j]? = some v → args[j]? = some x → Rep G v x) → Calls Tryz.prog f vargs G.w fun e w' => e = .returned (.tuple #[.agg #[.int .i64 (x).n, .int .i64 (x).d], .int .i64 (x).e]) ∧ Below G.w.heap.size G.w w') : Pure P f args (eFE x) :=
 zey (zhb he (.tup _ (zaj (.agg _ (zaj (.s _) (zaj (.s _) zar))) (zaj (.s _) zar))) fun G vargs hst hsz hrep => (h G vargs hsz hrep).mono (by
  rintro e w' ⟨rfl, hb⟩
  refine ⟨_, rfl, hb, .tup _ _ rfl (fun j v c hv hc => ?_)⟩
  match j, hv, hc with
  | 0, hv, hc => simp at hv hc; subst hv hc; exact z1v _ _ _
  | 1, hv, hc => simp at hv hc; subst hv hc; exact .s _
  | j + 2, hv, hc => simp at hv))
theorem z3f {G : Cx} {vargs : Array Value} {a b : Fr} (hsz : vargs.size = [eF a, eF b].length) (hrep : ∀ (j : Nat) v x, vargs[j]? = some v → [eF a, eF b][j]? = some x → Rep G v x) : vargs = #[.agg #[.int .i64 (a).n, .int .i64 (a).d], .agg #[.int .i64 (b).n, .int .i64 (b).d]] := by
 obtain ⟨q⟩ := vargs
 match q, hsz with
 | [u, w], _ => rw [z1y (hrep 0 u _ rfl rfl), z1y (hrep 1 w _ rfl rfl)]
theorem args_F {G : Cx} {vargs : Array Value} {a : Fr} (hsz : vargs.size = [eF a].length) (hrep : ∀ (j : Nat) v x, vargs[j]? = some v → [eF a][j]? = some x → Rep G v x) : vargs = #[.agg #[.int .i64 (a).n, .int .i64 (a).d]] := by
 obtain ⟨q⟩ := vargs
 match q, hsz with
 | [u], _ => rw [z1y (hrep 0 u _ rfl rfl)]
theorem zm0 {f : FuncId} {args : List AV} {u : Value} (he : Ent f) (h : ∀ (G : Cx) (vargs : Array Value), vargs.size = args.length → (∀ (j : Nat) v x, vargs[j]? = some v → args[j]? = some x → Rep G v x) → Calls Tryz.prog f vargs G.w fun e w' => e = .returned u ∧ Below G.w.heap.size G.w w') : Pure P f args (.s u) :=
 zey (zhb he (.s _) fun G vargs hst hsz hrep => (h G vargs hsz hrep).mono (by
  rintro e w' ⟨rfl, hb⟩
  exact ⟨_, rfl, hb, .s _⟩))
theorem zwb (a : Fr) : Pure P 57 [eF a] (eB a.okB) :=
 zm0 (zdb Tryz.func57 rfl rfl) fun G vargs hsz hrep => by rw [args_F hsz hrep]; exact zr2 a G.w
theorem z14 (a b : Fr) (ha : a.ok) (hb : b.ok) : Pure P 21 [eF a, eF b] (eI (cmpN a b)) :=
 zm0 (zdb Tryz.func21 rfl rfl) fun G vargs hsz hrep => by rw [z3f hsz hrep]; exact zyy a b G.w ha hb
end Go.Proofs.YtohmldibkojkfaaGreatDoor.Aw
end
