import Derived.Test.YtohmldibkojkfaaGreatDoorJA25
import Derived.Test.YtohmldibkojkfaaGreatDoorJA16
import Derived.Test.YtohmldibkojkfaaGreatDoorJA19
import Derived.Test.YtohmldibkojkfaaGreatDoorJA20
import Derived.Test.YtohmldibkojkfaaGreatDoorJA5
import Derived.Test.YtohmldibkojkfaaGreatDoorJA4
set_option linter.unusedSimpArgs false
set_option linter.unusedVariables false
set_option linter.unusedSectionVars false
section
namespace Go.Proofs.YtohmldibkojkfaaGreatDoor.Aw
open Go.RowKit Go.Proofs
variable {P : Program} [IsP P]
theorem gti_mem {α : Type} [Inhabited α] {l : List α} {k : Nat} (h : k < l.length) : gti l k ∈ l := List.mem_of_getElem? (zbp h)
instance : Inhabited Fr := ⟨⟨0, 0⟩⟩
def eF (a : Fr) : AV := .agg [eI a.n, eI a.d]
def eFE (x : FE) : AV := .tup [.agg [eI x.n, eI x.d], eI x.e]
theorem rep_F {G : Cx} {v : Value} {a : Fr} (h : Rep G v (eF a)) : v = .agg #[.int .i64 a.n, .int .i64 a.d] := by
 generalize hx : eF a = x at h
 cases h with
 | agg vs cs hl h1 hr =>
  unfold eF at hx
  injection hx with hx
  subst hx
  obtain ⟨q⟩ := vs
  match q, hl with
  | [u, w], _ =>
   have e1 := zdr (hr 0 u _ rfl rfl)
   have e2 := zdr (hr 1 w _ rfl rfl)
   rw [e1, e2]
 | _ => unfold eF at hx; cases hx
theorem z1o (G : Cx) (n d : Int) : Rep G (.agg #[.int .i64 n, .int .i64 d]) (.agg [eI n, eI d]) :=
 .agg _ _ rfl (fun c hc => by simp at hc; rcases hc with rfl | rfl <;> rfl) (fun j v c hv hc => by
  match j, hv, hc with
  | 0, hv, hc => simp at hv hc; subst hv hc; exact .s _
  | 1, hv, hc => simp at hv hc; subst hv hc; exact .s _
  | j + 2, hv, hc => simp at hv)
theorem zme {f : FuncId} {args : List AV} {x : FE} (he : Ent f) (h : ∀ (G : Cx) (vargs : Array Value), vargs.size = args.length → (∀ (j : Nat) v x, vargs[j]? = some v → args[j]? = some x → Rep G v x) → Calls Tryz.prog f vargs G.w fun e w' => e = .returned (.tuple #[.agg #[.int .i64 (x).n, .int .i64 (x).d], .int .i64 (x).e]) ∧ Below G.w.heap.size G.w w') : Pure P f args (eFE x) :=
 zd6 (zfw he (.tup _ (zaj (.agg _ (zaj (.s _) (zaj (.s _) zbb))) (zaj (.s _) zbb))) fun G vargs hst hsz hrep => (h G vargs hsz hrep).mono (by
  rintro e w' ⟨rfl, hb⟩
  refine ⟨_, rfl, hb, .tup _ _ rfl (fun j v c hv hc => ?_)⟩
  match j, hv, hc with
  | 0, hv, hc => simp at hv hc; subst hv hc; exact z1o _ _ _
  | 1, hv, hc => simp at hv hc; subst hv hc; exact .s _
  | j + 2, hv, hc => simp at hv))
theorem zx8 {G : Cx} {vargs : Array Value} {a b : Fr} (hsz : vargs.size = [eF a, eF b].length) (hrep : ∀ (j : Nat) v x, vargs[j]? = some v → [eF a, eF b][j]? = some x → Rep G v x) : vargs = #[.agg #[.int .i64 (a).n, .int .i64 (a).d], .agg #[.int .i64 (b).n, .int .i64 (b).d]] := by
 obtain ⟨q⟩ := vargs
 match q, hsz with
 | [u, w], _ => rw [rep_F (hrep 0 u _ rfl rfl), rep_F (hrep 1 w _ rfl rfl)]
theorem zto {f : FuncId} {args : List AV} {u : Value} (he : Ent f) (h : ∀ (G : Cx) (vargs : Array Value), vargs.size = args.length → (∀ (j : Nat) v x, vargs[j]? = some v → args[j]? = some x → Rep G v x) → Calls Tryz.prog f vargs G.w fun e w' => e = .returned u ∧ Below G.w.heap.size G.w w') : Pure P f args (.s u) :=
 zd6 (zfw he (.s _) fun G vargs hst hsz hrep => (h G vargs hsz hrep).mono (by
  rintro e w' ⟨rfl, hb⟩
  exact ⟨_, rfl, hb, .s _⟩))
def cmpE (a b : Fr) : Int × Int := if a.okB && b.okB then (cmpN a b, 0) else (0, 1)
theorem zxk (a b : Fr) : Pure P 40 [eF a, eF b] (.tup [eI (cmpE a b).1, eI (cmpE a b).2]) :=
 zd6 (zfw (zc1 Tryz.func40 rfl rfl) (.tup _ (zaj (.s _) (zaj (.s _) zbb))) fun G vargs hst hsz hrep => by
  rw [zx8 hsz hrep]
  refine (z21 a b G.w).mono ?_
  rintro e w' ⟨rfl, hb⟩
  refine ⟨_, rfl, hb, .tup _ _ rfl (fun j v c hv hc => ?_)⟩
  match j, hv, hc with
  | 0, hv, hc => simp at hv hc; subst hv hc; unfold cmpE eI; cases a.okB <;> cases b.okB <;> exact .s _
  | 1, hv, hc => simp at hv hc; subst hv hc; unfold cmpE eI; cases a.okB <;> cases b.okB <;> exact .s _
  | j + 2, hv, hc => simp at hv)
theorem zvt (a b : Fr) (ha : a.ok) (hb : b.ok) : Pure P 21 [eF a, eF b] (eI (cmpN a b)) :=
 zto (zc1 Tryz.func21 rfl rfl) fun G vargs hsz hrep => by rw [zx8 hsz hrep]; exact zys a b G.w ha hb
end Go.Proofs.YtohmldibkojkfaaGreatDoor.Aw
end
