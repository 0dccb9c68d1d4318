/-
  Texts joined: EvK. Conditions: none.
-/
import Derived.Test.YtmoipmnhgdmkpaaGreatJC8
import Derived.Test.YtmoipmnhgdmkpaaGreatJC13
section
namespace Go.Proofs.YtmoipmnhgdmkpaaGreat.Aw
set_option linter.unusedSimpArgs false
set_option linter.unusedVariables false
set_option linter.unusedSectionVars false
open Go Go.RowKit

def stoEq (a b : Sto) : Bool := Nat.beq a.len b.len && (List.range a.len).all fun i => oEq (a.get i) (b.get i)
theorem stoEq_of {a b : Sto} (h : stoEq a b = true) : a.abs = b.abs := by
  unfold stoEq at h
  simp only [Bool.and_eq_true] at h
  have hl := Nat.eq_of_beq_eq_true h.1
  refine List.ext_getElem? fun i => ?_
  by_cases hi : i < a.len
  · have := oEq_of (List.all_eq_true.1 h.2 i (by simpa using hi))
    rw [← Sto.get_abs, ← Sto.get_abs]; exact this
  · rw [List.getElem?_eq_none (by rw [Sto.abs_len]; omega), List.getElem?_eq_none (by rw [Sto.abs_len]; omega)]
/-- a call that was evaluated apart -/
structure Ent where
  f : FuncId
  args : List AV
  s : Sto
  r : AV
  s' : Sto
  W : List Nat
def Ent.ok (P : Program) (e : Ent) : Prop := CallE P e.f e.args e.s.abs e.r e.s'.abs ∧ Chg e.s e.s' e.W
def chkEnt (P : Program) (orc : Orc) (n : Nat) (e : Ent) : Bool := match evCall P orc n e.f e.args e.s with
  | some (x, s1, W1) => avEq x e.r && stoEq s1 e.s' && W1.all (fun i => e.W.contains i)
  | none => false
theorem ent_ok {P : Program} {orc : Orc} (hm : P.follows .mixedOrders = true) (ho : OrcOk P orc) {n : Nat} {e : Ent} (h : chkEnt P orc n e = true) : e.ok P := by
  unfold chkEnt at h
  split at h
  · rename_i x s1 W1 he
    simp only [Bool.and_eq_true] at h
    obtain ⟨⟨h1, h2⟩, h3⟩ := h
    obtain ⟨c1, c2⟩ := evCall_ok hm ho n _ _ _ _ _ _ he
    rw [avEq_of _ _ h1, stoEq_of h2] at c1
    refine ⟨c1, fun id hid => ?_⟩
    rw [← stoEq_of h2]
    refine c2 id (fun hm => hid ?_)
    have := List.all_eq_true.1 h3 id hm
    simpa using this
  · cases h
def tabOf : List Ent → CallF
  | [] => fun _ _ _ => none
  | e :: l => fun f args s => bif Nat.beq f e.f && avsEq args e.args && stoEq s e.s then some (e.r, e.s', e.W) else tabOf l f args s
theorem tabOf_ok {P : Program} : ∀ (l : List Ent), (∀ e ∈ l, e.ok P) → CallOk P (tabOf l)
  | [], _ => fun f args s r s' W h => by cases h
  | e :: l, hl => fun f args s r s' W h => by
    unfold tabOf at h
    cases hb : (Nat.beq f e.f && avsEq args e.args && stoEq s e.s) with
    | false => rw [hb] at h; exact tabOf_ok l (fun e he => hl e (List.mem_cons_of_mem _ he)) f args s r s' W h
    | true =>
      rw [hb] at h; cases h
      simp only [Bool.and_eq_true] at hb
      obtain ⟨⟨h1, h2⟩, h3⟩ := hb
      obtain ⟨c1, c2⟩ := hl e List.mem_cons_self
      rw [Nat.eq_of_beq_eq_true h1, avsEq_of _ _ h2, stoEq_of h3]
      refine ⟨c1, fun id hid => ?_⟩
      rw [stoEq_of h3]
      exact c2 id hid
section
variable (P : Program) (orc : Orc) (tab : CallF)
def evCallT : Nat → CallF
  | 0 => fun _ _ _ => none
  | n + 1 => fun f args s => match tab f args s with
    | some x => some x
    | none => match P.funcs[f]? with
    | none => none
    | some fn => match fn.body with
      | none => none
      | some c => bif (fn.name == "runtime.NumGoroutine") || !(Nat.ble args.length fn.ntmps) then none else match (mkCode P orc (evCallT n) fn.ntmps c).run n (argT 0 args) s [] with
        | some (.normal, t, s', W) => retOf P s.len fn.results.toList t s' W
        | some (.ret, t, s', W) => retOf P s.len fn.results.toList t s' W
        | _ => none
end
section
variable {P : Program} {orc : Orc} {tab : CallF}
theorem evCallT_ok (hm : P.follows .mixedOrders = true) (ho : OrcOk P orc) (ht : CallOk P tab) : ∀ n, CallOk P (evCallT P orc tab n)
  | 0 => fun f args s r s' W h => by cases h
  | n + 1 => fun f args s r s' W h => by
    have ih := evCallT_ok hm ho ht n
    unfold evCallT at h
    split at h
    · rename_i x hx
      cases h
      exact ht _ _ _ _ _ _ hx
    split at h
    · cases h
    · rename_i fn hf
      split at h
      · cases h
      · rename_i c hb
        generalize hg : ((fn.name == "runtime.NumGoroutine") || !(Nat.ble args.length fn.ntmps)) = g at h
        cases g with
        | true => cases h
        | false =>
          rw [cond_false] at h
          simp only [Bool.or_eq_false_iff, Bool.not_eq_false'] at hg
          have hcode := mkCode_ok (N := fn.ntmps) hm ho ih c
          have main : ∀ e t s1 W1, (e = .normal ∨ e = .ret) → (mkCode P orc (evCallT P orc tab n) fn.ntmps c).run n (argT 0 args) s [] = some (e, t, s1, W1) → retOf P s.len fn.results.toList t s1 W1 = some (r, s', W) → CallE P f args s.abs r s'.abs ∧ Chg s s' W := by
            intro e t s1 W1 he hrun hret
            obtain ⟨h1, h2, _⟩ := hcode n (argF 0 args) (argT 0 args) s [] _ (argT_ok args 0) hrun
            unfold retOf at hret
            split at hret
            · rename_i xs hx
              have hret := Option.some.inj hret
              refine keepOr_ok (callE_fn hf hg.1 hb (Nat.le_of_ble_eq_true hg.2) (ew_mono h1 ?_)) (h2 s (.refl s)) hret
              rintro e F2 σ2 ⟨rfl, hF2, rfl⟩
              exact ⟨he, rfl, xs, evResL_ok hF2 hx, rfl⟩
            · cases hret
          split at h
          · rename_i t s1 W1 he; exact main _ _ _ _ (.inl rfl) he h
          · rename_i t s1 W1 he; exact main _ _ _ _ (.inr rfl) he h
          · cases h
def fin4 (s : Sto) : AV → AV
  | .tup l => .tup (l.map (fin2 s))
  | x => fin2 s x
theorem fin4_ok (s : Sto) (x : AV) : Fini s.abs x (fin4 s x) := by
  unfold fin4
  split
  · rename_i l
    exact .tup _ _ (by simp) (fun j x y hx hy => by
      rw [List.getElem?_map, hx] at hy
      cases hy
      exact fin2_ok s x)
  · exact fin2_ok s x
def chkPureT (P : Program) (orc : Orc) (tab : CallF) (n : Nat) (f : FuncId) (args : List AV) (r : AV) : Bool := match evCallT P orc tab n f args Sto.nil with
  | some (x, s, _) => avEq (fin4 s x) r && loB 0 r && losB 0 args
  | none => false
theorem chkPureT_ok (hm : P.follows .mixedOrders = true) (ho : OrcOk P orc) (ht : CallOk P tab) {n : Nat} {f : FuncId} {args : List AV} {r : AV} (h : chkPureT P orc tab n f args r = true) : Pure P f args r := by
  unfold chkPureT at h
  split at h
  · rename_i x s W he
    simp only [Bool.and_eq_true] at h
    obtain ⟨⟨h1, h2⟩, h3⟩ := h
    have hf := fin4_ok s x
    rw [avEq_of _ _ h1] at hf
    have hc := (evCallT_ok hm ho ht n f args _ _ _ _ he).1
    refine ⟨hc.ent, loB_of r h2, fun G vargs hst hsz hrep => ?_⟩
    let G0 : Cx := { base := G.w.heap.size, w0 := G.w, w := G.w, mu := fun _ => none, St := G.St }
    have hrel : Rel G0 Sto.nil.abs := ⟨Below.refl _ _, Nat.le_refl _, hst, by simp [Sto.abs_nil], by rintro i j b ⟨_, _, h⟩; simp [Sto.abs_nil] at h, fun _ _ => rfl⟩
    have hlo := losB_of args h3
    refine (hc.call G0 vargs hrel hsz (fun j v x hv hx => (hrep j v x hv hx).low (hlo x (List.mem_of_getElem? hx)) (fun _ _ h => h) (fun _ _ _ => rfl) (fun id y h => by omega) (fun h => by omega))).mono ?_
    rintro e w' ⟨v, G', rfl, rfl, he', hr', hv⟩
    have hbase : G'.base = G.w.heap.size := he'.base
    have hbel : Below G.w.heap.size G.w G'.w := by have := hr'.below; rw [hbase, he'.w0] at this; exact this
    have hfin := fin_rep (B := G.w.heap.size) hr' (by omega) hf hv
    refine ⟨v, G'.all G.w.heap.size, rfl, rfl, hbel, fun b o h => .inl (he'.st b o h), fun b o h => ?_, fun b o h => ?_, hfin⟩
    · rcases h with h | h
      · exact he'.stN b o h
      · exact .inr h.1
    · rcases h with h | h
      · exact hr'.st b o h
      · exact h.2
  · cases h
end
end Go.Proofs.YtmoipmnhgdmkpaaGreat.Aw
end
