import Derived.Test.YtohmldibkojkfaaGreatDoorJB19
import Derived.Laws.Small
import Derived.Test.YtohmldibkojkfaaGreatDoorJB17
set_option linter.unusedSimpArgs false
set_option linter.unusedVariables false
set_option linter.unusedSectionVars false
section
namespace Go.Proofs.YtohmldibkojkfaaGreatDoor.Aw
open Go Go.RowKit
section
variable {P : Program} {o : Oper} {F : Frm} {σ : List Ob}
theorem zt0 {x y : Operand} {t t' : TypeId} {k k' : IntKind} {m n c : Int} (ho : o.op = .call { callee := .builtin .max, args := #[x, y], argTypes := #[t, t'] }) (hx : F.eval x = .s (.int k m)) (hy : F.eval y = .s (.int k' n)) (hc : (if m < n then n else m) = c) : Does P o F σ (.s (.int k c)) σ :=
 zcb fun G ρ hr hop => by
  have h1 := hop x (by simp [ho, Op.operands, Call.operands])
  have h2 := hop y (by simp [ho, Op.operands, Call.operands])
  rw [hx] at h1
  rw [hy] at h2
  subst hc
  exact ⟨_, by simp [execOp, ho, resolve, invoke, builtin, zdd h1, zdd h2, run_max_int2], .s _⟩
theorem zql {t t' : TypeId} {x y : Operand} {a b : Bool} (ht : P.underlying t = some .bool) (ho : o.op = .binOp .neq t x y t') (hx : F.eval x = .s (.bool a)) (hy : F.eval y = .s (.bool b)) : Does P o F σ (.s (.bool (!(a == b)))) σ :=
 zdh ho hx hy fun w => by
  have h1 : ∀ d, (Op.equalIn (d + 1) t (.bool a) (.bool b)).run P w = .ok (a == b) w := fun d => by simp [Op.equalIn, run_underlying ht]
  have h2 : (Op.equal t (.bool a) (.bool b)).run P w = .ok (a == b) w := h1 9999
  have h3 : (binOp .neq t (.bool a) (.bool b) : Sem Value) = (do pure (.bool (!(← Op.equal t (.bool a) (.bool b))))) := rfl
  rw [Sem.run_bind, show (eqGuard .neq t x y (.bool a) (.bool b)).run P w = .ok () w from rfl, Result.andThen_ok, h3, Sem.run_bind, h2]
  rfl
def laid (cs : List AV) (k : Nat) (l : List AV) : List AV := cs.take k ++ l ++ cs.drop (k + l.length)
end
end Go.Proofs.YtohmldibkojkfaaGreatDoor.Aw
end
section
namespace Go.Proofs.YtohmldibkojkfaaGreatDoor.Aw
open Go.RowKit
section
variable {P : Program} {o : Oper} {F : Frm} {σ : List Ob}
end
end Go.Proofs.YtohmldibkojkfaaGreatDoor.Aw
end
section
namespace Go.Proofs.YtohmldibkojkfaaGreatDoor.Aw
open Go.RowKit
variable [Mk]
section
variable {P : Program} {o : Oper} {F : Frm} {σ : List Ob}
theorem zur {G : Cx} {b sz h : Nat} {cs : List AV} {f : Nat × Nat → Prop} (hr : ze7 G b sz cs f) : ze7 G b sz (cs.take h) f := by
 obtain ⟨cur, e, fr, h1, h2, h3, h4⟩ := hr
 refine ⟨cur, e, fr, h1, h2, Nat.le_trans (Nat.mul_le_mul_right _ (by rw [List.length_take]; omega)) h3, fun k x hx => ?_⟩
 rw [List.getElem?_take] at hx
 split at hx
 ·
  exact h4 k x hx
 ·
  cases hx
theorem zwr {G : Cx} {id sz h : Nat} {cs : List AV} (hr : Rel G σ) (hs : σ[id]? = some (.row sz cs)) : Rel G (σ.set id (.row sz (cs.take h))) :=
 zf6 hr hs (fun e => by subst e; simp) (fun b f => zur)
theorem zoi {t e : TypeId} {x y : Operand} {z : Option Value} {n bt : Nat} {id sz m : Nat} {k : IntKind} {i : Int} {h : Nat} {cs : List AV} (ho : o.op = .slice t x none (some y) none) (ht : zb9 P t = some e) (hi : zby P e = some (z, n, bt)) (hn : n = sz) (hx : F.eval x = .own id sz m) (hm0 : 0 < m) (hy : F.eval y = .s (.int k i)) (hk : i = (h : Int)) (hl : h ≤ m) (hs : σ[id]? = some (.row sz cs)) :
  Does P o F σ (.own id sz h) (σ.set id (.row sz (cs.take h))) := by
 intro G a next Q hr hop hn2
 have g1 := hop x (by simp [ho, Op.operands])
 have g2 := hop y (by simp [ho, Op.operands])
 rw [hx] at g1
 rw [hy] at g2
 have e2 := zdd g2
 obtain ⟨q1, q2⟩ := zsa ht
 subst hk hn
 generalize hv : a.eval x = u at g1
 cases g1 with
 | own0 => omega
 | own _ _ _ b cap hm hn hc hb =>
  have h2 := run_slice_h (P := P) G.w t (some ⟨b, 0, none⟩) m cap q2 k (h : Int) (by omega) (by omega)
  have h5 : (execOp a.eval o).run P G.w = .ok (.value (sliced (some ⟨b, 0, none⟩) 0 h cap n)) G.w := by
   simp only [execOp, ho, Option.map_some, Option.map_none, hv, e2, Sem.run_bind, run_sliceAt_slice (P := P) G.w t _ _ _ _ q2, h2, q1, zc2 hi, Result.andThen_ok, Sem.run_pure, Int.toNat_natCast]
  unfold Oper.wp
  rw [h5]
  refine hn2 _ G (.refl G) (zwr hr hs) ?_
  have e3 : sliced (some ⟨b, 0, none⟩) 0 h cap n = .slice (some ⟨b, 0, none⟩) h cap := by
   have : ¬ (cap = 0) := by omega
   simp [sliced, Addr.add_lit, this]
  rw [e3]
  exact .own id n h b cap hm (by omega) hc hb
end
end Go.Proofs.YtohmldibkojkfaaGreatDoor.Aw
end
