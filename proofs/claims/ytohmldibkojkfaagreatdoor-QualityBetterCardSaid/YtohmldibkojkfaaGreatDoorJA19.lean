import Derived.Test.YtohmldibkojkfaaGreatDoorJA18
import Derived.Laws.Small
import Derived.Test.YtohmldibkojkfaaGreatDoorJA16
set_option linter.unusedSimpArgs false
set_option linter.unusedVariables false
set_option linter.unusedSectionVars false
section
namespace Go.Proofs.YtohmldibkojkfaaGreatDoor.Aw
open Go Go.RowKit
section
variable {P : Program} {o : Oper} {F : Frm} {σ : List Ob}
def laid (cs : List AV) (k : Nat) (l : List AV) : List AV := cs.take k ++ l ++ cs.drop (k + l.length)
end
end Go.Proofs.YtohmldibkojkfaaGreatDoor.Aw
end
section
namespace Go.Proofs.YtohmldibkojkfaaGreatDoor.Aw
open Go.RowKit
section
variable {P : Program} {o : Oper} {F : Frm} {σ : List Ob}
end
end Go.Proofs.YtohmldibkojkfaaGreatDoor.Aw
end
section
namespace Go.Proofs.YtohmldibkojkfaaGreatDoor.Aw
open Go.RowKit
variable [Mk]
section
variable {P : Program} {o : Oper} {F : Frm} {σ : List Ob}
theorem zt1 {G : Cx} {b sz h : Nat} {cs : List AV} {f : Nat × Nat → Prop} (hr : ze8 G b sz cs f) : ze8 G b sz (cs.take h) f := by
 obtain ⟨cur, e, fr, h1, h2, h3, h4⟩ := hr
 refine ⟨cur, e, fr, h1, h2, Nat.le_trans (Nat.mul_le_mul_right _ (by rw [List.length_take]; omega)) h3, fun k x hx => ?_⟩
 rw [List.getElem?_take] at hx
 split at hx
 ·
  exact h4 k x hx
 ·
  cases hx
theorem zwc {G : Cx} {id sz h : Nat} {cs : List AV} (hr : Rel G σ) (hs : σ[id]? = some (.row sz cs)) : Rel G (σ.set id (.row sz (cs.take h))) :=
 zhn hr hs (fun e => by subst e; simp) (fun b f => zt1)
theorem zn1 {t e : TypeId} {x y : Operand} {z : Option Value} {n bt : Nat} {id sz m : Nat} {k : IntKind} {i : Int} {h : Nat} {cs : List AV} (ho : o.op = .slice t x none (some y) none) (ht : zb4 P t = some e) (hi : zby P e = some (z, n, bt)) (hn : n = sz) (hx : F.eval x = .own id sz m) (hm0 : 0 < m) (hy : F.eval y = .s (.int k i)) (hk : i = (h : Int)) (hl : h ≤ m) (hs : σ[id]? = some (.row sz cs)) :
  Does P o F σ (.own id sz h) (σ.set id (.row sz (cs.take h))) := by
 intro G a next Q hr hop hn2
 have g1 := hop x (by simp [ho, Op.operands])
 have g2 := hop y (by simp [ho, Op.operands])
 rw [hx] at g1
 rw [hy] at g2
 have e2 := zdr g2
 obtain ⟨q1, q2⟩ := z2v ht
 subst hk hn
 generalize hv : a.eval x = u at g1
 cases g1 with
 | own0 => omega
 | own _ _ _ b cap hm hn hc hb =>
  have h2 := run_slice_h (P := P) G.w t (some ⟨b, 0, none⟩) m cap q2 k (h : Int) (by omega) (by omega)
  have h5 : (execOp a.eval o).run P G.w = .ok (.value (sliced (some ⟨b, 0, none⟩) 0 h cap n)) G.w := by
   simp only [execOp, ho, Option.map_some, Option.map_none, hv, e2, Sem.run_bind, run_sliceAt_slice (P := P) G.w t _ _ _ _ q2, h2, q1, zda hi, Result.andThen_ok, Sem.run_pure, Int.toNat_natCast]
  unfold Oper.wp
  rw [h5]
  refine hn2 _ G (.refl G) (zwc hr hs) ?_
  have e3 : sliced (some ⟨b, 0, none⟩) 0 h cap n = .slice (some ⟨b, 0, none⟩) h cap := by
   have : ¬ (cap = 0) := by omega
   simp [sliced, Addr.add_lit, this]
  rw [e3]
  exact .own id n h b cap hm (by omega) hc hb
end
end Go.Proofs.YtohmldibkojkfaaGreatDoor.Aw
end
