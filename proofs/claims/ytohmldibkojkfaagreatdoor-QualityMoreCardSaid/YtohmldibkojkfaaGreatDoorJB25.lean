import Derived.Test.YtohmldibkojkfaaGreatDoorJB19
import Derived.Test.YtohmldibkojkfaaGreatDoorJB16
import Derived.Test.YtohmldibkojkfaaGreatDoorJB22
import Derived.Laws.BytesArg
import Derived.Maps.OwnSet
set_option linter.unusedSimpArgs false
set_option linter.unusedVariables false
set_option linter.unusedSectionVars false
section
namespace Go.Proofs.YtohmldibkojkfaaGreatDoor.Aw
open Go Go.Proofs Go.RowKit Go.Maps Go.WideMaps
section
variable {P : Program} {o : Oper} {F : Frm} {σ : List Ob}
theorem zlm {t kt el : TypeId} {m x : Operand} {id : Nat} {X : MapX} {key z : Value} {kl zl rl : Lit} {n bt : Nat} {b : Bool} (ho : o.op = .lookup t m x true) (ht : zo8 P t = some (kt, el)) (K : Keyed P kt) (hm : F.eval m = .mp id) (hs : σ[id]? = some (.mp X)) (hX : X.P = P ∧ X.kt = kt ∧ X.el = el)
  (hx : F.eval x = .s key) (hkey : keyOf P kt key = some kl) (hi : zby P el = some (some z, n, bt)) (hz : plainElem (H := Unit) P el z = some (.lit zl, [])) (hr : X.D.atKey kl (.lit zl) = .lit rl) (hb : Maps.has X.D kl = b) : ∀ σ2 : List Ob, (∀ i ∈ [id], σ2[i]? = σ[i]?) → Does P o F σ2 (.tup [.s (zvk rl), .s (.bool b)]) σ2 := fun σ2 hσ =>
 zcb fun G ρ hrel hop => by
  have g1 := hop m (by simp [ho, Op.operands])
  have g2 := hop x (by simp [ho, Op.operands])
  rw [hm] at g1
  rw [hx] at g2
  have e2 := zdd g2
  generalize hu : ρ m = u at g1
  cases g1 with
  | mp _ c hmu =>
   obtain ⟨b0, h1, h2, h3, h4, h5⟩ := hrel.obs id _ ((hσ id (by simp)).trans hs)
   rw [hmu] at h1
   cases h1
   obtain ⟨XP, Xk, Xe, Xn, XD⟩ := X
   obtain ⟨rfl, rfl, rfl⟩ := hX
   obtain ⟨i, k1, k2, k3, k4⟩ := zgt hi
   have hzero : (zeroValue Xe).run XP G.w = .ok z G.w := by simp [zeroValue, typeInfo, k1, k2]
   obtain ⟨v, ps, hrun, hv⟩ := World.ownsMap.look_ok h2 K (zw4 ht) hzero hz hkey
   have hr' : XD.atKey kl (.lit zl) = .lit rl := hr
   have hb' : Maps.has XD kl = b := hb
   rw [hr'] at hv
   rw [hb'] at hrun
   have := zlf hv
   subst this
   refine ⟨.tuple #[zvk rl, .bool b], ?_, .tup _ _ rfl (fun j v c hv hc => ?_)⟩
   ·
    simp [execOp, ho, hu, e2, hrun, Result.andThen]
   ·
    match j, hv, hc with
    | 0, hv, hc => simp at hv hc; subst hv hc; exact .s _
    | 1, hv, hc => simp at hv hc; subst hv hc; exact .s _
    | j + 2, hv, hc => simp at hv
def eU (n : Int) : AV := .s (.int .u8 n)
end
end Go.Proofs.YtohmldibkojkfaaGreatDoor.Aw
end
