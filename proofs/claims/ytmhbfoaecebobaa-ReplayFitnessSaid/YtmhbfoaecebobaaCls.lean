/-
  A region that draws its order, all of whose operations yield one value each in every world of a class, walked once, in the order of the text. Conditions: none.
-/
import Derived.Test.YtmhbfoaecebobaaCore
namespace Go.Proofs.Ytmhbfoaecebobaa
set_option linter.unusedSimpArgs false
set_option linter.unusedVariables false
open Go.RowKit

section
variable {P : Program} {C : World → Prop} {Q : Exit → Act → World → Prop} {a : Act} {o : Oper}
theorem wp_region_cls {id : Nat} {w : World} {l : List Oper} (hm : P.follows .mixedOrders = true) (hB : Region.lexB .any l.toArray = true) (hC : C w.drew)
    (h : wpQuiet P l.toArray C (fun a' => ∀ w', C w' → Q .normal a' w') l a) : (Code.region id l.toArray true).wp P Q a w :=
  wp_region_quiet (C := C) hm hB hC (by simpa using h)
theorem quiet_of {K : Act → Prop} {v : Value} (hv : ∀ w, C w → (execOp a.eval o).run P w = .ok (.value v) w) (hk : K (a.put o.dst v)) : o.quiet P a C K :=
  ⟨v, fun w hw => by unfold Oper.quietAt; rw [hv w hw]; exact ⟨rfl, rfl⟩, hk⟩
end
end Go.Proofs.Ytmhbfoaecebobaa
