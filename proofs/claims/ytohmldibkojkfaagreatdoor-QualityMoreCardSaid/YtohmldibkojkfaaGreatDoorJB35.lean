import Derived.Test.YtohmldibkojkfaaGreatDoorJB33
import Derived.Test.YtohmldibkojkfaaGreatDoorJB19
import Derived.Test.YtohmldibkojkfaaGreatDoorJB22
import Derived.OrdersIn
set_option linter.unusedSimpArgs false
set_option linter.unusedVariables false
set_option linter.unusedSectionVars false
section
namespace Go.Proofs.YtohmldibkojkfaaGreatDoor.Aw
open Go Go.RowKit Go.Proofs
section
variable {P : Program} {N : Nat} {F : Frm} {σ : List Ob} {Q : Exit → Frm → List Ob → Prop}
end
section
variable {P : Program} {r n : Nat}
variable {N : Nat} {F : Frm} {σ : List Ob} {Q : Exit → Frm → List Ob → Prop}
end
theorem zet {P : Program} {N : Nat} {l : List Oper} {F : Frm} {σ : List Ob} {Q : Exit → Frm → List Ob → Prop} (h : EX P N l.toArray l [] l F σ (fun F' σ' => Q .normal F' σ')) : z0e P N l F σ Q := by
 obtain ⟨F', σ', out, ks, sts, h1, h2, h3⟩ := h
 exact zl4 h1 (by simpa using h2) h3
end Go.Proofs.YtohmldibkojkfaaGreatDoor.Aw
end
