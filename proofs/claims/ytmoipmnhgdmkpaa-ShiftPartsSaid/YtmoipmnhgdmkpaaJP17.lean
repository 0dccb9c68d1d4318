/-
  Texts joined: ShP. Conditions: none.
-/
import Derived.Test.YtmoipmnhgdmkpaaJP13
import Derived.Test.YtmoipmnhgdmkpaaJP16
section
namespace Go.Proofs.Ytmoipmnhgdmkpaa
theorem shiftParts_holds : Rows.ShiftPartsSaid := shiftParts_of (Aw.awake_pf (P := Try.prog))

#print axioms shiftParts_holds

end Go.Proofs.Ytmoipmnhgdmkpaa
end
