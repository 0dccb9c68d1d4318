/-
  Texts joined: ShW. Conditions: none.
-/
import Derived.Test.YtmoipmnhgdmkpaaJQ10
import Derived.Test.YtmoipmnhgdmkpaaJQ14
section
namespace Go.Proofs.Ytmoipmnhgdmkpaa
theorem shiftCheapest_holds : Rows.ShiftCheapestSaid := shiftCheapest_of (Aw.awake_pf (P := Try.prog))

#print axioms shiftCheapest_holds

end Go.Proofs.Ytmoipmnhgdmkpaa
end
