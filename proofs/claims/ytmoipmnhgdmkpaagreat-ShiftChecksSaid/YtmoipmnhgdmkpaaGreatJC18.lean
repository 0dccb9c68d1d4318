/-
  Texts joined: ShRf. Conditions: none.
-/
import Derived.Test.YtmoipmnhgdmkpaaGreatJC12
import Derived.Test.YtmoipmnhgdmkpaaGreatJC17
section
namespace Go.Proofs.YtmoipmnhgdmkpaaGreat
theorem shiftChecks_holds : Rows.ShiftChecksSaid := shiftChecks_of (Aw.awake_pf (P := Tryz.prog))

#print axioms shiftChecks_holds

end Go.Proofs.YtmoipmnhgdmkpaaGreat
end
