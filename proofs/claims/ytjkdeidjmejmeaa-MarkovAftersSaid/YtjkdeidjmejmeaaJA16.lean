/-
  Texts joined: MkI. Conditions: none.
-/
import Derived.Test.YtjkdeidjmejmeaaJA14
import Derived.Test.YtjkdeidjmejmeaaJA15
section
namespace Go.Proofs.Ytjkdeidjmejmeaa
theorem markovAfters_holds : Rows.MarkovAftersSaid := markovAfters_of (Aw.awake_pf (P := Try.prog))

#print axioms markovAfters_holds

end Go.Proofs.Ytjkdeidjmejmeaa
end
