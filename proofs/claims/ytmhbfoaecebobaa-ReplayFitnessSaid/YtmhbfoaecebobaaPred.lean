/-
  Walks of product's kind, fine, isWord, casebooklaw42's few, short, and the closures in them. Conditions: none.
-/
import Derived.Test.YtmhbfoaecebobaaFind
import Derived.Test.YtmhbfoaecebobaaName
namespace Go.Proofs.Ytmhbfoaecebobaa
set_option linter.unusedSimpArgs false
set_option linter.unusedVariables false
open Go.RowKit

def kindB (k : Int) : Bool := decide (1 ≤ k) && decide (k ≤ 4)
def fineB (l : List Stp) : Bool := decide (l.length ≤ 4000) && l.all fun m => kindB m.kind
def lenOfV : Value → Nat
  | .slice _ n _ => n
  | _ => 0
def few1B (a : TrV) : Bool := decide (20 < lenOfV a.vi) || decide (20 < lenOfV a.vo) || decide (100 < a.label.size)
def wordB (l : List ByteArray) : Bool := decide (l.length ≤ 200) && l.all nameB

end Go.Proofs.Ytmhbfoaecebobaa
