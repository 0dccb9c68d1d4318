/-
  No cell of these rows narrows 'for every input' (looked for: loops, veiled, ifaces, maps, wideKeys, modest, calm, conditions, laid).
  DERIVED. THE GIVEN ROWS OF THIS SEAT. 6 by the template 'for every input the law returns true; each argument reads behind the call as it read before'; 0 by the template 'total and deterministic' (their statements: YtamhbmaimiifmaaTotals.lean).
  GIVEN WITH THE SEED: the statements are not yours to turn. If you find one false, say at which input.
  Laid BY PROGRAM, IN A SANDBOX (cutbox-rows.mjs): the forced cells as the released guide's own fill.sh prints them over the translation 56fbe3d58445d803… (all of the seat's roots in one cut). By AI agents, Wed Nov 11 2026. No macro, syntax, notation, axiom, sorry.
-/
import Derived.Test.YtamhbmaimiifmaaChecked
import GoSem.Claim
import GoSem.ClaimJoined
import GoSem.ClaimMapViews
import Derived.JoinedTies
import Derived.KernelRfl
namespace Go.Proofs.Ytamhbmaimiifmaa
/- THE CELL 'sum', in the pinned program and in every row, IS THE sha256 OF THE DUMP (.gsa) THAT YtamhbmaimiifmaaProg.lean LOADS. Nothing in Lean hashes anything: it is a label: what it is worth is what the hold of that sum in a sandbox is worth. -/
noncomputable def Try.pinned : Pinned := { name := "ytamhbmaimiifmaa", sum := "56fbe3d58445d803c01a23e1f9edcd5e2e5a4e408f748221d258a8a0e42b9df9", checked := Try.checked }
namespace Rows
def none {H : Type} : Left H := { results := [], args := [] }

/-- 'casebooklaw42.ProductChecks': WHATEVER THE INPUT: true; the input reads as it did. -/
def productChecksSpec : ChangeSpec := { name := "productChecks", fn := fun _ => fun
  | [d1, d2, d3, d4] => { results := [.lit (.bool true)], args := [d1, d2, d3, d4] }
  | _ => none }
def productChecksRow : OpenClaim := { program := "ytamhbmaimiifmaa", sum := "56fbe3d58445d803c01a23e1f9edcd5e2e5a4e408f748221d258a8a0e42b9df9", func := "casebook/casebooklaw42.ProductChecks", spec := "productChecks", unfollowed := true, recurses := true, apart := false }
def ProductChecksSaid : Prop := productChecksRow.holds Try.pinned (OpenSpec.ofChange productChecksSpec)

/-- ITS FALSE NEIGHBOUR: 'it returns false'. Refute it at one input. -/
def productChecksWrong : ChangeSpec := { name := "productChecks", fn := fun _ => fun
  | [d1, d2, d3, d4] => { results := [.lit (.bool false)], args := [d1, d2, d3, d4] }
  | _ => none }
def ProductChecksWrongFalsely : Prop := productChecksRow.holds Try.pinned (OpenSpec.ofChange productChecksWrong)

/-- 'casebooklaw42.ProductCosts': WHATEVER THE INPUT: true; the input reads as it did. -/
def productCostsSpec : ChangeSpec := { name := "productCosts", fn := fun _ => fun
  | [d1, d2] => { results := [.lit (.bool true)], args := [d1, d2] }
  | _ => none }
def productCostsRow : OpenClaim := { program := "ytamhbmaimiifmaa", sum := "56fbe3d58445d803c01a23e1f9edcd5e2e5a4e408f748221d258a8a0e42b9df9", func := "casebook/casebooklaw42.ProductCosts", spec := "productCosts", unfollowed := true, recurses := true, apart := false }
def ProductCostsSaid : Prop := productCostsRow.holds Try.pinned (OpenSpec.ofChange productCostsSpec)

/-- ITS FALSE NEIGHBOUR: 'it returns false'. Refute it at one input. -/
def productCostsWrong : ChangeSpec := { name := "productCosts", fn := fun _ => fun
  | [d1, d2] => { results := [.lit (.bool false)], args := [d1, d2] }
  | _ => none }
def ProductCostsWrongFalsely : Prop := productCostsRow.holds Try.pinned (OpenSpec.ofChange productCostsWrong)

/-- 'casebooklaw42.ProductSound': WHATEVER THE INPUT: true; the input reads as it did. -/
def productSoundSpec : ChangeSpec := { name := "productSound", fn := fun _ => fun
  | [d1, d2, d3, d4] => { results := [.lit (.bool true)], args := [d1, d2, d3, d4] }
  | _ => none }
def productSoundRow : OpenClaim := { program := "ytamhbmaimiifmaa", sum := "56fbe3d58445d803c01a23e1f9edcd5e2e5a4e408f748221d258a8a0e42b9df9", func := "casebook/casebooklaw42.ProductSound", spec := "productSound", unfollowed := true, recurses := true, apart := false }
def ProductSoundSaid : Prop := productSoundRow.holds Try.pinned (OpenSpec.ofChange productSoundSpec)

/-- ITS FALSE NEIGHBOUR: 'it returns false'. Refute it at one input. -/
def productSoundWrong : ChangeSpec := { name := "productSound", fn := fun _ => fun
  | [d1, d2, d3, d4] => { results := [.lit (.bool false)], args := [d1, d2, d3, d4] }
  | _ => none }
def ProductSoundWrongFalsely : Prop := productSoundRow.holds Try.pinned (OpenSpec.ofChange productSoundWrong)

/-- 'casebooklaw42.ProductMoves': WHATEVER THE INPUT: true; the input reads as it did. -/
def productMovesSpec : ChangeSpec := { name := "productMoves", fn := fun _ => fun
  | [d1, d2, d3, d4] => { results := [.lit (.bool true)], args := [d1, d2, d3, d4] }
  | _ => none }
def productMovesRow : OpenClaim := { program := "ytamhbmaimiifmaa", sum := "56fbe3d58445d803c01a23e1f9edcd5e2e5a4e408f748221d258a8a0e42b9df9", func := "casebook/casebooklaw42.ProductMoves", spec := "productMoves", unfollowed := true, recurses := true, apart := false }
def ProductMovesSaid : Prop := productMovesRow.holds Try.pinned (OpenSpec.ofChange productMovesSpec)

/-- ITS FALSE NEIGHBOUR: 'it returns false'. Refute it at one input. -/
def productMovesWrong : ChangeSpec := { name := "productMoves", fn := fun _ => fun
  | [d1, d2, d3, d4] => { results := [.lit (.bool false)], args := [d1, d2, d3, d4] }
  | _ => none }
def ProductMovesWrongFalsely : Prop := productMovesRow.holds Try.pinned (OpenSpec.ofChange productMovesWrong)

/-- 'casebooklaw42.ProductBoth': WHATEVER THE INPUT: true; the input reads as it did. -/
def productBothSpec : ChangeSpec := { name := "productBoth", fn := fun _ => fun
  | [d1, d2, d3, d4] => { results := [.lit (.bool true)], args := [d1, d2, d3, d4] }
  | _ => none }
def productBothRow : OpenClaim := { program := "ytamhbmaimiifmaa", sum := "56fbe3d58445d803c01a23e1f9edcd5e2e5a4e408f748221d258a8a0e42b9df9", func := "casebook/casebooklaw42.ProductBoth", spec := "productBoth", unfollowed := true, recurses := true, apart := false }
def ProductBothSaid : Prop := productBothRow.holds Try.pinned (OpenSpec.ofChange productBothSpec)

/-- ITS FALSE NEIGHBOUR: 'it returns false'. Refute it at one input. -/
def productBothWrong : ChangeSpec := { name := "productBoth", fn := fun _ => fun
  | [d1, d2, d3, d4] => { results := [.lit (.bool false)], args := [d1, d2, d3, d4] }
  | _ => none }
def ProductBothWrongFalsely : Prop := productBothRow.holds Try.pinned (OpenSpec.ofChange productBothWrong)

/-- 'casebooklaw42.ProductPossible': WHATEVER THE INPUT: true; the input reads as it did. -/
def productPossibleSpec : ChangeSpec := { name := "productPossible", fn := fun _ => fun
  | [d1, d2, d3] => { results := [.lit (.bool true)], args := [d1, d2, d3] }
  | _ => none }
def productPossibleRow : OpenClaim := { program := "ytamhbmaimiifmaa", sum := "56fbe3d58445d803c01a23e1f9edcd5e2e5a4e408f748221d258a8a0e42b9df9", func := "casebook/casebooklaw42.ProductPossible", spec := "productPossible", unfollowed := true, recurses := true, apart := false }
def ProductPossibleSaid : Prop := productPossibleRow.holds Try.pinned (OpenSpec.ofChange productPossibleSpec)

/-- ITS FALSE NEIGHBOUR: 'it returns false'. Refute it at one input. -/
def productPossibleWrong : ChangeSpec := { name := "productPossible", fn := fun _ => fun
  | [d1, d2, d3] => { results := [.lit (.bool false)], args := [d1, d2, d3] }
  | _ => none }
def ProductPossibleWrongFalsely : Prop := productPossibleRow.holds Try.pinned (OpenSpec.ofChange productPossibleWrong)

/- THE SECOND FORM. 'bulk': how many values and letters a reading holds, each counted each time it is reached (what is shared counts as often as it is met; a slice's spare places count too). A statement '..UptoSaid' is the law's where the arguments, and the package variables that the reading takes, are together of bulk at most 1048576: NARROWER than '..Said'. Prove '..Said' where nothing that the law and all that it calls make is longer than what came in: it says more and counts as full. Else prove '..UptoSaid'. A law counts once. -/
mutual
def uptoBulk {H : Type} : DataW H → Nat
  | .lit (.string bytes) => bytes.length + 1
  | .lit _ => 1
  | .nil => 1
  | .ptr d => uptoBulk d + 1
  | .slice elems spare => uptoBulkAll elems + uptoBulkAll spare + 1
  | .agg parts => uptoBulkAll parts + 1
  | .iface _ d => uptoBulk d + 1
  | .map entries => uptoBulkEntries entries + 1
  | .held _ => 1
def uptoBulkAll {H : Type} : List (DataW H) → Nat
  | [] => 0
  | d :: r => uptoBulk d + uptoBulkAll r
def uptoBulkEntries {H : Type} : List (Lit × DataW H) → Nat
  | [] => 0
  | x :: r => uptoBulkEntry x + uptoBulkEntries r
def uptoBulkEntry {H : Type} : Lit × DataW H → Nat
  | (.string bytes, d) => bytes.length + uptoBulk d + 1
  | (_, d) => uptoBulk d + 1
 end
def uptoSmall : (H : Type) → List (DataW H) → Bool := fun _ ds => decide (uptoBulkAll ds ≤ 1048576)
def OpenSpec.upto (s : _root_.Go.ChangeSpec) : _root_.Go.OpenSpec := { _root_.Go.OpenSpec.ofChange s with cond := some uptoSmall }

/-- 'casebooklaw42.ProductChecks', WHERE WHAT IT READS IS OF BULK AT MOST 1048576: true; the input reads as it did. -/
def productChecksUptoRow : OpenClaim := { program := "ytamhbmaimiifmaa", sum := "56fbe3d58445d803c01a23e1f9edcd5e2e5a4e408f748221d258a8a0e42b9df9", func := "casebook/casebooklaw42.ProductChecks", spec := "productChecks", unfollowed := true, recurses := true, apart := false, narrowed := true }
def ProductChecksUptoSaid : Prop := productChecksUptoRow.holds Try.pinned (OpenSpec.upto productChecksSpec)

/-- 'casebooklaw42.ProductCosts', WHERE WHAT IT READS IS OF BULK AT MOST 1048576: true; the input reads as it did. -/
def productCostsUptoRow : OpenClaim := { program := "ytamhbmaimiifmaa", sum := "56fbe3d58445d803c01a23e1f9edcd5e2e5a4e408f748221d258a8a0e42b9df9", func := "casebook/casebooklaw42.ProductCosts", spec := "productCosts", unfollowed := true, recurses := true, apart := false, narrowed := true }
def ProductCostsUptoSaid : Prop := productCostsUptoRow.holds Try.pinned (OpenSpec.upto productCostsSpec)

/-- 'casebooklaw42.ProductSound', WHERE WHAT IT READS IS OF BULK AT MOST 1048576: true; the input reads as it did. -/
def productSoundUptoRow : OpenClaim := { program := "ytamhbmaimiifmaa", sum := "56fbe3d58445d803c01a23e1f9edcd5e2e5a4e408f748221d258a8a0e42b9df9", func := "casebook/casebooklaw42.ProductSound", spec := "productSound", unfollowed := true, recurses := true, apart := false, narrowed := true }
def ProductSoundUptoSaid : Prop := productSoundUptoRow.holds Try.pinned (OpenSpec.upto productSoundSpec)

/-- 'casebooklaw42.ProductMoves', WHERE WHAT IT READS IS OF BULK AT MOST 1048576: true; the input reads as it did. -/
def productMovesUptoRow : OpenClaim := { program := "ytamhbmaimiifmaa", sum := "56fbe3d58445d803c01a23e1f9edcd5e2e5a4e408f748221d258a8a0e42b9df9", func := "casebook/casebooklaw42.ProductMoves", spec := "productMoves", unfollowed := true, recurses := true, apart := false, narrowed := true }
def ProductMovesUptoSaid : Prop := productMovesUptoRow.holds Try.pinned (OpenSpec.upto productMovesSpec)

/-- 'casebooklaw42.ProductBoth', WHERE WHAT IT READS IS OF BULK AT MOST 1048576: true; the input reads as it did. -/
def productBothUptoRow : OpenClaim := { program := "ytamhbmaimiifmaa", sum := "56fbe3d58445d803c01a23e1f9edcd5e2e5a4e408f748221d258a8a0e42b9df9", func := "casebook/casebooklaw42.ProductBoth", spec := "productBoth", unfollowed := true, recurses := true, apart := false, narrowed := true }
def ProductBothUptoSaid : Prop := productBothUptoRow.holds Try.pinned (OpenSpec.upto productBothSpec)

/-- 'casebooklaw42.ProductPossible', WHERE WHAT IT READS IS OF BULK AT MOST 1048576: true; the input reads as it did. -/
def productPossibleUptoRow : OpenClaim := { program := "ytamhbmaimiifmaa", sum := "56fbe3d58445d803c01a23e1f9edcd5e2e5a4e408f748221d258a8a0e42b9df9", func := "casebook/casebooklaw42.ProductPossible", spec := "productPossible", unfollowed := true, recurses := true, apart := false, narrowed := true }
def ProductPossibleUptoSaid : Prop := productPossibleUptoRow.holds Try.pinned (OpenSpec.upto productPossibleSpec)

end Rows
end Go.Proofs.Ytamhbmaimiifmaa
