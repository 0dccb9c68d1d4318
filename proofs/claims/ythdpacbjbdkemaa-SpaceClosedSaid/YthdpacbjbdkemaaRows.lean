/-
  No cell of these rows narrows 'for every input' (looked for: loops, veiled, ifaces, maps, wideKeys, modest, calm, conditions, laid).
  DERIVED. THE GIVEN ROWS OF THIS SEAT. 4 by the template 'for every input the law returns true; each argument reads behind the call as it read before'; 0 by the template 'total and deterministic' (their statements: YthdpacbjbdkemaaTotals.lean).
  GIVEN WITH THE SEED: the statements are not yours to turn. If you find one false, say at which input.
  Laid BY PROGRAM, IN A SANDBOX (cutbox-rows.mjs): the forced cells as the released guide's own fill.sh prints them over the translation 3e8ec039d85daabc… (all of the seat's roots in one cut). By AI agents, Wed Nov 11 2026. No macro, syntax, notation, axiom, sorry.
-/
import Derived.Test.YthdpacbjbdkemaaChecked
import GoSem.Claim
import GoSem.ClaimJoined
import GoSem.ClaimMapViews
import Derived.JoinedTies
import Derived.KernelRfl
namespace Go.Proofs.Ythdpacbjbdkemaa
/- THE CELL 'sum', in the pinned program and in every row, IS THE sha256 OF THE DUMP (.gsa) THAT YthdpacbjbdkemaaProg.lean LOADS. Nothing in Lean hashes anything: it is a label: what it is worth is what the hold of that sum in a sandbox is worth. -/
noncomputable def Try.pinned : Pinned := { name := "ythdpacbjbdkemaa", sum := "3e8ec039d85daabc025fdcaec81838a85892fe761102911e5b044702a4b8af16", checked := Try.checked }
namespace Rows
def none {H : Type} : Left H := { results := [], args := [] }

/-- 'casebooklaw22.SpaceExplores': WHATEVER THE INPUT: true; the input reads as it did. -/
def spaceExploresSpec : ChangeSpec := { name := "spaceExplores", fn := fun _ => fun
  | [d1, d2, d3, d4] => { results := [.lit (.bool true)], args := [d1, d2, d3, d4] }
  | _ => none }
def spaceExploresRow : OpenClaim := { program := "ythdpacbjbdkemaa", sum := "3e8ec039d85daabc025fdcaec81838a85892fe761102911e5b044702a4b8af16", func := "casebook/casebooklaw22.SpaceExplores", spec := "spaceExplores", unfollowed := true, recurses := true, apart := false }
def SpaceExploresSaid : Prop := spaceExploresRow.holds Try.pinned (OpenSpec.ofChange spaceExploresSpec)

/-- ITS FALSE NEIGHBOUR: 'it returns false'. Refute it at one input. -/
def spaceExploresWrong : ChangeSpec := { name := "spaceExplores", fn := fun _ => fun
  | [d1, d2, d3, d4] => { results := [.lit (.bool false)], args := [d1, d2, d3, d4] }
  | _ => none }
def SpaceExploresWrongFalsely : Prop := spaceExploresRow.holds Try.pinned (OpenSpec.ofChange spaceExploresWrong)

/-- 'casebooklaw22.SpaceDeadlocks': WHATEVER THE INPUT: true; the input reads as it did. -/
def spaceDeadlocksSpec : ChangeSpec := { name := "spaceDeadlocks", fn := fun _ => fun
  | [d1, d2] => { results := [.lit (.bool true)], args := [d1, d2] }
  | _ => none }
def spaceDeadlocksRow : OpenClaim := { program := "ythdpacbjbdkemaa", sum := "3e8ec039d85daabc025fdcaec81838a85892fe761102911e5b044702a4b8af16", func := "casebook/casebooklaw22.SpaceDeadlocks", spec := "spaceDeadlocks", unfollowed := true, recurses := true, apart := false }
def SpaceDeadlocksSaid : Prop := spaceDeadlocksRow.holds Try.pinned (OpenSpec.ofChange spaceDeadlocksSpec)

/-- ITS FALSE NEIGHBOUR: 'it returns false'. Refute it at one input. -/
def spaceDeadlocksWrong : ChangeSpec := { name := "spaceDeadlocks", fn := fun _ => fun
  | [d1, d2] => { results := [.lit (.bool false)], args := [d1, d2] }
  | _ => none }
def SpaceDeadlocksWrongFalsely : Prop := spaceDeadlocksRow.holds Try.pinned (OpenSpec.ofChange spaceDeadlocksWrong)

/-- 'casebooklaw22.SpacePaths': WHATEVER THE INPUT: true; the input reads as it did. -/
def spacePathsSpec : ChangeSpec := { name := "spacePaths", fn := fun _ => fun
  | [d1, d2, d3] => { results := [.lit (.bool true)], args := [d1, d2, d3] }
  | _ => none }
def spacePathsRow : OpenClaim := { program := "ythdpacbjbdkemaa", sum := "3e8ec039d85daabc025fdcaec81838a85892fe761102911e5b044702a4b8af16", func := "casebook/casebooklaw22.SpacePaths", spec := "spacePaths", unfollowed := true, recurses := true, apart := false }
def SpacePathsSaid : Prop := spacePathsRow.holds Try.pinned (OpenSpec.ofChange spacePathsSpec)

/-- ITS FALSE NEIGHBOUR: 'it returns false'. Refute it at one input. -/
def spacePathsWrong : ChangeSpec := { name := "spacePaths", fn := fun _ => fun
  | [d1, d2, d3] => { results := [.lit (.bool false)], args := [d1, d2, d3] }
  | _ => none }
def SpacePathsWrongFalsely : Prop := spacePathsRow.holds Try.pinned (OpenSpec.ofChange spacePathsWrong)

/-- 'casebooklaw22.SpaceClosed': WHATEVER THE INPUT: true; the input reads as it did. -/
def spaceClosedSpec : ChangeSpec := { name := "spaceClosed", fn := fun _ => fun
  | [d1, d2, d3] => { results := [.lit (.bool true)], args := [d1, d2, d3] }
  | _ => none }
def spaceClosedRow : OpenClaim := { program := "ythdpacbjbdkemaa", sum := "3e8ec039d85daabc025fdcaec81838a85892fe761102911e5b044702a4b8af16", func := "casebook/casebooklaw22.SpaceClosed", spec := "spaceClosed", unfollowed := true, recurses := true, apart := false }
def SpaceClosedSaid : Prop := spaceClosedRow.holds Try.pinned (OpenSpec.ofChange spaceClosedSpec)

/-- ITS FALSE NEIGHBOUR: 'it returns false'. Refute it at one input. -/
def spaceClosedWrong : ChangeSpec := { name := "spaceClosed", fn := fun _ => fun
  | [d1, d2, d3] => { results := [.lit (.bool false)], args := [d1, d2, d3] }
  | _ => none }
def SpaceClosedWrongFalsely : Prop := spaceClosedRow.holds Try.pinned (OpenSpec.ofChange spaceClosedWrong)

/- THE SECOND FORM. 'bulk': how many values and letters a reading holds, each counted each time it is reached (what is shared counts as often as it is met; a slice's spare places count too). A statement '..UptoSaid' is the law's where the arguments, and the package variables that the reading takes, are together of bulk at most 1048576: NARROWER than '..Said'. Prove '..Said' where nothing that the law and all that it calls make is longer than what came in: it says more and counts as full. Else prove '..UptoSaid'. A law counts once. -/
mutual
def uptoBulk {H : Type} : DataW H → Nat
  | .lit (.string bytes) => bytes.length + 1
  | .lit _ => 1
  | .nil => 1
  | .ptr d => uptoBulk d + 1
  | .slice elems spare => uptoBulkAll elems + uptoBulkAll spare + 1
  | .agg parts => uptoBulkAll parts + 1
  | .iface _ d => uptoBulk d + 1
  | .map entries => uptoBulkEntries entries + 1
  | .held _ => 1
def uptoBulkAll {H : Type} : List (DataW H) → Nat
  | [] => 0
  | d :: r => uptoBulk d + uptoBulkAll r
def uptoBulkEntries {H : Type} : List (Lit × DataW H) → Nat
  | [] => 0
  | x :: r => uptoBulkEntry x + uptoBulkEntries r
def uptoBulkEntry {H : Type} : Lit × DataW H → Nat
  | (.string bytes, d) => bytes.length + uptoBulk d + 1
  | (_, d) => uptoBulk d + 1
 end
def uptoSmall : (H : Type) → List (DataW H) → Bool := fun _ ds => decide (uptoBulkAll ds ≤ 1048576)
def OpenSpec.upto (s : _root_.Go.ChangeSpec) : _root_.Go.OpenSpec := { _root_.Go.OpenSpec.ofChange s with cond := some uptoSmall }

/-- 'casebooklaw22.SpaceExplores', WHERE WHAT IT READS IS OF BULK AT MOST 1048576: true; the input reads as it did. -/
def spaceExploresUptoRow : OpenClaim := { program := "ythdpacbjbdkemaa", sum := "3e8ec039d85daabc025fdcaec81838a85892fe761102911e5b044702a4b8af16", func := "casebook/casebooklaw22.SpaceExplores", spec := "spaceExplores", unfollowed := true, recurses := true, apart := false, narrowed := true }
def SpaceExploresUptoSaid : Prop := spaceExploresUptoRow.holds Try.pinned (OpenSpec.upto spaceExploresSpec)

/-- 'casebooklaw22.SpaceDeadlocks', WHERE WHAT IT READS IS OF BULK AT MOST 1048576: true; the input reads as it did. -/
def spaceDeadlocksUptoRow : OpenClaim := { program := "ythdpacbjbdkemaa", sum := "3e8ec039d85daabc025fdcaec81838a85892fe761102911e5b044702a4b8af16", func := "casebook/casebooklaw22.SpaceDeadlocks", spec := "spaceDeadlocks", unfollowed := true, recurses := true, apart := false, narrowed := true }
def SpaceDeadlocksUptoSaid : Prop := spaceDeadlocksUptoRow.holds Try.pinned (OpenSpec.upto spaceDeadlocksSpec)

/-- 'casebooklaw22.SpacePaths', WHERE WHAT IT READS IS OF BULK AT MOST 1048576: true; the input reads as it did. -/
def spacePathsUptoRow : OpenClaim := { program := "ythdpacbjbdkemaa", sum := "3e8ec039d85daabc025fdcaec81838a85892fe761102911e5b044702a4b8af16", func := "casebook/casebooklaw22.SpacePaths", spec := "spacePaths", unfollowed := true, recurses := true, apart := false, narrowed := true }
def SpacePathsUptoSaid : Prop := spacePathsUptoRow.holds Try.pinned (OpenSpec.upto spacePathsSpec)

/-- 'casebooklaw22.SpaceClosed', WHERE WHAT IT READS IS OF BULK AT MOST 1048576: true; the input reads as it did. -/
def spaceClosedUptoRow : OpenClaim := { program := "ythdpacbjbdkemaa", sum := "3e8ec039d85daabc025fdcaec81838a85892fe761102911e5b044702a4b8af16", func := "casebook/casebooklaw22.SpaceClosed", spec := "spaceClosed", unfollowed := true, recurses := true, apart := false, narrowed := true }
def SpaceClosedUptoSaid : Prop := spaceClosedUptoRow.holds Try.pinned (OpenSpec.upto spaceClosedSpec)

end Rows
end Go.Proofs.Ythdpacbjbdkemaa
