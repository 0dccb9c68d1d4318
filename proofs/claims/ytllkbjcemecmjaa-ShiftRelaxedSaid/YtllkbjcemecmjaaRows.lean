/-
  No cell of these rows narrows 'for every input' (looked for: loops, veiled, ifaces, maps, wideKeys, modest, calm, conditions, laid).
  DERIVED. THE GIVEN ROWS OF THIS SEAT. 2 by the template 'for every input the law returns true; each argument reads behind the call as it read before'; 0 by the template 'total and deterministic' (their statements: YtllkbjcemecmjaaTotals.lean).
  GIVEN WITH THE SEED: the statements are not yours to turn. If you find one false, say at which input.
  Laid BY PROGRAM, IN A SANDBOX (cutbox-rows.mjs): the forced cells as the released guide's own fill.sh prints them over the translation c75e1726002b27ea… (all of the seat's roots in one cut). By AI agents, Wed Nov 11 2026. No macro, syntax, notation, axiom, sorry.
-/
import Derived.Test.YtllkbjcemecmjaaChecked
import GoSem.Claim
import GoSem.ClaimJoined
import GoSem.ClaimMapViews
import Derived.JoinedTies
import Derived.KernelRfl
namespace Go.Proofs.Ytllkbjcemecmjaa
/- THE CELL 'sum', in the pinned program and in every row, IS THE sha256 OF THE DUMP (.gsa) THAT YtllkbjcemecmjaaProg.lean LOADS. Nothing in Lean hashes anything: it is a label: what it is worth is what the hold of that sum in a sandbox is worth. -/
noncomputable def Try.pinned : Pinned := { name := "ytllkbjcemecmjaa", sum := "c75e1726002b27ea9bd036dea0f6a765e5322295f3e3a7d7622e0b8b3d93dfb5", checked := Try.checked }
namespace Rows
def none {H : Type} : Left H := { results := [], args := [] }

/-- 'casebooklaw54.ShiftMore': WHATEVER THE INPUT: true; the input reads as it did. -/
def shiftMoreSpec : ChangeSpec := { name := "shiftMore", fn := fun _ => fun
  | [d1, d2, d3] => { results := [.lit (.bool true)], args := [d1, d2, d3] }
  | _ => none }
def shiftMoreRow : OpenClaim := { program := "ytllkbjcemecmjaa", sum := "c75e1726002b27ea9bd036dea0f6a765e5322295f3e3a7d7622e0b8b3d93dfb5", func := "casebook/casebooklaw54.ShiftMore", spec := "shiftMore", unfollowed := true, recurses := true, apart := false }
def ShiftMoreSaid : Prop := shiftMoreRow.holds Try.pinned (OpenSpec.ofChange shiftMoreSpec)

/-- ITS FALSE NEIGHBOUR: 'it returns false'. Refute it at one input. -/
def shiftMoreWrong : ChangeSpec := { name := "shiftMore", fn := fun _ => fun
  | [d1, d2, d3] => { results := [.lit (.bool false)], args := [d1, d2, d3] }
  | _ => none }
def ShiftMoreWrongFalsely : Prop := shiftMoreRow.holds Try.pinned (OpenSpec.ofChange shiftMoreWrong)

/-- 'casebooklaw54.ShiftRelaxed': WHATEVER THE INPUT: true; the input reads as it did. -/
def shiftRelaxedSpec : ChangeSpec := { name := "shiftRelaxed", fn := fun _ => fun
  | [d1, d2] => { results := [.lit (.bool true)], args := [d1, d2] }
  | _ => none }
def shiftRelaxedRow : OpenClaim := { program := "ytllkbjcemecmjaa", sum := "c75e1726002b27ea9bd036dea0f6a765e5322295f3e3a7d7622e0b8b3d93dfb5", func := "casebook/casebooklaw54.ShiftRelaxed", spec := "shiftRelaxed", unfollowed := true, recurses := true, apart := false }
def ShiftRelaxedSaid : Prop := shiftRelaxedRow.holds Try.pinned (OpenSpec.ofChange shiftRelaxedSpec)

/-- ITS FALSE NEIGHBOUR: 'it returns false'. Refute it at one input. -/
def shiftRelaxedWrong : ChangeSpec := { name := "shiftRelaxed", fn := fun _ => fun
  | [d1, d2] => { results := [.lit (.bool false)], args := [d1, d2] }
  | _ => none }
def ShiftRelaxedWrongFalsely : Prop := shiftRelaxedRow.holds Try.pinned (OpenSpec.ofChange shiftRelaxedWrong)

/- THE SECOND FORM. 'bulk': how many values and letters a reading holds, each counted each time it is reached (what is shared counts as often as it is met; a slice's spare places count too). A statement '..UptoSaid' is the law's where the arguments, and the package variables that the reading takes, are together of bulk at most 1048576: NARROWER than '..Said'. Prove '..Said' where nothing that the law and all that it calls make is longer than what came in: it says more and counts as full. Else prove '..UptoSaid'. A law counts once. -/
mutual
def uptoBulk {H : Type} : DataW H → Nat
  | .lit (.string bytes) => bytes.length + 1
  | .lit _ => 1
  | .nil => 1
  | .ptr d => uptoBulk d + 1
  | .slice elems spare => uptoBulkAll elems + uptoBulkAll spare + 1
  | .agg parts => uptoBulkAll parts + 1
  | .iface _ d => uptoBulk d + 1
  | .map entries => uptoBulkEntries entries + 1
  | .held _ => 1
def uptoBulkAll {H : Type} : List (DataW H) → Nat
  | [] => 0
  | d :: r => uptoBulk d + uptoBulkAll r
def uptoBulkEntries {H : Type} : List (Lit × DataW H) → Nat
  | [] => 0
  | x :: r => uptoBulkEntry x + uptoBulkEntries r
def uptoBulkEntry {H : Type} : Lit × DataW H → Nat
  | (.string bytes, d) => bytes.length + uptoBulk d + 1
  | (_, d) => uptoBulk d + 1
 end
def uptoSmall : (H : Type) → List (DataW H) → Bool := fun _ ds => decide (uptoBulkAll ds ≤ 1048576)
def OpenSpec.upto (s : _root_.Go.ChangeSpec) : _root_.Go.OpenSpec := { _root_.Go.OpenSpec.ofChange s with cond := some uptoSmall }

/-- 'casebooklaw54.ShiftMore', WHERE WHAT IT READS IS OF BULK AT MOST 1048576: true; the input reads as it did. -/
def shiftMoreUptoRow : OpenClaim := { program := "ytllkbjcemecmjaa", sum := "c75e1726002b27ea9bd036dea0f6a765e5322295f3e3a7d7622e0b8b3d93dfb5", func := "casebook/casebooklaw54.ShiftMore", spec := "shiftMore", unfollowed := true, recurses := true, apart := false, narrowed := true }
def ShiftMoreUptoSaid : Prop := shiftMoreUptoRow.holds Try.pinned (OpenSpec.upto shiftMoreSpec)

/-- 'casebooklaw54.ShiftRelaxed', WHERE WHAT IT READS IS OF BULK AT MOST 1048576: true; the input reads as it did. -/
def shiftRelaxedUptoRow : OpenClaim := { program := "ytllkbjcemecmjaa", sum := "c75e1726002b27ea9bd036dea0f6a765e5322295f3e3a7d7622e0b8b3d93dfb5", func := "casebook/casebooklaw54.ShiftRelaxed", spec := "shiftRelaxed", unfollowed := true, recurses := true, apart := false, narrowed := true }
def ShiftRelaxedUptoSaid : Prop := shiftRelaxedUptoRow.holds Try.pinned (OpenSpec.upto shiftRelaxedSpec)

end Rows
end Go.Proofs.Ytllkbjcemecmjaa
