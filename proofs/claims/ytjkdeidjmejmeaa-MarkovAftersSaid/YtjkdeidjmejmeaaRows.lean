/-
  No cell of these rows narrows 'for every input' (looked for: loops, veiled, ifaces, maps, wideKeys, modest, calm, conditions, laid).
  DERIVED. THE GIVEN ROWS OF THIS SEAT. 2 by the template 'for every input the law returns true; each argument reads behind the call as it read before'; 0 by the template 'total and deterministic' (their statements: YtjkdeidjmejmeaaTotals.lean).
  GIVEN WITH THE SEED: the statements are not yours to turn. If you find one false, say at which input.
  Laid BY PROGRAM, IN A SANDBOX (cutbox-rows.mjs): the forced cells as the released guide's own fill.sh prints them over the translation 82f683af80f89310… (all of the seat's roots in one cut). By AI agents, Wed Nov 11 2026. No macro, syntax, notation, axiom, sorry.
-/
import Derived.Test.YtjkdeidjmejmeaaChecked
import GoSem.Claim
import GoSem.ClaimJoined
import GoSem.ClaimMapViews
import Derived.JoinedTies
import Derived.KernelRfl
namespace Go.Proofs.Ytjkdeidjmejmeaa
/- THE CELL 'sum', in the pinned program and in every row, IS THE sha256 OF THE DUMP (.gsa) THAT YtjkdeidjmejmeaaProg.lean LOADS. Nothing in Lean hashes anything: it is a label: what it is worth is what the hold of that sum in a sandbox is worth. -/
noncomputable def Try.pinned : Pinned := { name := "ytjkdeidjmejmeaa", sum := "82f683af80f893100e35b8e99fb9b8227110412328319ca78756462a2b98698a", checked := Try.checked }
namespace Rows
def none {H : Type} : Left H := { results := [], args := [] }

/-- 'casebooklaw51.MarkovForms': WHATEVER THE INPUT: true; the input reads as it did. -/
def markovFormsSpec : ChangeSpec := { name := "markovForms", fn := fun _ => fun
  | [d] => { results := [.lit (.bool true)], args := [d] }
  | _ => none }
def markovFormsRow : OpenClaim := { program := "ytjkdeidjmejmeaa", sum := "82f683af80f893100e35b8e99fb9b8227110412328319ca78756462a2b98698a", func := "casebook/casebooklaw51.MarkovForms", spec := "markovForms", unfollowed := true, recurses := true, apart := false }
def MarkovFormsSaid : Prop := markovFormsRow.holds Try.pinned (OpenSpec.ofChange markovFormsSpec)

/-- ITS FALSE NEIGHBOUR: 'it returns false'. Refute it at one input. -/
def markovFormsWrong : ChangeSpec := { name := "markovForms", fn := fun _ => fun
  | [d] => { results := [.lit (.bool false)], args := [d] }
  | _ => none }
def MarkovFormsWrongFalsely : Prop := markovFormsRow.holds Try.pinned (OpenSpec.ofChange markovFormsWrong)

/-- 'casebooklaw51.MarkovAfters': WHATEVER THE INPUT: true; the input reads as it did. -/
def markovAftersSpec : ChangeSpec := { name := "markovAfters", fn := fun _ => fun
  | [d1, d2, d3] => { results := [.lit (.bool true)], args := [d1, d2, d3] }
  | _ => none }
def markovAftersRow : OpenClaim := { program := "ytjkdeidjmejmeaa", sum := "82f683af80f893100e35b8e99fb9b8227110412328319ca78756462a2b98698a", func := "casebook/casebooklaw51.MarkovAfters", spec := "markovAfters", unfollowed := true, recurses := true, apart := false }
def MarkovAftersSaid : Prop := markovAftersRow.holds Try.pinned (OpenSpec.ofChange markovAftersSpec)

/-- ITS FALSE NEIGHBOUR: 'it returns false'. Refute it at one input. -/
def markovAftersWrong : ChangeSpec := { name := "markovAfters", fn := fun _ => fun
  | [d1, d2, d3] => { results := [.lit (.bool false)], args := [d1, d2, d3] }
  | _ => none }
def MarkovAftersWrongFalsely : Prop := markovAftersRow.holds Try.pinned (OpenSpec.ofChange markovAftersWrong)

/- THE SECOND FORM. 'bulk': how many values and letters a reading holds, each counted each time it is reached (what is shared counts as often as it is met; a slice's spare places count too). A statement '..UptoSaid' is the law's where the arguments, and the package variables that the reading takes, are together of bulk at most 1048576: NARROWER than '..Said'. Prove '..Said' where nothing that the law and all that it calls make is longer than what came in: it says more and counts as full. Else prove '..UptoSaid'. A law counts once. -/
mutual
def uptoBulk {H : Type} : DataW H → Nat
  | .lit (.string bytes) => bytes.length + 1
  | .lit _ => 1
  | .nil => 1
  | .ptr d => uptoBulk d + 1
  | .slice elems spare => uptoBulkAll elems + uptoBulkAll spare + 1
  | .agg parts => uptoBulkAll parts + 1
  | .iface _ d => uptoBulk d + 1
  | .map entries => uptoBulkEntries entries + 1
  | .held _ => 1
def uptoBulkAll {H : Type} : List (DataW H) → Nat
  | [] => 0
  | d :: r => uptoBulk d + uptoBulkAll r
def uptoBulkEntries {H : Type} : List (Lit × DataW H) → Nat
  | [] => 0
  | x :: r => uptoBulkEntry x + uptoBulkEntries r
def uptoBulkEntry {H : Type} : Lit × DataW H → Nat
  | (.string bytes, d) => bytes.length + uptoBulk d + 1
  | (_, d) => uptoBulk d + 1
 end
def uptoSmall : (H : Type) → List (DataW H) → Bool := fun _ ds => decide (uptoBulkAll ds ≤ 1048576)
def OpenSpec.upto (s : _root_.Go.ChangeSpec) : _root_.Go.OpenSpec := { _root_.Go.OpenSpec.ofChange s with cond := some uptoSmall }

/-- 'casebooklaw51.MarkovForms', WHERE WHAT IT READS IS OF BULK AT MOST 1048576: true; the input reads as it did. -/
def markovFormsUptoRow : OpenClaim := { program := "ytjkdeidjmejmeaa", sum := "82f683af80f893100e35b8e99fb9b8227110412328319ca78756462a2b98698a", func := "casebook/casebooklaw51.MarkovForms", spec := "markovForms", unfollowed := true, recurses := true, apart := false, narrowed := true }
def MarkovFormsUptoSaid : Prop := markovFormsUptoRow.holds Try.pinned (OpenSpec.upto markovFormsSpec)

/-- 'casebooklaw51.MarkovAfters', WHERE WHAT IT READS IS OF BULK AT MOST 1048576: true; the input reads as it did. -/
def markovAftersUptoRow : OpenClaim := { program := "ytjkdeidjmejmeaa", sum := "82f683af80f893100e35b8e99fb9b8227110412328319ca78756462a2b98698a", func := "casebook/casebooklaw51.MarkovAfters", spec := "markovAfters", unfollowed := true, recurses := true, apart := false, narrowed := true }
def MarkovAftersUptoSaid : Prop := markovAftersUptoRow.holds Try.pinned (OpenSpec.upto markovAftersSpec)

end Rows
end Go.Proofs.Ytjkdeidjmejmeaa
