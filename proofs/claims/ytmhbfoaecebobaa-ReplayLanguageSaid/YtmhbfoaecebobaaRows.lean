/-
  No cell of these rows narrows 'for every input' (looked for: loops, veiled, ifaces, maps, wideKeys, modest, calm, conditions, laid).
  DERIVED. THE GIVEN ROWS OF THIS SEAT. 5 by the template 'for every input the law returns true; each argument reads behind the call as it read before'; 0 by the template 'total and deterministic' (their statements: YtmhbfoaecebobaaTotals.lean).
  GIVEN WITH THE SEED: the statements are not yours to turn. If you find one false, say at which input.
  Laid BY PROGRAM, IN A SANDBOX (cutbox-rows.mjs): the forced cells as the released guide's own fill.sh prints them over the translation a03324ad24eab922… (all of the seat's roots in one cut). By AI agents, Wed Nov 11 2026. No macro, syntax, notation, axiom, sorry.
-/
import Derived.Test.YtmhbfoaecebobaaChecked
import GoSem.Claim
import GoSem.ClaimJoined
import GoSem.ClaimMapViews
import Derived.JoinedTies
import Derived.KernelRfl
namespace Go.Proofs.Ytmhbfoaecebobaa
/- THE CELL 'sum', in the pinned program and in every row, IS THE sha256 OF THE DUMP (.gsa) THAT YtmhbfoaecebobaaProg.lean LOADS. Nothing in Lean hashes anything: it is a label: what it is worth is what the hold of that sum in a sandbox is worth. -/
noncomputable def Try.pinned : Pinned := { name := "ytmhbfoaecebobaa", sum := "a03324ad24eab9223a6d2478bf77745a430a93f3b77aa2014bfaba6bc59717e6", checked := Try.checked }
namespace Rows
def none {H : Type} : Left H := { results := [], args := [] }

/-- 'casebooklaw41.ReplayPlays': WHATEVER THE INPUT: true; the input reads as it did. -/
def replayPlaysSpec : ChangeSpec := { name := "replayPlays", fn := fun _ => fun
  | [d1, d2] => { results := [.lit (.bool true)], args := [d1, d2] }
  | _ => none }
def replayPlaysRow : OpenClaim := { program := "ytmhbfoaecebobaa", sum := "a03324ad24eab9223a6d2478bf77745a430a93f3b77aa2014bfaba6bc59717e6", func := "casebook/casebooklaw41.ReplayPlays", spec := "replayPlays", inPlace := ["internal/abi.NoEscape"], unfollowed := true, recurses := true, apart := false }
def ReplayPlaysSaid : Prop := replayPlaysRow.holds Try.pinned (OpenSpec.ofChange replayPlaysSpec)

/-- ITS FALSE NEIGHBOUR: 'it returns false'. Refute it at one input. -/
def replayPlaysWrong : ChangeSpec := { name := "replayPlays", fn := fun _ => fun
  | [d1, d2] => { results := [.lit (.bool false)], args := [d1, d2] }
  | _ => none }
def ReplayPlaysWrongFalsely : Prop := replayPlaysRow.holds Try.pinned (OpenSpec.ofChange replayPlaysWrong)

/-- 'casebooklaw41.ReplayFitness': WHATEVER THE INPUT: true; the input reads as it did. -/
def replayFitnessSpec : ChangeSpec := { name := "replayFitness", fn := fun _ => fun
  | [d] => { results := [.lit (.bool true)], args := [d] }
  | _ => none }
def replayFitnessRow : OpenClaim := { program := "ytmhbfoaecebobaa", sum := "a03324ad24eab9223a6d2478bf77745a430a93f3b77aa2014bfaba6bc59717e6", func := "casebook/casebooklaw41.ReplayFitness", spec := "replayFitness", inPlace := ["internal/abi.NoEscape"], unfollowed := true, recurses := true, apart := false }
def ReplayFitnessSaid : Prop := replayFitnessRow.holds Try.pinned (OpenSpec.ofChange replayFitnessSpec)

/-- ITS FALSE NEIGHBOUR: 'it returns false'. Refute it at one input. -/
def replayFitnessWrong : ChangeSpec := { name := "replayFitness", fn := fun _ => fun
  | [d] => { results := [.lit (.bool false)], args := [d] }
  | _ => none }
def ReplayFitnessWrongFalsely : Prop := replayFitnessRow.holds Try.pinned (OpenSpec.ofChange replayFitnessWrong)

/-- 'casebooklaw41.ReplayBalance': WHATEVER THE INPUT: true; the input reads as it did. -/
def replayBalanceSpec : ChangeSpec := { name := "replayBalance", fn := fun _ => fun
  | [d1, d2] => { results := [.lit (.bool true)], args := [d1, d2] }
  | _ => none }
def replayBalanceRow : OpenClaim := { program := "ytmhbfoaecebobaa", sum := "a03324ad24eab9223a6d2478bf77745a430a93f3b77aa2014bfaba6bc59717e6", func := "casebook/casebooklaw41.ReplayBalance", spec := "replayBalance", inPlace := ["internal/abi.NoEscape"], unfollowed := true, recurses := true, apart := false }
def ReplayBalanceSaid : Prop := replayBalanceRow.holds Try.pinned (OpenSpec.ofChange replayBalanceSpec)

/-- ITS FALSE NEIGHBOUR: 'it returns false'. Refute it at one input. -/
def replayBalanceWrong : ChangeSpec := { name := "replayBalance", fn := fun _ => fun
  | [d1, d2] => { results := [.lit (.bool false)], args := [d1, d2] }
  | _ => none }
def ReplayBalanceWrongFalsely : Prop := replayBalanceRow.holds Try.pinned (OpenSpec.ofChange replayBalanceWrong)

/-- 'casebooklaw41.ReplayFits': WHATEVER THE INPUT: true; the input reads as it did. -/
def replayFitsSpec : ChangeSpec := { name := "replayFits", fn := fun _ => fun
  | [d1, d2, d3] => { results := [.lit (.bool true)], args := [d1, d2, d3] }
  | _ => none }
def replayFitsRow : OpenClaim := { program := "ytmhbfoaecebobaa", sum := "a03324ad24eab9223a6d2478bf77745a430a93f3b77aa2014bfaba6bc59717e6", func := "casebook/casebooklaw41.ReplayFits", spec := "replayFits", inPlace := ["internal/abi.NoEscape"], unfollowed := true, recurses := true, apart := false }
def ReplayFitsSaid : Prop := replayFitsRow.holds Try.pinned (OpenSpec.ofChange replayFitsSpec)

/-- ITS FALSE NEIGHBOUR: 'it returns false'. Refute it at one input. -/
def replayFitsWrong : ChangeSpec := { name := "replayFits", fn := fun _ => fun
  | [d1, d2, d3] => { results := [.lit (.bool false)], args := [d1, d2, d3] }
  | _ => none }
def ReplayFitsWrongFalsely : Prop := replayFitsRow.holds Try.pinned (OpenSpec.ofChange replayFitsWrong)

/-- 'casebooklaw41.ReplayLanguage': WHATEVER THE INPUT: true; the input reads as it did. -/
def replayLanguageSpec : ChangeSpec := { name := "replayLanguage", fn := fun _ => fun
  | [d1, d2] => { results := [.lit (.bool true)], args := [d1, d2] }
  | _ => none }
def replayLanguageRow : OpenClaim := { program := "ytmhbfoaecebobaa", sum := "a03324ad24eab9223a6d2478bf77745a430a93f3b77aa2014bfaba6bc59717e6", func := "casebook/casebooklaw41.ReplayLanguage", spec := "replayLanguage", inPlace := ["internal/abi.NoEscape"], unfollowed := true, recurses := true, apart := false }
def ReplayLanguageSaid : Prop := replayLanguageRow.holds Try.pinned (OpenSpec.ofChange replayLanguageSpec)

/-- ITS FALSE NEIGHBOUR: 'it returns false'. Refute it at one input. -/
def replayLanguageWrong : ChangeSpec := { name := "replayLanguage", fn := fun _ => fun
  | [d1, d2] => { results := [.lit (.bool false)], args := [d1, d2] }
  | _ => none }
def ReplayLanguageWrongFalsely : Prop := replayLanguageRow.holds Try.pinned (OpenSpec.ofChange replayLanguageWrong)

/- THE SECOND FORM. 'bulk': how many values and letters a reading holds, each counted each time it is reached (what is shared counts as often as it is met; a slice's spare places count too). A statement '..UptoSaid' is the law's where the arguments, and the package variables that the reading takes, are together of bulk at most 1048576: NARROWER than '..Said'. Prove '..Said' where nothing that the law and all that it calls make is longer than what came in: it says more and counts as full. Else prove '..UptoSaid'. A law counts once. -/
mutual
def uptoBulk {H : Type} : DataW H → Nat
  | .lit (.string bytes) => bytes.length + 1
  | .lit _ => 1
  | .nil => 1
  | .ptr d => uptoBulk d + 1
  | .slice elems spare => uptoBulkAll elems + uptoBulkAll spare + 1
  | .agg parts => uptoBulkAll parts + 1
  | .iface _ d => uptoBulk d + 1
  | .map entries => uptoBulkEntries entries + 1
  | .held _ => 1
def uptoBulkAll {H : Type} : List (DataW H) → Nat
  | [] => 0
  | d :: r => uptoBulk d + uptoBulkAll r
def uptoBulkEntries {H : Type} : List (Lit × DataW H) → Nat
  | [] => 0
  | x :: r => uptoBulkEntry x + uptoBulkEntries r
def uptoBulkEntry {H : Type} : Lit × DataW H → Nat
  | (.string bytes, d) => bytes.length + uptoBulk d + 1
  | (_, d) => uptoBulk d + 1
 end
def uptoSmall : (H : Type) → List (DataW H) → Bool := fun _ ds => decide (uptoBulkAll ds ≤ 1048576)
def OpenSpec.upto (s : _root_.Go.ChangeSpec) : _root_.Go.OpenSpec := { _root_.Go.OpenSpec.ofChange s with cond := some uptoSmall }

/-- 'casebooklaw41.ReplayPlays', WHERE WHAT IT READS IS OF BULK AT MOST 1048576: true; the input reads as it did. -/
def replayPlaysUptoRow : OpenClaim := { program := "ytmhbfoaecebobaa", sum := "a03324ad24eab9223a6d2478bf77745a430a93f3b77aa2014bfaba6bc59717e6", func := "casebook/casebooklaw41.ReplayPlays", spec := "replayPlays", inPlace := ["internal/abi.NoEscape"], unfollowed := true, recurses := true, apart := false, narrowed := true }
def ReplayPlaysUptoSaid : Prop := replayPlaysUptoRow.holds Try.pinned (OpenSpec.upto replayPlaysSpec)

/-- 'casebooklaw41.ReplayFitness', WHERE WHAT IT READS IS OF BULK AT MOST 1048576: true; the input reads as it did. -/
def replayFitnessUptoRow : OpenClaim := { program := "ytmhbfoaecebobaa", sum := "a03324ad24eab9223a6d2478bf77745a430a93f3b77aa2014bfaba6bc59717e6", func := "casebook/casebooklaw41.ReplayFitness", spec := "replayFitness", inPlace := ["internal/abi.NoEscape"], unfollowed := true, recurses := true, apart := false, narrowed := true }
def ReplayFitnessUptoSaid : Prop := replayFitnessUptoRow.holds Try.pinned (OpenSpec.upto replayFitnessSpec)

/-- 'casebooklaw41.ReplayBalance', WHERE WHAT IT READS IS OF BULK AT MOST 1048576: true; the input reads as it did. -/
def replayBalanceUptoRow : OpenClaim := { program := "ytmhbfoaecebobaa", sum := "a03324ad24eab9223a6d2478bf77745a430a93f3b77aa2014bfaba6bc59717e6", func := "casebook/casebooklaw41.ReplayBalance", spec := "replayBalance", inPlace := ["internal/abi.NoEscape"], unfollowed := true, recurses := true, apart := false, narrowed := true }
def ReplayBalanceUptoSaid : Prop := replayBalanceUptoRow.holds Try.pinned (OpenSpec.upto replayBalanceSpec)

/-- 'casebooklaw41.ReplayFits', WHERE WHAT IT READS IS OF BULK AT MOST 1048576: true; the input reads as it did. -/
def replayFitsUptoRow : OpenClaim := { program := "ytmhbfoaecebobaa", sum := "a03324ad24eab9223a6d2478bf77745a430a93f3b77aa2014bfaba6bc59717e6", func := "casebook/casebooklaw41.ReplayFits", spec := "replayFits", inPlace := ["internal/abi.NoEscape"], unfollowed := true, recurses := true, apart := false, narrowed := true }
def ReplayFitsUptoSaid : Prop := replayFitsUptoRow.holds Try.pinned (OpenSpec.upto replayFitsSpec)

/-- 'casebooklaw41.ReplayLanguage', WHERE WHAT IT READS IS OF BULK AT MOST 1048576: true; the input reads as it did. -/
def replayLanguageUptoRow : OpenClaim := { program := "ytmhbfoaecebobaa", sum := "a03324ad24eab9223a6d2478bf77745a430a93f3b77aa2014bfaba6bc59717e6", func := "casebook/casebooklaw41.ReplayLanguage", spec := "replayLanguage", inPlace := ["internal/abi.NoEscape"], unfollowed := true, recurses := true, apart := false, narrowed := true }
def ReplayLanguageUptoSaid : Prop := replayLanguageUptoRow.holds Try.pinned (OpenSpec.upto replayLanguageSpec)

end Rows
end Go.Proofs.Ytmhbfoaecebobaa
