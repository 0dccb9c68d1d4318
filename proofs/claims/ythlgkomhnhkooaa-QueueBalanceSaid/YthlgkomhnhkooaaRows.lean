/-
  No cell of these rows narrows 'for every input' (looked for: loops, veiled, ifaces, maps, wideKeys, modest, calm, conditions, laid).
  DERIVED. THE GIVEN ROWS OF THIS SEAT. 7 by the template 'for every input the law returns true; each argument reads behind the call as it read before'; 0 by the template 'total and deterministic' (their statements: YthlgkomhnhkooaaTotals.lean).
  GIVEN WITH THE SEED: the statements are not yours to turn. If you find one false, say at which input.
  Laid BY PROGRAM, IN A SANDBOX (cutbox-rows.mjs): the forced cells as the released guide's own fill.sh prints them over the translation 362dabe18f465f53… (all of the seat's roots in one cut). By AI agents, Wed Nov 11 2026. No macro, syntax, notation, axiom, sorry.
-/
import Derived.Test.YthlgkomhnhkooaaChecked
import GoSem.Claim
import GoSem.ClaimJoined
import GoSem.ClaimMapViews
import Derived.JoinedTies
import Derived.KernelRfl
namespace Go.Proofs.Ythlgkomhnhkooaa
/- THE CELL 'sum', in the pinned program and in every row, IS THE sha256 OF THE DUMP (.gsa) THAT YthlgkomhnhkooaaProg.lean LOADS. Nothing in Lean hashes anything: it is a label: what it is worth is what the hold of that sum in a sandbox is worth. -/
noncomputable def Try.pinned : Pinned := { name := "ythlgkomhnhkooaa", sum := "362dabe18f465f5339e00e2f9404108ab6c753717729a0d9f66e00362546bb19", checked := Try.checked }
namespace Rows
def none {H : Type} : Left H := { results := [], args := [] }

/-- 'casebooklaw52.QueueStationary': WHATEVER THE INPUT: true; the input reads as it did. -/
def queueStationarySpec : ChangeSpec := { name := "queueStationary", fn := fun _ => fun
  | [d] => { results := [.lit (.bool true)], args := [d] }
  | _ => none }
def queueStationaryRow : OpenClaim := { program := "ythlgkomhnhkooaa", sum := "362dabe18f465f5339e00e2f9404108ab6c753717729a0d9f66e00362546bb19", func := "casebook/casebooklaw52.QueueStationary", spec := "queueStationary", unfollowed := true, recurses := true, apart := false }
def QueueStationarySaid : Prop := queueStationaryRow.holds Try.pinned (OpenSpec.ofChange queueStationarySpec)

/-- ITS FALSE NEIGHBOUR: 'it returns false'. Refute it at one input. -/
def queueStationaryWrong : ChangeSpec := { name := "queueStationary", fn := fun _ => fun
  | [d] => { results := [.lit (.bool false)], args := [d] }
  | _ => none }
def QueueStationaryWrongFalsely : Prop := queueStationaryRow.holds Try.pinned (OpenSpec.ofChange queueStationaryWrong)

/-- 'casebooklaw52.QueueMeans': WHATEVER THE INPUT: true; the input reads as it did. -/
def queueMeansSpec : ChangeSpec := { name := "queueMeans", fn := fun _ => fun
  | [d] => { results := [.lit (.bool true)], args := [d] }
  | _ => none }
def queueMeansRow : OpenClaim := { program := "ythlgkomhnhkooaa", sum := "362dabe18f465f5339e00e2f9404108ab6c753717729a0d9f66e00362546bb19", func := "casebook/casebooklaw52.QueueMeans", spec := "queueMeans", unfollowed := true, recurses := true, apart := false }
def QueueMeansSaid : Prop := queueMeansRow.holds Try.pinned (OpenSpec.ofChange queueMeansSpec)

/-- ITS FALSE NEIGHBOUR: 'it returns false'. Refute it at one input. -/
def queueMeansWrong : ChangeSpec := { name := "queueMeans", fn := fun _ => fun
  | [d] => { results := [.lit (.bool false)], args := [d] }
  | _ => none }
def QueueMeansWrongFalsely : Prop := queueMeansRow.holds Try.pinned (OpenSpec.ofChange queueMeansWrong)

/-- 'casebooklaw52.QueueLittle': WHATEVER THE INPUT: true; the input reads as it did. -/
def queueLittleSpec : ChangeSpec := { name := "queueLittle", fn := fun _ => fun
  | [d] => { results := [.lit (.bool true)], args := [d] }
  | _ => none }
def queueLittleRow : OpenClaim := { program := "ythlgkomhnhkooaa", sum := "362dabe18f465f5339e00e2f9404108ab6c753717729a0d9f66e00362546bb19", func := "casebook/casebooklaw52.QueueLittle", spec := "queueLittle", unfollowed := true, recurses := true, apart := false }
def QueueLittleSaid : Prop := queueLittleRow.holds Try.pinned (OpenSpec.ofChange queueLittleSpec)

/-- ITS FALSE NEIGHBOUR: 'it returns false'. Refute it at one input. -/
def queueLittleWrong : ChangeSpec := { name := "queueLittle", fn := fun _ => fun
  | [d] => { results := [.lit (.bool false)], args := [d] }
  | _ => none }
def QueueLittleWrongFalsely : Prop := queueLittleRow.holds Try.pinned (OpenSpec.ofChange queueLittleWrong)

/-- 'casebooklaw52.QueueChains': WHATEVER THE INPUT: true; the input reads as it did. -/
def queueChainsSpec : ChangeSpec := { name := "queueChains", fn := fun _ => fun
  | [d] => { results := [.lit (.bool true)], args := [d] }
  | _ => none }
def queueChainsRow : OpenClaim := { program := "ythlgkomhnhkooaa", sum := "362dabe18f465f5339e00e2f9404108ab6c753717729a0d9f66e00362546bb19", func := "casebook/casebooklaw52.QueueChains", spec := "queueChains", unfollowed := true, recurses := true, apart := false }
def QueueChainsSaid : Prop := queueChainsRow.holds Try.pinned (OpenSpec.ofChange queueChainsSpec)

/-- ITS FALSE NEIGHBOUR: 'it returns false'. Refute it at one input. -/
def queueChainsWrong : ChangeSpec := { name := "queueChains", fn := fun _ => fun
  | [d] => { results := [.lit (.bool false)], args := [d] }
  | _ => none }
def QueueChainsWrongFalsely : Prop := queueChainsRow.holds Try.pinned (OpenSpec.ofChange queueChainsWrong)

/-- 'casebooklaw52.QueueServers': WHATEVER THE INPUT: true; the input reads as it did. -/
def queueServersSpec : ChangeSpec := { name := "queueServers", fn := fun _ => fun
  | [d1, d2] => { results := [.lit (.bool true)], args := [d1, d2] }
  | _ => none }
def queueServersRow : OpenClaim := { program := "ythlgkomhnhkooaa", sum := "362dabe18f465f5339e00e2f9404108ab6c753717729a0d9f66e00362546bb19", func := "casebook/casebooklaw52.QueueServers", spec := "queueServers", unfollowed := true, recurses := true, apart := false }
def QueueServersSaid : Prop := queueServersRow.holds Try.pinned (OpenSpec.ofChange queueServersSpec)

/-- ITS FALSE NEIGHBOUR: 'it returns false'. Refute it at one input. -/
def queueServersWrong : ChangeSpec := { name := "queueServers", fn := fun _ => fun
  | [d1, d2] => { results := [.lit (.bool false)], args := [d1, d2] }
  | _ => none }
def QueueServersWrongFalsely : Prop := queueServersRow.holds Try.pinned (OpenSpec.ofChange queueServersWrong)

/-- 'casebooklaw52.QueueMore': WHATEVER THE INPUT: true; the input reads as it did. -/
def queueMoreSpec : ChangeSpec := { name := "queueMore", fn := fun _ => fun
  | [d1, d2] => { results := [.lit (.bool true)], args := [d1, d2] }
  | _ => none }
def queueMoreRow : OpenClaim := { program := "ythlgkomhnhkooaa", sum := "362dabe18f465f5339e00e2f9404108ab6c753717729a0d9f66e00362546bb19", func := "casebook/casebooklaw52.QueueMore", spec := "queueMore", unfollowed := true, recurses := true, apart := false }
def QueueMoreSaid : Prop := queueMoreRow.holds Try.pinned (OpenSpec.ofChange queueMoreSpec)

/-- ITS FALSE NEIGHBOUR: 'it returns false'. Refute it at one input. -/
def queueMoreWrong : ChangeSpec := { name := "queueMore", fn := fun _ => fun
  | [d1, d2] => { results := [.lit (.bool false)], args := [d1, d2] }
  | _ => none }
def QueueMoreWrongFalsely : Prop := queueMoreRow.holds Try.pinned (OpenSpec.ofChange queueMoreWrong)

/-- 'casebooklaw52.QueueBalance': WHATEVER THE INPUT: true; the input reads as it did. -/
def queueBalanceSpec : ChangeSpec := { name := "queueBalance", fn := fun _ => fun
  | [d] => { results := [.lit (.bool true)], args := [d] }
  | _ => none }
def queueBalanceRow : OpenClaim := { program := "ythlgkomhnhkooaa", sum := "362dabe18f465f5339e00e2f9404108ab6c753717729a0d9f66e00362546bb19", func := "casebook/casebooklaw52.QueueBalance", spec := "queueBalance", unfollowed := true, recurses := true, apart := false }
def QueueBalanceSaid : Prop := queueBalanceRow.holds Try.pinned (OpenSpec.ofChange queueBalanceSpec)

/-- ITS FALSE NEIGHBOUR: 'it returns false'. Refute it at one input. -/
def queueBalanceWrong : ChangeSpec := { name := "queueBalance", fn := fun _ => fun
  | [d] => { results := [.lit (.bool false)], args := [d] }
  | _ => none }
def QueueBalanceWrongFalsely : Prop := queueBalanceRow.holds Try.pinned (OpenSpec.ofChange queueBalanceWrong)

/- THE SECOND FORM. 'bulk': how many values and letters a reading holds, each counted each time it is reached (what is shared counts as often as it is met; a slice's spare places count too). A statement '..UptoSaid' is the law's where the arguments, and the package variables that the reading takes, are together of bulk at most 1048576: NARROWER than '..Said'. Prove '..Said' where nothing that the law and all that it calls make is longer than what came in: it says more and counts as full. Else prove '..UptoSaid'. A law counts once. -/
mutual
def uptoBulk {H : Type} : DataW H → Nat
  | .lit (.string bytes) => bytes.length + 1
  | .lit _ => 1
  | .nil => 1
  | .ptr d => uptoBulk d + 1
  | .slice elems spare => uptoBulkAll elems + uptoBulkAll spare + 1
  | .agg parts => uptoBulkAll parts + 1
  | .iface _ d => uptoBulk d + 1
  | .map entries => uptoBulkEntries entries + 1
  | .held _ => 1
def uptoBulkAll {H : Type} : List (DataW H) → Nat
  | [] => 0
  | d :: r => uptoBulk d + uptoBulkAll r
def uptoBulkEntries {H : Type} : List (Lit × DataW H) → Nat
  | [] => 0
  | x :: r => uptoBulkEntry x + uptoBulkEntries r
def uptoBulkEntry {H : Type} : Lit × DataW H → Nat
  | (.string bytes, d) => bytes.length + uptoBulk d + 1
  | (_, d) => uptoBulk d + 1
 end
def uptoSmall : (H : Type) → List (DataW H) → Bool := fun _ ds => decide (uptoBulkAll ds ≤ 1048576)
def OpenSpec.upto (s : _root_.Go.ChangeSpec) : _root_.Go.OpenSpec := { _root_.Go.OpenSpec.ofChange s with cond := some uptoSmall }

/-- 'casebooklaw52.QueueStationary', WHERE WHAT IT READS IS OF BULK AT MOST 1048576: true; the input reads as it did. -/
def queueStationaryUptoRow : OpenClaim := { program := "ythlgkomhnhkooaa", sum := "362dabe18f465f5339e00e2f9404108ab6c753717729a0d9f66e00362546bb19", func := "casebook/casebooklaw52.QueueStationary", spec := "queueStationary", unfollowed := true, recurses := true, apart := false, narrowed := true }
def QueueStationaryUptoSaid : Prop := queueStationaryUptoRow.holds Try.pinned (OpenSpec.upto queueStationarySpec)

/-- 'casebooklaw52.QueueMeans', WHERE WHAT IT READS IS OF BULK AT MOST 1048576: true; the input reads as it did. -/
def queueMeansUptoRow : OpenClaim := { program := "ythlgkomhnhkooaa", sum := "362dabe18f465f5339e00e2f9404108ab6c753717729a0d9f66e00362546bb19", func := "casebook/casebooklaw52.QueueMeans", spec := "queueMeans", unfollowed := true, recurses := true, apart := false, narrowed := true }
def QueueMeansUptoSaid : Prop := queueMeansUptoRow.holds Try.pinned (OpenSpec.upto queueMeansSpec)

/-- 'casebooklaw52.QueueLittle', WHERE WHAT IT READS IS OF BULK AT MOST 1048576: true; the input reads as it did. -/
def queueLittleUptoRow : OpenClaim := { program := "ythlgkomhnhkooaa", sum := "362dabe18f465f5339e00e2f9404108ab6c753717729a0d9f66e00362546bb19", func := "casebook/casebooklaw52.QueueLittle", spec := "queueLittle", unfollowed := true, recurses := true, apart := false, narrowed := true }
def QueueLittleUptoSaid : Prop := queueLittleUptoRow.holds Try.pinned (OpenSpec.upto queueLittleSpec)

/-- 'casebooklaw52.QueueChains', WHERE WHAT IT READS IS OF BULK AT MOST 1048576: true; the input reads as it did. -/
def queueChainsUptoRow : OpenClaim := { program := "ythlgkomhnhkooaa", sum := "362dabe18f465f5339e00e2f9404108ab6c753717729a0d9f66e00362546bb19", func := "casebook/casebooklaw52.QueueChains", spec := "queueChains", unfollowed := true, recurses := true, apart := false, narrowed := true }
def QueueChainsUptoSaid : Prop := queueChainsUptoRow.holds Try.pinned (OpenSpec.upto queueChainsSpec)

/-- 'casebooklaw52.QueueServers', WHERE WHAT IT READS IS OF BULK AT MOST 1048576: true; the input reads as it did. -/
def queueServersUptoRow : OpenClaim := { program := "ythlgkomhnhkooaa", sum := "362dabe18f465f5339e00e2f9404108ab6c753717729a0d9f66e00362546bb19", func := "casebook/casebooklaw52.QueueServers", spec := "queueServers", unfollowed := true, recurses := true, apart := false, narrowed := true }
def QueueServersUptoSaid : Prop := queueServersUptoRow.holds Try.pinned (OpenSpec.upto queueServersSpec)

/-- 'casebooklaw52.QueueMore', WHERE WHAT IT READS IS OF BULK AT MOST 1048576: true; the input reads as it did. -/
def queueMoreUptoRow : OpenClaim := { program := "ythlgkomhnhkooaa", sum := "362dabe18f465f5339e00e2f9404108ab6c753717729a0d9f66e00362546bb19", func := "casebook/casebooklaw52.QueueMore", spec := "queueMore", unfollowed := true, recurses := true, apart := false, narrowed := true }
def QueueMoreUptoSaid : Prop := queueMoreUptoRow.holds Try.pinned (OpenSpec.upto queueMoreSpec)

/-- 'casebooklaw52.QueueBalance', WHERE WHAT IT READS IS OF BULK AT MOST 1048576: true; the input reads as it did. -/
def queueBalanceUptoRow : OpenClaim := { program := "ythlgkomhnhkooaa", sum := "362dabe18f465f5339e00e2f9404108ab6c753717729a0d9f66e00362546bb19", func := "casebook/casebooklaw52.QueueBalance", spec := "queueBalance", unfollowed := true, recurses := true, apart := false, narrowed := true }
def QueueBalanceUptoSaid : Prop := queueBalanceUptoRow.holds Try.pinned (OpenSpec.upto queueBalanceSpec)

end Rows
end Go.Proofs.Ythlgkomhnhkooaa
