/-
  DERIVED. GIVEN WITH THE SEED: THE CARDS: each row of YtjhdcgaiccnmeaaGreatDoorRows.lean that lists a variable, with what it lists TIED to the program's text (the seventh form; the later family's looks); each row that meets fmt, with fmt's text TOLD by the authors' own Lean function (tested against real Go, not proved from fmt's source: count such statements apart). THE CARD IS WHAT COUNTS. Prove the row's statement (the work); the ties are given (YtjhdcgaiccnmeaaGreatDoorTie.lean); close each card by the builder's one call (the guide's Derived/Test/ToyasCard.lean, 'card_holds'). Laid BY PROGRAM, IN A SANDBOX (cutbox-door.mjs). By AI agents, Wed Nov 11 2026. No macro, syntax, notation, axiom, sorry.
-/
import Derived.Test.YtjhdcgaiccnmeaaGreatDoorRows
import GoSem.ClaimSeven
namespace Go.Proofs.YtjhdcgaiccnmeaaGreatDoor
namespace Rows

/-- THE TIED CARD OF 'casebooklaw44.DualChecks'. -/
def dualChecksCard : Claim7 := { stood := { row := dualChecksRow, standIns := [], harness := (true, "9f722124f600262ead5283ae4366b9ee45e9376fa60430cb948d4961f81b2e9f"), looks := false }, kinds := [], alts := [], laidByText := true, laidKinds := [.data, .data, .data], laidTests := true, laidLooks := .later }
def DualChecksCardSaid : Prop := Claim7.holds Tryz.pinned (.plain (OpenSpec.ofChange dualChecksSpec)) dualChecksCard

/-- THE TIED CARD OF 'casebooklaw44.DualProves'. -/
def dualProvesCard : Claim7 := { stood := { row := dualProvesRow, standIns := [], harness := (true, "9f722124f600262ead5283ae4366b9ee45e9376fa60430cb948d4961f81b2e9f"), looks := false }, kinds := [], alts := [], laidByText := true, laidKinds := [.data, .data, .data], laidTests := true, laidLooks := .later }
def DualProvesCardSaid : Prop := Claim7.holds Tryz.pinned (.plain (OpenSpec.ofChange dualProvesSpec)) dualProvesCard

/-- THE TIED CARD OF 'casebooklaw44.DualScaled'. -/
def dualScaledCard : Claim7 := { stood := { row := dualScaledRow, standIns := [], harness := (true, "9f722124f600262ead5283ae4366b9ee45e9376fa60430cb948d4961f81b2e9f"), looks := false }, kinds := [], alts := [], laidByText := true, laidKinds := [.data, .data, .data], laidTests := true, laidLooks := .later }
def DualScaledCardSaid : Prop := Claim7.holds Tryz.pinned (.plain (OpenSpec.ofChange dualScaledSpec)) dualScaledCard

/-- THE TIED CARD OF 'casebooklaw44.DualForms'. -/
def dualFormsCard : Claim7 := { stood := { row := dualFormsRow, standIns := [], harness := (true, "9f722124f600262ead5283ae4366b9ee45e9376fa60430cb948d4961f81b2e9f"), looks := false }, kinds := [], alts := [], laidByText := true, laidKinds := [.data, .data, .data], laidTests := true, laidLooks := .later }
def DualFormsCardSaid : Prop := Claim7.holds Tryz.pinned (.plain (OpenSpec.ofChange dualFormsSpec)) dualFormsCard

/-- THE TIED CARD OF 'casebooklaw44.DualBounds'. -/
def dualBoundsCard : Claim7 := { stood := { row := dualBoundsRow, standIns := [], harness := (true, "9f722124f600262ead5283ae4366b9ee45e9376fa60430cb948d4961f81b2e9f"), looks := false }, kinds := [], alts := [], laidByText := true, laidKinds := [.data, .data, .data], laidTests := true, laidLooks := .later }
def DualBoundsCardSaid : Prop := Claim7.holds Tryz.pinned (.plain (OpenSpec.ofChange dualBoundsSpec)) dualBoundsCard

/-- THE TIED CARD OF 'casebooklaw44.DualLeast'. -/
def dualLeastCard : Claim7 := { stood := { row := dualLeastRow, standIns := [], harness := (true, "9f722124f600262ead5283ae4366b9ee45e9376fa60430cb948d4961f81b2e9f"), looks := false }, kinds := [], alts := [], laidByText := true, laidKinds := [.data, .data, .data], laidTests := true, laidLooks := .later }
def DualLeastCardSaid : Prop := Claim7.holds Tryz.pinned (.plain (OpenSpec.ofChange dualLeastSpec)) dualLeastCard

/-- THE SECOND FORM's CARD OF 'casebooklaw44.DualChecks'. -/
def dualChecksUptoCard : Claim7 := { stood := { row := dualChecksUptoRow, standIns := [], harness := (true, "9f722124f600262ead5283ae4366b9ee45e9376fa60430cb948d4961f81b2e9f"), looks := false }, kinds := [], alts := [], laidByText := true, laidKinds := [.data, .data, .data], laidTests := true, laidLooks := .later }
def DualChecksUptoCardSaid : Prop := Claim7.holds Tryz.pinned (.plain (OpenSpec.upto dualChecksSpec)) dualChecksUptoCard

/-- THE SECOND FORM's CARD OF 'casebooklaw44.DualProves'. -/
def dualProvesUptoCard : Claim7 := { stood := { row := dualProvesUptoRow, standIns := [], harness := (true, "9f722124f600262ead5283ae4366b9ee45e9376fa60430cb948d4961f81b2e9f"), looks := false }, kinds := [], alts := [], laidByText := true, laidKinds := [.data, .data, .data], laidTests := true, laidLooks := .later }
def DualProvesUptoCardSaid : Prop := Claim7.holds Tryz.pinned (.plain (OpenSpec.upto dualProvesSpec)) dualProvesUptoCard

/-- THE SECOND FORM's CARD OF 'casebooklaw44.DualScaled'. -/
def dualScaledUptoCard : Claim7 := { stood := { row := dualScaledUptoRow, standIns := [], harness := (true, "9f722124f600262ead5283ae4366b9ee45e9376fa60430cb948d4961f81b2e9f"), looks := false }, kinds := [], alts := [], laidByText := true, laidKinds := [.data, .data, .data], laidTests := true, laidLooks := .later }
def DualScaledUptoCardSaid : Prop := Claim7.holds Tryz.pinned (.plain (OpenSpec.upto dualScaledSpec)) dualScaledUptoCard

/-- THE SECOND FORM's CARD OF 'casebooklaw44.DualForms'. -/
def dualFormsUptoCard : Claim7 := { stood := { row := dualFormsUptoRow, standIns := [], harness := (true, "9f722124f600262ead5283ae4366b9ee45e9376fa60430cb948d4961f81b2e9f"), looks := false }, kinds := [], alts := [], laidByText := true, laidKinds := [.data, .data, .data], laidTests := true, laidLooks := .later }
def DualFormsUptoCardSaid : Prop := Claim7.holds Tryz.pinned (.plain (OpenSpec.upto dualFormsSpec)) dualFormsUptoCard

/-- THE SECOND FORM's CARD OF 'casebooklaw44.DualBounds'. -/
def dualBoundsUptoCard : Claim7 := { stood := { row := dualBoundsUptoRow, standIns := [], harness := (true, "9f722124f600262ead5283ae4366b9ee45e9376fa60430cb948d4961f81b2e9f"), looks := false }, kinds := [], alts := [], laidByText := true, laidKinds := [.data, .data, .data], laidTests := true, laidLooks := .later }
def DualBoundsUptoCardSaid : Prop := Claim7.holds Tryz.pinned (.plain (OpenSpec.upto dualBoundsSpec)) dualBoundsUptoCard

/-- THE SECOND FORM's CARD OF 'casebooklaw44.DualLeast'. -/
def dualLeastUptoCard : Claim7 := { stood := { row := dualLeastUptoRow, standIns := [], harness := (true, "9f722124f600262ead5283ae4366b9ee45e9376fa60430cb948d4961f81b2e9f"), looks := false }, kinds := [], alts := [], laidByText := true, laidKinds := [.data, .data, .data], laidTests := true, laidLooks := .later }
def DualLeastUptoCardSaid : Prop := Claim7.holds Tryz.pinned (.plain (OpenSpec.upto dualLeastSpec)) dualLeastUptoCard
end Rows
end Go.Proofs.YtjhdcgaiccnmeaaGreatDoor
