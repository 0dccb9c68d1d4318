/-
  DERIVED. GIVEN WITH THE SEED: THE CARDS: each row of YtjdpnadhgjohnaaGreatDoorRows.lean that lists a variable, with what it lists TIED to the program's text (the seventh form; the later family's looks); each row that meets fmt, with fmt's text TOLD by the authors' own Lean function (tested against real Go, not proved from fmt's source: count such statements apart). THE CARD IS WHAT COUNTS. Prove the row's statement (the work); the ties are given (YtjdpnadhgjohnaaGreatDoorTie.lean); close each card by the builder's one call (the guide's Derived/Test/ToyasCard.lean, 'card_holds'). Laid BY PROGRAM, IN A SANDBOX (cutbox-door.mjs). By AI agents, Wed Nov 11 2026. No macro, syntax, notation, axiom, sorry.
-/
import Derived.Test.YtjdpnadhgjohnaaGreatDoorRows
import GoSem.ClaimSeven
namespace Go.Proofs.YtjdpnadhgjohnaaGreatDoor
namespace Rows

/-- THE TIED CARD OF 'casebooklaw43.AlignLeast'. -/
def alignLeastCard : Claim7 := { stood := { row := alignLeastRow, standIns := [], harness := (true, "0ca2a406d433915e56fbc399d684e1da769e80074a34d1c2c09528d73bd80781"), looks := true }, kinds := [], alts := [], laidByText := true, laidKinds := [.data, .data, .data], laidTests := true, laidLooks := .later }
def AlignLeastCardSaid : Prop := Claim7.holds Tryz.pinned (.plain (OpenSpec.ofChange alignLeastSpec)) alignLeastCard

/-- THE TIED CARD OF 'casebooklaw43.AlignPrograms'. -/
def alignProgramsCard : Claim7 := { stood := { row := alignProgramsRow, standIns := [], harness := (true, "0ca2a406d433915e56fbc399d684e1da769e80074a34d1c2c09528d73bd80781"), looks := true }, kinds := [], alts := [], laidByText := true, laidKinds := [.data, .data, .data], laidTests := true, laidLooks := .later }
def AlignProgramsCardSaid : Prop := Claim7.holds Tryz.pinned (.plain (OpenSpec.ofChange alignProgramsSpec)) alignProgramsCard

/-- THE TIED CARD OF 'casebooklaw43.AlignCheapest'. -/
def alignCheapestCard : Claim7 := { stood := { row := alignCheapestRow, standIns := [], harness := (true, "0ca2a406d433915e56fbc399d684e1da769e80074a34d1c2c09528d73bd80781"), looks := true }, kinds := [], alts := [], laidByText := true, laidKinds := [.data, .data, .data], laidTests := true, laidLooks := .later }
def AlignCheapestCardSaid : Prop := Claim7.holds Tryz.pinned (.plain (OpenSpec.ofChange alignCheapestSpec)) alignCheapestCard

/-- THE TIED CARD OF 'casebooklaw43.AlignBounds'. -/
def alignBoundsCard : Claim7 := { stood := { row := alignBoundsRow, standIns := [], harness := (true, "0ca2a406d433915e56fbc399d684e1da769e80074a34d1c2c09528d73bd80781"), looks := true }, kinds := [], alts := [], laidByText := true, laidKinds := [.data, .data, .data], laidTests := true, laidLooks := .later }
def AlignBoundsCardSaid : Prop := Claim7.holds Tryz.pinned (.plain (OpenSpec.ofChange alignBoundsSpec)) alignBoundsCard

/-- THE TIED CARD OF 'casebooklaw43.AlignRight'. -/
def alignRightCard : Claim7 := { stood := { row := alignRightRow, standIns := [], harness := (true, "0ca2a406d433915e56fbc399d684e1da769e80074a34d1c2c09528d73bd80781"), looks := true }, kinds := [], alts := [], laidByText := true, laidKinds := [.data, .data, .data], laidTests := true, laidLooks := .later }
def AlignRightCardSaid : Prop := Claim7.holds Tryz.pinned (.plain (OpenSpec.ofChange alignRightSpec)) alignRightCard

/-- THE TIED CARD OF 'casebooklaw43.AlignWords'. -/
def alignWordsCard : Claim7 := { stood := { row := alignWordsRow, standIns := [], harness := (true, "0ca2a406d433915e56fbc399d684e1da769e80074a34d1c2c09528d73bd80781"), looks := true }, kinds := [], alts := [], laidByText := true, laidKinds := [.data, .data, .data], laidTests := true, laidLooks := .later }
def AlignWordsCardSaid : Prop := Claim7.holds Tryz.pinned (.plain (OpenSpec.ofChange alignWordsSpec)) alignWordsCard

/-- THE SECOND FORM's CARD OF 'casebooklaw43.AlignLeast'. -/
def alignLeastUptoCard : Claim7 := { stood := { row := alignLeastUptoRow, standIns := [], harness := (true, "0ca2a406d433915e56fbc399d684e1da769e80074a34d1c2c09528d73bd80781"), looks := true }, kinds := [], alts := [], laidByText := true, laidKinds := [.data, .data, .data], laidTests := true, laidLooks := .later }
def AlignLeastUptoCardSaid : Prop := Claim7.holds Tryz.pinned (.plain (OpenSpec.upto alignLeastSpec)) alignLeastUptoCard

/-- THE SECOND FORM's CARD OF 'casebooklaw43.AlignPrograms'. -/
def alignProgramsUptoCard : Claim7 := { stood := { row := alignProgramsUptoRow, standIns := [], harness := (true, "0ca2a406d433915e56fbc399d684e1da769e80074a34d1c2c09528d73bd80781"), looks := true }, kinds := [], alts := [], laidByText := true, laidKinds := [.data, .data, .data], laidTests := true, laidLooks := .later }
def AlignProgramsUptoCardSaid : Prop := Claim7.holds Tryz.pinned (.plain (OpenSpec.upto alignProgramsSpec)) alignProgramsUptoCard

/-- THE SECOND FORM's CARD OF 'casebooklaw43.AlignCheapest'. -/
def alignCheapestUptoCard : Claim7 := { stood := { row := alignCheapestUptoRow, standIns := [], harness := (true, "0ca2a406d433915e56fbc399d684e1da769e80074a34d1c2c09528d73bd80781"), looks := true }, kinds := [], alts := [], laidByText := true, laidKinds := [.data, .data, .data], laidTests := true, laidLooks := .later }
def AlignCheapestUptoCardSaid : Prop := Claim7.holds Tryz.pinned (.plain (OpenSpec.upto alignCheapestSpec)) alignCheapestUptoCard

/-- THE SECOND FORM's CARD OF 'casebooklaw43.AlignBounds'. -/
def alignBoundsUptoCard : Claim7 := { stood := { row := alignBoundsUptoRow, standIns := [], harness := (true, "0ca2a406d433915e56fbc399d684e1da769e80074a34d1c2c09528d73bd80781"), looks := true }, kinds := [], alts := [], laidByText := true, laidKinds := [.data, .data, .data], laidTests := true, laidLooks := .later }
def AlignBoundsUptoCardSaid : Prop := Claim7.holds Tryz.pinned (.plain (OpenSpec.upto alignBoundsSpec)) alignBoundsUptoCard

/-- THE SECOND FORM's CARD OF 'casebooklaw43.AlignRight'. -/
def alignRightUptoCard : Claim7 := { stood := { row := alignRightUptoRow, standIns := [], harness := (true, "0ca2a406d433915e56fbc399d684e1da769e80074a34d1c2c09528d73bd80781"), looks := true }, kinds := [], alts := [], laidByText := true, laidKinds := [.data, .data, .data], laidTests := true, laidLooks := .later }
def AlignRightUptoCardSaid : Prop := Claim7.holds Tryz.pinned (.plain (OpenSpec.upto alignRightSpec)) alignRightUptoCard

/-- THE SECOND FORM's CARD OF 'casebooklaw43.AlignWords'. -/
def alignWordsUptoCard : Claim7 := { stood := { row := alignWordsUptoRow, standIns := [], harness := (true, "0ca2a406d433915e56fbc399d684e1da769e80074a34d1c2c09528d73bd80781"), looks := true }, kinds := [], alts := [], laidByText := true, laidKinds := [.data, .data, .data], laidTests := true, laidLooks := .later }
def AlignWordsUptoCardSaid : Prop := Claim7.holds Tryz.pinned (.plain (OpenSpec.upto alignWordsSpec)) alignWordsUptoCard
end Rows
end Go.Proofs.YtjdpnadhgjohnaaGreatDoor
