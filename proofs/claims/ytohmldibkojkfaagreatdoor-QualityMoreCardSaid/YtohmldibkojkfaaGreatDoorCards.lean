/-
  DERIVED. GIVEN WITH THE SEED: THE CARDS: each row of YtohmldibkojkfaaGreatDoorRows.lean that lists a variable, with what it lists TIED to the program's text (the seventh form; the later family's looks); each row that meets fmt, with fmt's text TOLD by the authors' own Lean function (tested against real Go, not proved from fmt's source: count such statements apart). THE CARD IS WHAT COUNTS. Prove the row's statement (the work); the ties are given (YtohmldibkojkfaaGreatDoorTie.lean); close each card by the builder's one call (the guide's Derived/Test/ToyasCard.lean, 'card_holds'). Laid BY PROGRAM, IN A SANDBOX (cutbox-door.mjs). By AI agents, Wed Nov 11 2026. No macro, syntax, notation, axiom, sorry.
-/
import Derived.Test.YtohmldibkojkfaaGreatDoorRows
import GoSem.ClaimSeven
namespace Go.Proofs.YtohmldibkojkfaaGreatDoor
namespace Rows

/-- THE TIED CARD OF 'casebooklaw45.QualityFitness'. -/
def qualityFitnessCard : Claim7 := { stood := { row := qualityFitnessRow, standIns := [], harness := (true, "2694aff06bf84654b2924834adc5f4e5e026099b58d58d42b99ca98d33d152ad"), looks := true }, kinds := [], alts := [], laidByText := true, laidKinds := [.data, .data, .data], laidTests := true, laidLooks := .later }
def QualityFitnessCardSaid : Prop := Claim7.holds Tryz.pinned (.plain (OpenSpec.ofChange qualityFitnessSpec)) qualityFitnessCard

/-- THE TIED CARD OF 'casebooklaw45.QualityBetter'. -/
def qualityBetterCard : Claim7 := { stood := { row := qualityBetterRow, standIns := [], harness := (true, "2694aff06bf84654b2924834adc5f4e5e026099b58d58d42b99ca98d33d152ad"), looks := true }, kinds := [], alts := [], laidByText := true, laidKinds := [.data, .data, .data], laidTests := true, laidLooks := .later }
def QualityBetterCardSaid : Prop := Claim7.holds Tryz.pinned (.plain (OpenSpec.ofChange qualityBetterSpec)) qualityBetterCard

/-- THE TIED CARD OF 'casebooklaw45.QualityMore'. -/
def qualityMoreCard : Claim7 := { stood := { row := qualityMoreRow, standIns := [], harness := (true, "2694aff06bf84654b2924834adc5f4e5e026099b58d58d42b99ca98d33d152ad"), looks := true }, kinds := [], alts := [], laidByText := true, laidKinds := [.data, .data, .data], laidTests := true, laidLooks := .later }
def QualityMoreCardSaid : Prop := Claim7.holds Tryz.pinned (.plain (OpenSpec.ofChange qualityMoreSpec)) qualityMoreCard

/-- THE TIED CARD OF 'casebooklaw45.QualityForms'. -/
def qualityFormsCard : Claim7 := { stood := { row := qualityFormsRow, standIns := [], harness := (true, "2694aff06bf84654b2924834adc5f4e5e026099b58d58d42b99ca98d33d152ad"), looks := true }, kinds := [], alts := [], laidByText := true, laidKinds := [.data, .data, .data], laidTests := true, laidLooks := .later }
def QualityFormsCardSaid : Prop := Claim7.holds Tryz.pinned (.plain (OpenSpec.ofChange qualityFormsSpec)) qualityFormsCard

/-- THE TIED CARD OF 'casebooklaw45.QualityPerfect'. -/
def qualityPerfectCard : Claim7 := { stood := { row := qualityPerfectRow, standIns := [], harness := (true, "2694aff06bf84654b2924834adc5f4e5e026099b58d58d42b99ca98d33d152ad"), looks := true }, kinds := [], alts := [], laidByText := true, laidKinds := [.data, .data, .data], laidTests := true, laidLooks := .later }
def QualityPerfectCardSaid : Prop := Claim7.holds Tryz.pinned (.plain (OpenSpec.ofChange qualityPerfectSpec)) qualityPerfectCard

/-- THE SECOND FORM's CARD OF 'casebooklaw45.QualityFitness'. -/
def qualityFitnessUptoCard : Claim7 := { stood := { row := qualityFitnessUptoRow, standIns := [], harness := (true, "2694aff06bf84654b2924834adc5f4e5e026099b58d58d42b99ca98d33d152ad"), looks := true }, kinds := [], alts := [], laidByText := true, laidKinds := [.data, .data, .data], laidTests := true, laidLooks := .later }
def QualityFitnessUptoCardSaid : Prop := Claim7.holds Tryz.pinned (.plain (OpenSpec.upto qualityFitnessSpec)) qualityFitnessUptoCard

/-- THE SECOND FORM's CARD OF 'casebooklaw45.QualityBetter'. -/
def qualityBetterUptoCard : Claim7 := { stood := { row := qualityBetterUptoRow, standIns := [], harness := (true, "2694aff06bf84654b2924834adc5f4e5e026099b58d58d42b99ca98d33d152ad"), looks := true }, kinds := [], alts := [], laidByText := true, laidKinds := [.data, .data, .data], laidTests := true, laidLooks := .later }
def QualityBetterUptoCardSaid : Prop := Claim7.holds Tryz.pinned (.plain (OpenSpec.upto qualityBetterSpec)) qualityBetterUptoCard

/-- THE SECOND FORM's CARD OF 'casebooklaw45.QualityMore'. -/
def qualityMoreUptoCard : Claim7 := { stood := { row := qualityMoreUptoRow, standIns := [], harness := (true, "2694aff06bf84654b2924834adc5f4e5e026099b58d58d42b99ca98d33d152ad"), looks := true }, kinds := [], alts := [], laidByText := true, laidKinds := [.data, .data, .data], laidTests := true, laidLooks := .later }
def QualityMoreUptoCardSaid : Prop := Claim7.holds Tryz.pinned (.plain (OpenSpec.upto qualityMoreSpec)) qualityMoreUptoCard

/-- THE SECOND FORM's CARD OF 'casebooklaw45.QualityForms'. -/
def qualityFormsUptoCard : Claim7 := { stood := { row := qualityFormsUptoRow, standIns := [], harness := (true, "2694aff06bf84654b2924834adc5f4e5e026099b58d58d42b99ca98d33d152ad"), looks := true }, kinds := [], alts := [], laidByText := true, laidKinds := [.data, .data, .data], laidTests := true, laidLooks := .later }
def QualityFormsUptoCardSaid : Prop := Claim7.holds Tryz.pinned (.plain (OpenSpec.upto qualityFormsSpec)) qualityFormsUptoCard

/-- THE SECOND FORM's CARD OF 'casebooklaw45.QualityPerfect'. -/
def qualityPerfectUptoCard : Claim7 := { stood := { row := qualityPerfectUptoRow, standIns := [], harness := (true, "2694aff06bf84654b2924834adc5f4e5e026099b58d58d42b99ca98d33d152ad"), looks := true }, kinds := [], alts := [], laidByText := true, laidKinds := [.data, .data, .data], laidTests := true, laidLooks := .later }
def QualityPerfectUptoCardSaid : Prop := Claim7.holds Tryz.pinned (.plain (OpenSpec.upto qualityPerfectSpec)) qualityPerfectUptoCard
end Rows
end Go.Proofs.YtohmldibkojkfaaGreatDoor
