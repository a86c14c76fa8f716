/-
  DERIVED. GIVEN WITH THE SEED: THE CARDS: each row of YtkfbailpifmdcaaGreatDoorRows.lean that lists a variable, with what it lists TIED to the program's text (the seventh form; the later family's looks); each row that meets fmt, with fmt's text TOLD by the authors' own Lean function (tested against real Go, not proved from fmt's source: count such statements apart). THE CARD IS WHAT COUNTS. Prove the row's statement (the work); the ties are given (YtkfbailpifmdcaaGreatDoorTie.lean); close each card by the builder's one call (the guide's Derived/Test/ToyasCard.lean, 'card_holds'). Laid BY PROGRAM, IN A SANDBOX (cutbox-door.mjs). By AI agents, Wed Nov 11 2026. No macro, syntax, notation, axiom, sorry.
-/
import Derived.Test.YtkfbailpifmdcaaGreatDoorRows
import GoSem.ClaimSeven
namespace Go.Proofs.YtkfbailpifmdcaaGreatDoor
namespace Rows

/-- THE TIED CARD OF 'ulplaw28.TextReads'. -/
def textReadsCard : Claim7 := { stood := { row := textReadsRow, standIns := [], harness := (true, "f68d7d3857c41b9516dcc4a32ace804dbed0dda453b10f9c32ff0f4f73c0a33b"), looks := false }, kinds := [], alts := [], laidByText := true, laidKinds := [.data, .data, .data, .data, .pinned], laidTests := true, laidLooks := .later }
def TextReadsCardSaid : Prop := Claim7.holds Tryz.pinned (.plain (OpenSpec.ofChange textReadsSpec)) textReadsCard

/-- THE TIED CARD OF 'ulplaw28.TextBack'. -/
def textBackCard : Claim7 := { stood := { row := textBackRow, standIns := [], harness := (true, "f68d7d3857c41b9516dcc4a32ace804dbed0dda453b10f9c32ff0f4f73c0a33b"), looks := false }, kinds := [], alts := [], laidByText := true, laidKinds := [.data, .data, .data, .data, .pinned], laidTests := true, laidLooks := .later }
def TextBackCardSaid : Prop := Claim7.holds Tryz.pinned (.plain (OpenSpec.ofChange textBackSpec)) textBackCard

/-- THE TIED CARD OF 'ulplaw28.TextFewest'. -/
def textFewestCard : Claim7 := { stood := { row := textFewestRow, standIns := [], harness := (true, "f68d7d3857c41b9516dcc4a32ace804dbed0dda453b10f9c32ff0f4f73c0a33b"), looks := false }, kinds := [], alts := [], laidByText := true, laidKinds := [.data, .data, .data, .data, .pinned], laidTests := true, laidLooks := .later }
def TextFewestCardSaid : Prop := Claim7.holds Tryz.pinned (.plain (OpenSpec.ofChange textFewestSpec)) textFewestCard

/-- THE TIED CARD OF 'ulplaw28.TextDigits'. -/
def textDigitsCard : Claim7 := { stood := { row := textDigitsRow, standIns := [], harness := (true, "f68d7d3857c41b9516dcc4a32ace804dbed0dda453b10f9c32ff0f4f73c0a33b"), looks := false }, kinds := [], alts := [], laidByText := true, laidKinds := [.data, .data, .data, .data, .pinned], laidTests := true, laidLooks := .later }
def TextDigitsCardSaid : Prop := Claim7.holds Tryz.pinned (.plain (OpenSpec.ofChange textDigitsSpec)) textDigitsCard

/-- THE TIED CARD OF 'ulplaw28.TextNear'. -/
def textNearCard : Claim7 := { stood := { row := textNearRow, standIns := [], harness := (true, "f68d7d3857c41b9516dcc4a32ace804dbed0dda453b10f9c32ff0f4f73c0a33b"), looks := false }, kinds := [], alts := [], laidByText := true, laidKinds := [.data, .data, .data, .data, .pinned], laidTests := true, laidLooks := .later }
def TextNearCardSaid : Prop := Claim7.holds Tryz.pinned (.plain (OpenSpec.ofChange textNearSpec)) textNearCard

/-- THE TIED CARD OF 'ulplaw28.TextRises'. -/
def textRisesCard : Claim7 := { stood := { row := textRisesRow, standIns := [], harness := (true, "f68d7d3857c41b9516dcc4a32ace804dbed0dda453b10f9c32ff0f4f73c0a33b"), looks := false }, kinds := [], alts := [], laidByText := true, laidKinds := [.data, .data, .data, .data, .pinned], laidTests := true, laidLooks := .later }
def TextRisesCardSaid : Prop := Claim7.holds Tryz.pinned (.plain (OpenSpec.ofChange textRisesSpec)) textRisesCard

/-- THE SECOND FORM's CARD OF 'ulplaw28.TextReads'. -/
def textReadsUptoCard : Claim7 := { stood := { row := textReadsUptoRow, standIns := [], harness := (true, "f68d7d3857c41b9516dcc4a32ace804dbed0dda453b10f9c32ff0f4f73c0a33b"), looks := false }, kinds := [], alts := [], laidByText := true, laidKinds := [.data, .data, .data, .data, .pinned], laidTests := true, laidLooks := .later }
def TextReadsUptoCardSaid : Prop := Claim7.holds Tryz.pinned (.plain (OpenSpec.upto textReadsSpec)) textReadsUptoCard

/-- THE SECOND FORM's CARD OF 'ulplaw28.TextBack'. -/
def textBackUptoCard : Claim7 := { stood := { row := textBackUptoRow, standIns := [], harness := (true, "f68d7d3857c41b9516dcc4a32ace804dbed0dda453b10f9c32ff0f4f73c0a33b"), looks := false }, kinds := [], alts := [], laidByText := true, laidKinds := [.data, .data, .data, .data, .pinned], laidTests := true, laidLooks := .later }
def TextBackUptoCardSaid : Prop := Claim7.holds Tryz.pinned (.plain (OpenSpec.upto textBackSpec)) textBackUptoCard

/-- THE SECOND FORM's CARD OF 'ulplaw28.TextFewest'. -/
def textFewestUptoCard : Claim7 := { stood := { row := textFewestUptoRow, standIns := [], harness := (true, "f68d7d3857c41b9516dcc4a32ace804dbed0dda453b10f9c32ff0f4f73c0a33b"), looks := false }, kinds := [], alts := [], laidByText := true, laidKinds := [.data, .data, .data, .data, .pinned], laidTests := true, laidLooks := .later }
def TextFewestUptoCardSaid : Prop := Claim7.holds Tryz.pinned (.plain (OpenSpec.upto textFewestSpec)) textFewestUptoCard

/-- THE SECOND FORM's CARD OF 'ulplaw28.TextDigits'. -/
def textDigitsUptoCard : Claim7 := { stood := { row := textDigitsUptoRow, standIns := [], harness := (true, "f68d7d3857c41b9516dcc4a32ace804dbed0dda453b10f9c32ff0f4f73c0a33b"), looks := false }, kinds := [], alts := [], laidByText := true, laidKinds := [.data, .data, .data, .data, .pinned], laidTests := true, laidLooks := .later }
def TextDigitsUptoCardSaid : Prop := Claim7.holds Tryz.pinned (.plain (OpenSpec.upto textDigitsSpec)) textDigitsUptoCard

/-- THE SECOND FORM's CARD OF 'ulplaw28.TextNear'. -/
def textNearUptoCard : Claim7 := { stood := { row := textNearUptoRow, standIns := [], harness := (true, "f68d7d3857c41b9516dcc4a32ace804dbed0dda453b10f9c32ff0f4f73c0a33b"), looks := false }, kinds := [], alts := [], laidByText := true, laidKinds := [.data, .data, .data, .data, .pinned], laidTests := true, laidLooks := .later }
def TextNearUptoCardSaid : Prop := Claim7.holds Tryz.pinned (.plain (OpenSpec.upto textNearSpec)) textNearUptoCard

/-- THE SECOND FORM's CARD OF 'ulplaw28.TextRises'. -/
def textRisesUptoCard : Claim7 := { stood := { row := textRisesUptoRow, standIns := [], harness := (true, "f68d7d3857c41b9516dcc4a32ace804dbed0dda453b10f9c32ff0f4f73c0a33b"), looks := false }, kinds := [], alts := [], laidByText := true, laidKinds := [.data, .data, .data, .data, .pinned], laidTests := true, laidLooks := .later }
def TextRisesUptoCardSaid : Prop := Claim7.holds Tryz.pinned (.plain (OpenSpec.upto textRisesSpec)) textRisesUptoCard
end Rows
end Go.Proofs.YtkfbailpifmdcaaGreatDoor
