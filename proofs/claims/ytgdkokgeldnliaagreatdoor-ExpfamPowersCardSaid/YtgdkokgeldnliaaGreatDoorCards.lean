/-
  DERIVED. GIVEN WITH THE SEED: THE CARDS: each row of YtgdkokgeldnliaaGreatDoorRows.lean that lists a variable, with what it lists TIED to the program's text (the seventh form; the later family's looks); each row that meets fmt, with fmt's text TOLD by the authors' own Lean function (tested against real Go, not proved from fmt's source: count such statements apart). THE CARD IS WHAT COUNTS. Prove the row's statement (the work); the ties are given (YtgdkokgeldnliaaGreatDoorTie.lean); close each card by the builder's one call (the guide's Derived/Test/ToyasCard.lean, 'card_holds'). Laid BY PROGRAM, IN A SANDBOX (cutbox-door.mjs). By AI agents, Wed Nov 11 2026. No macro, syntax, notation, axiom, sorry.
-/
import Derived.Test.YtgdkokgeldnliaaGreatDoorRows
import GoSem.ClaimSeven
namespace Go.Proofs.YtgdkokgeldnliaaGreatDoor
namespace Rows

/-- THE TIED CARD OF 'ulplaw15.ExpfamEncloses'. -/
def expfamEnclosesCard : Claim7 := { stood := { row := expfamEnclosesRow, standIns := [], harness := (true, "f7e457c58a75468b93596ba2d89bd5c03d6b8df132c6b44320ec32bc5af6d4d5"), looks := false }, kinds := [], alts := [], laidByText := true, laidKinds := [.data, .data], laidTests := true, laidLooks := .later }
def ExpfamEnclosesCardSaid : Prop := Claim7.holds Tryz.pinned (.plain (OpenSpec.ofChange expfamEnclosesSpec)) expfamEnclosesCard

/-- THE TIED CARD OF 'ulplaw15.ExpfamPowers'. -/
def expfamPowersCard : Claim7 := { stood := { row := expfamPowersRow, standIns := [], harness := (true, "f7e457c58a75468b93596ba2d89bd5c03d6b8df132c6b44320ec32bc5af6d4d5"), looks := false }, kinds := [], alts := [], laidByText := true, laidKinds := [.data, .data], laidTests := true, laidLooks := .later }
def ExpfamPowersCardSaid : Prop := Claim7.holds Tryz.pinned (.plain (OpenSpec.ofChange expfamPowersSpec)) expfamPowersCard

/-- THE TIED CARD OF 'ulplaw15.ExpfamLess'. -/
def expfamLessCard : Claim7 := { stood := { row := expfamLessRow, standIns := [], harness := (true, "f7e457c58a75468b93596ba2d89bd5c03d6b8df132c6b44320ec32bc5af6d4d5"), looks := false }, kinds := [], alts := [], laidByText := true, laidKinds := [.data, .data], laidTests := true, laidLooks := .later }
def ExpfamLessCardSaid : Prop := Claim7.holds Tryz.pinned (.plain (OpenSpec.ofChange expfamLessSpec)) expfamLessCard

/-- THE TIED CARD OF 'ulplaw15.ExpfamWhole'. -/
def expfamWholeCard : Claim7 := { stood := { row := expfamWholeRow, standIns := [], harness := (true, "f7e457c58a75468b93596ba2d89bd5c03d6b8df132c6b44320ec32bc5af6d4d5"), looks := false }, kinds := [], alts := [], laidByText := true, laidKinds := [.data, .data], laidTests := true, laidLooks := .later }
def ExpfamWholeCardSaid : Prop := Claim7.holds Tryz.pinned (.plain (OpenSpec.ofChange expfamWholeSpec)) expfamWholeCard

/-- THE TIED CARD OF 'ulplaw15.ExpfamOwn'. -/
def expfamOwnCard : Claim7 := { stood := { row := expfamOwnRow, standIns := [], harness := (true, "f7e457c58a75468b93596ba2d89bd5c03d6b8df132c6b44320ec32bc5af6d4d5"), looks := false }, kinds := [], alts := [], laidByText := true, laidKinds := [.data, .data], laidTests := true, laidLooks := .later }
def ExpfamOwnCardSaid : Prop := Claim7.holds Tryz.pinned (.plain (OpenSpec.ofChange expfamOwnSpec)) expfamOwnCard

/-- THE TIED CARD OF 'ulplaw15.ExpfamProducts'. -/
def expfamProductsCard : Claim7 := { stood := { row := expfamProductsRow, standIns := [], harness := (true, "f7e457c58a75468b93596ba2d89bd5c03d6b8df132c6b44320ec32bc5af6d4d5"), looks := false }, kinds := [], alts := [], laidByText := true, laidKinds := [.data, .data], laidTests := true, laidLooks := .later }
def ExpfamProductsCardSaid : Prop := Claim7.holds Tryz.pinned (.plain (OpenSpec.ofChange expfamProductsSpec)) expfamProductsCard

/-- THE TIED CARD OF 'ulplaw15.ExpfamRises'. -/
def expfamRisesCard : Claim7 := { stood := { row := expfamRisesRow, standIns := [], harness := (true, "f7e457c58a75468b93596ba2d89bd5c03d6b8df132c6b44320ec32bc5af6d4d5"), looks := false }, kinds := [], alts := [], laidByText := true, laidKinds := [.data, .data], laidTests := true, laidLooks := .later }
def ExpfamRisesCardSaid : Prop := Claim7.holds Tryz.pinned (.plain (OpenSpec.ofChange expfamRisesSpec)) expfamRisesCard

/-- THE SECOND FORM's CARD OF 'ulplaw15.ExpfamEncloses'. -/
def expfamEnclosesUptoCard : Claim7 := { stood := { row := expfamEnclosesUptoRow, standIns := [], harness := (true, "f7e457c58a75468b93596ba2d89bd5c03d6b8df132c6b44320ec32bc5af6d4d5"), looks := false }, kinds := [], alts := [], laidByText := true, laidKinds := [.data, .data], laidTests := true, laidLooks := .later }
def ExpfamEnclosesUptoCardSaid : Prop := Claim7.holds Tryz.pinned (.plain (OpenSpec.upto expfamEnclosesSpec)) expfamEnclosesUptoCard

/-- THE SECOND FORM's CARD OF 'ulplaw15.ExpfamPowers'. -/
def expfamPowersUptoCard : Claim7 := { stood := { row := expfamPowersUptoRow, standIns := [], harness := (true, "f7e457c58a75468b93596ba2d89bd5c03d6b8df132c6b44320ec32bc5af6d4d5"), looks := false }, kinds := [], alts := [], laidByText := true, laidKinds := [.data, .data], laidTests := true, laidLooks := .later }
def ExpfamPowersUptoCardSaid : Prop := Claim7.holds Tryz.pinned (.plain (OpenSpec.upto expfamPowersSpec)) expfamPowersUptoCard

/-- THE SECOND FORM's CARD OF 'ulplaw15.ExpfamLess'. -/
def expfamLessUptoCard : Claim7 := { stood := { row := expfamLessUptoRow, standIns := [], harness := (true, "f7e457c58a75468b93596ba2d89bd5c03d6b8df132c6b44320ec32bc5af6d4d5"), looks := false }, kinds := [], alts := [], laidByText := true, laidKinds := [.data, .data], laidTests := true, laidLooks := .later }
def ExpfamLessUptoCardSaid : Prop := Claim7.holds Tryz.pinned (.plain (OpenSpec.upto expfamLessSpec)) expfamLessUptoCard

/-- THE SECOND FORM's CARD OF 'ulplaw15.ExpfamWhole'. -/
def expfamWholeUptoCard : Claim7 := { stood := { row := expfamWholeUptoRow, standIns := [], harness := (true, "f7e457c58a75468b93596ba2d89bd5c03d6b8df132c6b44320ec32bc5af6d4d5"), looks := false }, kinds := [], alts := [], laidByText := true, laidKinds := [.data, .data], laidTests := true, laidLooks := .later }
def ExpfamWholeUptoCardSaid : Prop := Claim7.holds Tryz.pinned (.plain (OpenSpec.upto expfamWholeSpec)) expfamWholeUptoCard

/-- THE SECOND FORM's CARD OF 'ulplaw15.ExpfamOwn'. -/
def expfamOwnUptoCard : Claim7 := { stood := { row := expfamOwnUptoRow, standIns := [], harness := (true, "f7e457c58a75468b93596ba2d89bd5c03d6b8df132c6b44320ec32bc5af6d4d5"), looks := false }, kinds := [], alts := [], laidByText := true, laidKinds := [.data, .data], laidTests := true, laidLooks := .later }
def ExpfamOwnUptoCardSaid : Prop := Claim7.holds Tryz.pinned (.plain (OpenSpec.upto expfamOwnSpec)) expfamOwnUptoCard

/-- THE SECOND FORM's CARD OF 'ulplaw15.ExpfamProducts'. -/
def expfamProductsUptoCard : Claim7 := { stood := { row := expfamProductsUptoRow, standIns := [], harness := (true, "f7e457c58a75468b93596ba2d89bd5c03d6b8df132c6b44320ec32bc5af6d4d5"), looks := false }, kinds := [], alts := [], laidByText := true, laidKinds := [.data, .data], laidTests := true, laidLooks := .later }
def ExpfamProductsUptoCardSaid : Prop := Claim7.holds Tryz.pinned (.plain (OpenSpec.upto expfamProductsSpec)) expfamProductsUptoCard

/-- THE SECOND FORM's CARD OF 'ulplaw15.ExpfamRises'. -/
def expfamRisesUptoCard : Claim7 := { stood := { row := expfamRisesUptoRow, standIns := [], harness := (true, "f7e457c58a75468b93596ba2d89bd5c03d6b8df132c6b44320ec32bc5af6d4d5"), looks := false }, kinds := [], alts := [], laidByText := true, laidKinds := [.data, .data], laidTests := true, laidLooks := .later }
def ExpfamRisesUptoCardSaid : Prop := Claim7.holds Tryz.pinned (.plain (OpenSpec.upto expfamRisesSpec)) expfamRisesUptoCard
end Rows
end Go.Proofs.YtgdkokgeldnliaaGreatDoor
