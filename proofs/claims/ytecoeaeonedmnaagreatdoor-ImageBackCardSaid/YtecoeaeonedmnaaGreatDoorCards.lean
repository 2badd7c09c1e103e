/-
  DERIVED. GIVEN WITH THE SEED: THE CARDS: each row of YtecoeaeonedmnaaGreatDoorRows.lean that lists a variable, with what it lists TIED to the program's text (the seventh form; the later family's looks); each row that meets fmt, with fmt's text TOLD by the authors' own Lean function (tested against real Go, not proved from fmt's source: count such statements apart). THE CARD IS WHAT COUNTS. Prove the row's statement (the work); the ties are given (YtecoeaeonedmnaaGreatDoorTie.lean); close each card by the builder's one call (the guide's Derived/Test/ToyasCard.lean, 'card_holds'). Laid BY PROGRAM, IN A SANDBOX (cutbox-door.mjs). By AI agents, Wed Nov 11 2026. No macro, syntax, notation, axiom, sorry.
-/
import Derived.Test.YtecoeaeonedmnaaGreatDoorRows
import GoSem.ClaimSeven
namespace Go.Proofs.YtecoeaeonedmnaaGreatDoor
namespace Rows

/-- THE TIED CARD OF 'lazarettolaw09.ImageBack'. -/
def imageBackCard : Claim7 := { stood := { row := imageBackRow, standIns := [], harness := (true, "b704b1db36c1c88a15b77d00126219981e5997d6ea3f991543d9cc3f2e6827f5"), looks := true }, kinds := [], alts := [], laidByText := true, laidKinds := [.data, .data, .data, .data, .sentinel, .sentinel, .data, .pinned], laidTests := true, laidLooks := .later }
def ImageBackCardSaid : Prop := Claim7.holds Tryz.pinned (.plain (OpenSpec.ofChange imageBackSpec)) imageBackCard

/-- THE TIED CARD OF 'lazarettolaw09.ImageOnce'. -/
def imageOnceCard : Claim7 := { stood := { row := imageOnceRow, standIns := [], harness := (true, "b704b1db36c1c88a15b77d00126219981e5997d6ea3f991543d9cc3f2e6827f5"), looks := true }, kinds := [], alts := [], laidByText := true, laidKinds := [.data, .data, .data, .data, .sentinel, .sentinel, .data, .pinned], laidTests := true, laidLooks := .later }
def ImageOnceCardSaid : Prop := Claim7.holds Tryz.pinned (.plain (OpenSpec.ofChange imageOnceSpec)) imageOnceCard

/-- THE TIED CARD OF 'lazarettolaw09.ImageSame'. -/
def imageSameCard : Claim7 := { stood := { row := imageSameRow, standIns := [], harness := (true, "b704b1db36c1c88a15b77d00126219981e5997d6ea3f991543d9cc3f2e6827f5"), looks := true }, kinds := [], alts := [], laidByText := true, laidKinds := [.data, .data, .data, .data, .sentinel, .sentinel, .data, .pinned], laidTests := true, laidLooks := .later }
def ImageSameCardSaid : Prop := Claim7.holds Tryz.pinned (.plain (OpenSpec.ofChange imageSameSpec)) imageSameCard

/-- THE TIED CARD OF 'lazarettolaw09.ImageSizes'. -/
def imageSizesCard : Claim7 := { stood := { row := imageSizesRow, standIns := [], harness := (true, "b704b1db36c1c88a15b77d00126219981e5997d6ea3f991543d9cc3f2e6827f5"), looks := true }, kinds := [], alts := [], laidByText := true, laidKinds := [.data, .data, .data, .data, .sentinel, .sentinel, .data, .pinned], laidTests := true, laidLooks := .later }
def ImageSizesCardSaid : Prop := Claim7.holds Tryz.pinned (.plain (OpenSpec.ofChange imageSizesSpec)) imageSizesCard

/-- THE SECOND FORM's CARD OF 'lazarettolaw09.ImageBack'. -/
def imageBackUptoCard : Claim7 := { stood := { row := imageBackUptoRow, standIns := [], harness := (true, "b704b1db36c1c88a15b77d00126219981e5997d6ea3f991543d9cc3f2e6827f5"), looks := true }, kinds := [], alts := [], laidByText := true, laidKinds := [.data, .data, .data, .data, .sentinel, .sentinel, .data, .pinned], laidTests := true, laidLooks := .later }
def ImageBackUptoCardSaid : Prop := Claim7.holds Tryz.pinned (.plain (OpenSpec.upto imageBackSpec)) imageBackUptoCard

/-- THE SECOND FORM's CARD OF 'lazarettolaw09.ImageOnce'. -/
def imageOnceUptoCard : Claim7 := { stood := { row := imageOnceUptoRow, standIns := [], harness := (true, "b704b1db36c1c88a15b77d00126219981e5997d6ea3f991543d9cc3f2e6827f5"), looks := true }, kinds := [], alts := [], laidByText := true, laidKinds := [.data, .data, .data, .data, .sentinel, .sentinel, .data, .pinned], laidTests := true, laidLooks := .later }
def ImageOnceUptoCardSaid : Prop := Claim7.holds Tryz.pinned (.plain (OpenSpec.upto imageOnceSpec)) imageOnceUptoCard

/-- THE SECOND FORM's CARD OF 'lazarettolaw09.ImageSame'. -/
def imageSameUptoCard : Claim7 := { stood := { row := imageSameUptoRow, standIns := [], harness := (true, "b704b1db36c1c88a15b77d00126219981e5997d6ea3f991543d9cc3f2e6827f5"), looks := true }, kinds := [], alts := [], laidByText := true, laidKinds := [.data, .data, .data, .data, .sentinel, .sentinel, .data, .pinned], laidTests := true, laidLooks := .later }
def ImageSameUptoCardSaid : Prop := Claim7.holds Tryz.pinned (.plain (OpenSpec.upto imageSameSpec)) imageSameUptoCard

/-- THE SECOND FORM's CARD OF 'lazarettolaw09.ImageSizes'. -/
def imageSizesUptoCard : Claim7 := { stood := { row := imageSizesUptoRow, standIns := [], harness := (true, "b704b1db36c1c88a15b77d00126219981e5997d6ea3f991543d9cc3f2e6827f5"), looks := true }, kinds := [], alts := [], laidByText := true, laidKinds := [.data, .data, .data, .data, .sentinel, .sentinel, .data, .pinned], laidTests := true, laidLooks := .later }
def ImageSizesUptoCardSaid : Prop := Claim7.holds Tryz.pinned (.plain (OpenSpec.upto imageSizesSpec)) imageSizesUptoCard
end Rows
end Go.Proofs.YtecoeaeonedmnaaGreatDoor
