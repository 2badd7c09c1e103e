/-
  DERIVED. GIVEN WITH THE SEED: THE CARDS: each row of YtiggallcoocdaaaGreatDoorRows.lean that lists a variable, with what it lists TIED to the program's text (the seventh form; the later family's looks); each row that meets fmt, with fmt's text TOLD by the authors' own Lean function (tested against real Go, not proved from fmt's source: count such statements apart). THE CARD IS WHAT COUNTS. Prove the row's statement (the work); the ties are given (YtiggallcoocdaaaGreatDoorTie.lean); close each card by the builder's one call (the guide's Derived/Test/ToyasCard.lean, 'card_holds'). Laid BY PROGRAM, IN A SANDBOX (cutbox-door.mjs). By AI agents, Wed Nov 11 2026. No macro, syntax, notation, axiom, sorry.
-/
import Derived.Test.YtiggallcoocdaaaGreatDoorRows
import GoSem.ClaimSeven
namespace Go.Proofs.YtiggallcoocdaaaGreatDoor
namespace Rows

/-- THE TIED CARD OF 'lazarettolaw11.AsmPlaces'. -/
def asmPlacesCard : Claim7 := { stood := { row := asmPlacesRow, standIns := [], harness := (true, "162c1ef99eeef6a80a72748edcefe581ef169bf8af713ed90701c1a4d2489bfc"), looks := true }, kinds := [], alts := [], laidByText := true, laidKinds := [.data, .data, .data, .data, .sentinel, .sentinel, .data, .data, .pinned], laidTests := true, laidLooks := .later }
def AsmPlacesCardSaid : Prop := Claim7.holds Tryz.pinned (.plain (OpenSpec.ofChange asmPlacesSpec)) asmPlacesCard

/-- THE TIED CARD OF 'lazarettolaw11.AsmLines'. -/
def asmLinesCard : Claim7 := { stood := { row := asmLinesRow, standIns := [], harness := (true, "162c1ef99eeef6a80a72748edcefe581ef169bf8af713ed90701c1a4d2489bfc"), looks := true }, kinds := [], alts := [], laidByText := true, laidKinds := [.data, .data, .data, .data, .sentinel, .sentinel, .data, .data, .pinned], laidTests := true, laidLooks := .later }
def AsmLinesCardSaid : Prop := Claim7.holds Tryz.pinned (.plain (OpenSpec.ofChange asmLinesSpec)) asmLinesCard

/-- THE TIED CARD OF 'lazarettolaw11.AsmBack'. -/
def asmBackCard : Claim7 := { stood := { row := asmBackRow, standIns := [], harness := (true, "162c1ef99eeef6a80a72748edcefe581ef169bf8af713ed90701c1a4d2489bfc"), looks := true }, kinds := [], alts := [], laidByText := true, laidKinds := [.data, .data, .data, .data, .sentinel, .sentinel, .data, .data, .pinned], laidTests := true, laidLooks := .later }
def AsmBackCardSaid : Prop := Claim7.holds Tryz.pinned (.plain (OpenSpec.ofChange asmBackSpec)) asmBackCard

/-- THE TIED CARD OF 'lazarettolaw11.AsmOnce'. -/
def asmOnceCard : Claim7 := { stood := { row := asmOnceRow, standIns := [], harness := (true, "162c1ef99eeef6a80a72748edcefe581ef169bf8af713ed90701c1a4d2489bfc"), looks := true }, kinds := [], alts := [], laidByText := true, laidKinds := [.data, .data, .data, .data, .sentinel, .sentinel, .data, .data, .pinned], laidTests := true, laidLooks := .later }
def AsmOnceCardSaid : Prop := Claim7.holds Tryz.pinned (.plain (OpenSpec.ofChange asmOnceSpec)) asmOnceCard

/-- THE TIED CARD OF 'lazarettolaw11.AsmJoins'. -/
def asmJoinsCard : Claim7 := { stood := { row := asmJoinsRow, standIns := [], harness := (true, "162c1ef99eeef6a80a72748edcefe581ef169bf8af713ed90701c1a4d2489bfc"), looks := true }, kinds := [], alts := [], laidByText := true, laidKinds := [.data, .data, .data, .data, .sentinel, .sentinel, .data, .data, .pinned], laidTests := true, laidLooks := .later }
def AsmJoinsCardSaid : Prop := Claim7.holds Tryz.pinned (.plain (OpenSpec.ofChange asmJoinsSpec)) asmJoinsCard

/-- THE SECOND FORM's CARD OF 'lazarettolaw11.AsmPlaces'. -/
def asmPlacesUptoCard : Claim7 := { stood := { row := asmPlacesUptoRow, standIns := [], harness := (true, "162c1ef99eeef6a80a72748edcefe581ef169bf8af713ed90701c1a4d2489bfc"), looks := true }, kinds := [], alts := [], laidByText := true, laidKinds := [.data, .data, .data, .data, .sentinel, .sentinel, .data, .data, .pinned], laidTests := true, laidLooks := .later }
def AsmPlacesUptoCardSaid : Prop := Claim7.holds Tryz.pinned (.plain (OpenSpec.upto asmPlacesSpec)) asmPlacesUptoCard

/-- THE SECOND FORM's CARD OF 'lazarettolaw11.AsmLines'. -/
def asmLinesUptoCard : Claim7 := { stood := { row := asmLinesUptoRow, standIns := [], harness := (true, "162c1ef99eeef6a80a72748edcefe581ef169bf8af713ed90701c1a4d2489bfc"), looks := true }, kinds := [], alts := [], laidByText := true, laidKinds := [.data, .data, .data, .data, .sentinel, .sentinel, .data, .data, .pinned], laidTests := true, laidLooks := .later }
def AsmLinesUptoCardSaid : Prop := Claim7.holds Tryz.pinned (.plain (OpenSpec.upto asmLinesSpec)) asmLinesUptoCard

/-- THE SECOND FORM's CARD OF 'lazarettolaw11.AsmBack'. -/
def asmBackUptoCard : Claim7 := { stood := { row := asmBackUptoRow, standIns := [], harness := (true, "162c1ef99eeef6a80a72748edcefe581ef169bf8af713ed90701c1a4d2489bfc"), looks := true }, kinds := [], alts := [], laidByText := true, laidKinds := [.data, .data, .data, .data, .sentinel, .sentinel, .data, .data, .pinned], laidTests := true, laidLooks := .later }
def AsmBackUptoCardSaid : Prop := Claim7.holds Tryz.pinned (.plain (OpenSpec.upto asmBackSpec)) asmBackUptoCard

/-- THE SECOND FORM's CARD OF 'lazarettolaw11.AsmOnce'. -/
def asmOnceUptoCard : Claim7 := { stood := { row := asmOnceUptoRow, standIns := [], harness := (true, "162c1ef99eeef6a80a72748edcefe581ef169bf8af713ed90701c1a4d2489bfc"), looks := true }, kinds := [], alts := [], laidByText := true, laidKinds := [.data, .data, .data, .data, .sentinel, .sentinel, .data, .data, .pinned], laidTests := true, laidLooks := .later }
def AsmOnceUptoCardSaid : Prop := Claim7.holds Tryz.pinned (.plain (OpenSpec.upto asmOnceSpec)) asmOnceUptoCard

/-- THE SECOND FORM's CARD OF 'lazarettolaw11.AsmJoins'. -/
def asmJoinsUptoCard : Claim7 := { stood := { row := asmJoinsUptoRow, standIns := [], harness := (true, "162c1ef99eeef6a80a72748edcefe581ef169bf8af713ed90701c1a4d2489bfc"), looks := true }, kinds := [], alts := [], laidByText := true, laidKinds := [.data, .data, .data, .data, .sentinel, .sentinel, .data, .data, .pinned], laidTests := true, laidLooks := .later }
def AsmJoinsUptoCardSaid : Prop := Claim7.holds Tryz.pinned (.plain (OpenSpec.upto asmJoinsSpec)) asmJoinsUptoCard
end Rows
end Go.Proofs.YtiggallcoocdaaaGreatDoor
