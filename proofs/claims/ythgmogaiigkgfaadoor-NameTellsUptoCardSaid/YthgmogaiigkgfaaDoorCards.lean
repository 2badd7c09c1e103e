/-
  DERIVED. GIVEN WITH THE SEED: THE CARDS: each row of YthgmogaiigkgfaaDoorRows.lean that lists a variable, with what it lists TIED to the program's text (the seventh form; the later family's looks); each row that meets fmt, with fmt's text TOLD by the authors' own Lean function (tested against real Go, not proved from fmt's source: count such statements apart). THE CARD IS WHAT COUNTS. Prove the row's statement (the work); the ties are given (YthgmogaiigkgfaaDoorTie.lean); close each card by the builder's one call (the guide's Derived/Test/ToyasCard.lean, 'card_holds'). Laid BY PROGRAM, IN A SANDBOX (cutbox-door.mjs). By AI agents, Wed Nov 11 2026. No macro, syntax, notation, axiom, sorry.
-/
import Derived.Test.YthgmogaiigkgfaaDoorRows
import GoSem.ClaimSeven
namespace Go.Proofs.YthgmogaiigkgfaaDoor
namespace Rows

/-- THE TIED CARD OF 'lazarettolaw06.NameTells'. -/
def nameTellsCard : Claim7 := { stood := { row := nameTellsRow, standIns := [], harness := (true, "1c04a891969e9ef79b13767cf81cc58487e3fb6d212b469ba4f02956671a7ece"), looks := true }, kinds := [], alts := [], laidByText := true, laidKinds := [.data, .data, .data, .data, .sentinel, .sentinel, .pinned], laidTests := true, laidLooks := .later }
def NameTellsCardSaid : Prop := Claim7.holds Tryd.pinned (.plain (OpenSpec.ofChange nameTellsSpec)) nameTellsCard

/-- THE TIED CARD OF 'lazarettolaw06.NameBack'. -/
def nameBackCard : Claim7 := { stood := { row := nameBackRow, standIns := [], harness := (true, "1c04a891969e9ef79b13767cf81cc58487e3fb6d212b469ba4f02956671a7ece"), looks := true }, kinds := [], alts := [], laidByText := true, laidKinds := [.data, .data, .data, .data, .sentinel, .sentinel, .pinned], laidTests := true, laidLooks := .later }
def NameBackCardSaid : Prop := Claim7.holds Tryd.pinned (.plain (OpenSpec.ofChange nameBackSpec)) nameBackCard

/-- THE TIED CARD OF 'lazarettolaw06.NameOnce'. -/
def nameOnceCard : Claim7 := { stood := { row := nameOnceRow, standIns := [], harness := (true, "1c04a891969e9ef79b13767cf81cc58487e3fb6d212b469ba4f02956671a7ece"), looks := true }, kinds := [], alts := [], laidByText := true, laidKinds := [.data, .data, .data, .data, .sentinel, .sentinel, .pinned], laidTests := true, laidLooks := .later }
def NameOnceCardSaid : Prop := Claim7.holds Tryd.pinned (.plain (OpenSpec.ofChange nameOnceSpec)) nameOnceCard

/-- THE TIED CARD OF 'lazarettolaw06.NameChild'. -/
def nameChildCard : Claim7 := { stood := { row := nameChildRow, standIns := [], harness := (true, "1c04a891969e9ef79b13767cf81cc58487e3fb6d212b469ba4f02956671a7ece"), looks := true }, kinds := [], alts := [], laidByText := true, laidKinds := [.data, .data, .data, .data, .sentinel, .sentinel, .pinned], laidTests := true, laidLooks := .later }
def NameChildCardSaid : Prop := Claim7.holds Tryd.pinned (.plain (OpenSpec.ofChange nameChildSpec)) nameChildCard

/-- THE TIED CARD OF 'lazarettolaw06.NameUnder'. -/
def nameUnderCard : Claim7 := { stood := { row := nameUnderRow, standIns := [], harness := (true, "1c04a891969e9ef79b13767cf81cc58487e3fb6d212b469ba4f02956671a7ece"), looks := true }, kinds := [], alts := [], laidByText := true, laidKinds := [.data, .data, .data, .data, .sentinel, .sentinel, .pinned], laidTests := true, laidLooks := .later }
def NameUnderCardSaid : Prop := Claim7.holds Tryd.pinned (.plain (OpenSpec.ofChange nameUnderSpec)) nameUnderCard

/-- THE TIED CARD OF 'lazarettolaw06.NameOrder'. -/
def nameOrderCard : Claim7 := { stood := { row := nameOrderRow, standIns := [], harness := (true, "1c04a891969e9ef79b13767cf81cc58487e3fb6d212b469ba4f02956671a7ece"), looks := true }, kinds := [], alts := [], laidByText := true, laidKinds := [.data, .data, .data, .data, .sentinel, .sentinel, .pinned], laidTests := true, laidLooks := .later }
def NameOrderCardSaid : Prop := Claim7.holds Tryd.pinned (.plain (OpenSpec.ofChange nameOrderSpec)) nameOrderCard

/-- THE SECOND FORM's CARD OF 'lazarettolaw06.NameTells'. -/
def nameTellsUptoCard : Claim7 := { stood := { row := nameTellsUptoRow, standIns := [], harness := (true, "1c04a891969e9ef79b13767cf81cc58487e3fb6d212b469ba4f02956671a7ece"), looks := true }, kinds := [], alts := [], laidByText := true, laidKinds := [.data, .data, .data, .data, .sentinel, .sentinel, .pinned], laidTests := true, laidLooks := .later }
def NameTellsUptoCardSaid : Prop := Claim7.holds Tryd.pinned (.plain (OpenSpec.upto nameTellsSpec)) nameTellsUptoCard

/-- THE SECOND FORM's CARD OF 'lazarettolaw06.NameBack'. -/
def nameBackUptoCard : Claim7 := { stood := { row := nameBackUptoRow, standIns := [], harness := (true, "1c04a891969e9ef79b13767cf81cc58487e3fb6d212b469ba4f02956671a7ece"), looks := true }, kinds := [], alts := [], laidByText := true, laidKinds := [.data, .data, .data, .data, .sentinel, .sentinel, .pinned], laidTests := true, laidLooks := .later }
def NameBackUptoCardSaid : Prop := Claim7.holds Tryd.pinned (.plain (OpenSpec.upto nameBackSpec)) nameBackUptoCard

/-- THE SECOND FORM's CARD OF 'lazarettolaw06.NameOnce'. -/
def nameOnceUptoCard : Claim7 := { stood := { row := nameOnceUptoRow, standIns := [], harness := (true, "1c04a891969e9ef79b13767cf81cc58487e3fb6d212b469ba4f02956671a7ece"), looks := true }, kinds := [], alts := [], laidByText := true, laidKinds := [.data, .data, .data, .data, .sentinel, .sentinel, .pinned], laidTests := true, laidLooks := .later }
def NameOnceUptoCardSaid : Prop := Claim7.holds Tryd.pinned (.plain (OpenSpec.upto nameOnceSpec)) nameOnceUptoCard

/-- THE SECOND FORM's CARD OF 'lazarettolaw06.NameChild'. -/
def nameChildUptoCard : Claim7 := { stood := { row := nameChildUptoRow, standIns := [], harness := (true, "1c04a891969e9ef79b13767cf81cc58487e3fb6d212b469ba4f02956671a7ece"), looks := true }, kinds := [], alts := [], laidByText := true, laidKinds := [.data, .data, .data, .data, .sentinel, .sentinel, .pinned], laidTests := true, laidLooks := .later }
def NameChildUptoCardSaid : Prop := Claim7.holds Tryd.pinned (.plain (OpenSpec.upto nameChildSpec)) nameChildUptoCard

/-- THE SECOND FORM's CARD OF 'lazarettolaw06.NameUnder'. -/
def nameUnderUptoCard : Claim7 := { stood := { row := nameUnderUptoRow, standIns := [], harness := (true, "1c04a891969e9ef79b13767cf81cc58487e3fb6d212b469ba4f02956671a7ece"), looks := true }, kinds := [], alts := [], laidByText := true, laidKinds := [.data, .data, .data, .data, .sentinel, .sentinel, .pinned], laidTests := true, laidLooks := .later }
def NameUnderUptoCardSaid : Prop := Claim7.holds Tryd.pinned (.plain (OpenSpec.upto nameUnderSpec)) nameUnderUptoCard

/-- THE SECOND FORM's CARD OF 'lazarettolaw06.NameOrder'. -/
def nameOrderUptoCard : Claim7 := { stood := { row := nameOrderUptoRow, standIns := [], harness := (true, "1c04a891969e9ef79b13767cf81cc58487e3fb6d212b469ba4f02956671a7ece"), looks := true }, kinds := [], alts := [], laidByText := true, laidKinds := [.data, .data, .data, .data, .sentinel, .sentinel, .pinned], laidTests := true, laidLooks := .later }
def NameOrderUptoCardSaid : Prop := Claim7.holds Tryd.pinned (.plain (OpenSpec.upto nameOrderSpec)) nameOrderUptoCard
end Rows
end Go.Proofs.YthgmogaiigkgfaaDoor
