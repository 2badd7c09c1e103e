/-
  DERIVED. GIVEN WITH THE SEED: THE CARDS: each row of YtmaambggjdjodaaDoorRows.lean that lists a variable, with what it lists TIED to the program's text (the seventh form; the later family's looks); each row that meets fmt, with fmt's text TOLD by the authors' own Lean function (tested against real Go, not proved from fmt's source: count such statements apart). THE CARD IS WHAT COUNTS. Prove the row's statement (the work); the ties are given (YtmaambggjdjodaaDoorTie.lean); close each card by the builder's one call (the guide's Derived/Test/ToyasCard.lean, 'card_holds'). Laid BY PROGRAM, IN A SANDBOX (cutbox-door.mjs). By AI agents, Wed Nov 11 2026. No macro, syntax, notation, axiom, sorry.
-/
import Derived.Test.YtmaambggjdjodaaDoorRows
import GoSem.ClaimSeven
namespace Go.Proofs.YtmaambggjdjodaaDoor
namespace Rows

/-- THE TIED CARD OF 'lazarettolaw05.NumTells'. -/
def numTellsCard : Claim7 := { stood := { row := numTellsRow, standIns := [], harness := (true, "e7e01bf5c6d6c4376aef2d920164cf37b3238df7f85c3691219368e84e216021"), looks := true }, kinds := [], alts := [], laidByText := true, laidKinds := [.data, .data, .data, .sentinel, .sentinel], laidTests := true, laidLooks := .later }
def NumTellsCardSaid : Prop := Claim7.holds Tryd.pinned (.plain (OpenSpec.ofChange numTellsSpec)) numTellsCard

/-- THE TIED CARD OF 'lazarettolaw05.NumWraps'. -/
def numWrapsCard : Claim7 := { stood := { row := numWrapsRow, standIns := [], harness := (true, "e7e01bf5c6d6c4376aef2d920164cf37b3238df7f85c3691219368e84e216021"), looks := true }, kinds := [], alts := [], laidByText := true, laidKinds := [.data, .data, .data, .sentinel, .sentinel], laidTests := true, laidLooks := .later }
def NumWrapsCardSaid : Prop := Claim7.holds Tryd.pinned (.plain (OpenSpec.ofChange numWrapsSpec)) numWrapsCard

/-- THE TIED CARD OF 'lazarettolaw05.NumDivides'. -/
def numDividesCard : Claim7 := { stood := { row := numDividesRow, standIns := [], harness := (true, "e7e01bf5c6d6c4376aef2d920164cf37b3238df7f85c3691219368e84e216021"), looks := true }, kinds := [], alts := [], laidByText := true, laidKinds := [.data, .data, .data, .sentinel, .sentinel], laidTests := true, laidLooks := .later }
def NumDividesCardSaid : Prop := Claim7.holds Tryd.pinned (.plain (OpenSpec.ofChange numDividesSpec)) numDividesCard

/-- THE TIED CARD OF 'lazarettolaw05.NumOrders'. -/
def numOrdersCard : Claim7 := { stood := { row := numOrdersRow, standIns := [], harness := (true, "e7e01bf5c6d6c4376aef2d920164cf37b3238df7f85c3691219368e84e216021"), looks := true }, kinds := [], alts := [], laidByText := true, laidKinds := [.data, .data, .data, .sentinel, .sentinel], laidTests := true, laidLooks := .later }
def NumOrdersCardSaid : Prop := Claim7.holds Tryd.pinned (.plain (OpenSpec.ofChange numOrdersSpec)) numOrdersCard

/-- THE TIED CARD OF 'lazarettolaw05.NumBack'. -/
def numBackCard : Claim7 := { stood := { row := numBackRow, standIns := [], harness := (true, "e7e01bf5c6d6c4376aef2d920164cf37b3238df7f85c3691219368e84e216021"), looks := true }, kinds := [], alts := [], laidByText := true, laidKinds := [.data, .data, .data, .sentinel, .sentinel], laidTests := true, laidLooks := .later }
def NumBackCardSaid : Prop := Claim7.holds Tryd.pinned (.plain (OpenSpec.ofChange numBackSpec)) numBackCard

/-- THE TIED CARD OF 'lazarettolaw05.NumOnce'. -/
def numOnceCard : Claim7 := { stood := { row := numOnceRow, standIns := [], harness := (true, "e7e01bf5c6d6c4376aef2d920164cf37b3238df7f85c3691219368e84e216021"), looks := true }, kinds := [], alts := [], laidByText := true, laidKinds := [.data, .data, .data, .sentinel, .sentinel], laidTests := true, laidLooks := .later }
def NumOnceCardSaid : Prop := Claim7.holds Tryd.pinned (.plain (OpenSpec.ofChange numOnceSpec)) numOnceCard

/-- THE TIED CARD OF 'lazarettolaw05.NumOther'. -/
def numOtherCard : Claim7 := { stood := { row := numOtherRow, standIns := [], harness := (true, "e7e01bf5c6d6c4376aef2d920164cf37b3238df7f85c3691219368e84e216021"), looks := true }, kinds := [], alts := [], laidByText := true, laidKinds := [.data, .data, .data, .sentinel, .sentinel], laidTests := true, laidLooks := .later }
def NumOtherCardSaid : Prop := Claim7.holds Tryd.pinned (.plain (OpenSpec.ofChange numOtherSpec)) numOtherCard

/-- THE SECOND FORM's CARD OF 'lazarettolaw05.NumTells'. -/
def numTellsUptoCard : Claim7 := { stood := { row := numTellsUptoRow, standIns := [], harness := (true, "e7e01bf5c6d6c4376aef2d920164cf37b3238df7f85c3691219368e84e216021"), looks := true }, kinds := [], alts := [], laidByText := true, laidKinds := [.data, .data, .data, .sentinel, .sentinel], laidTests := true, laidLooks := .later }
def NumTellsUptoCardSaid : Prop := Claim7.holds Tryd.pinned (.plain (OpenSpec.upto numTellsSpec)) numTellsUptoCard

/-- THE SECOND FORM's CARD OF 'lazarettolaw05.NumWraps'. -/
def numWrapsUptoCard : Claim7 := { stood := { row := numWrapsUptoRow, standIns := [], harness := (true, "e7e01bf5c6d6c4376aef2d920164cf37b3238df7f85c3691219368e84e216021"), looks := true }, kinds := [], alts := [], laidByText := true, laidKinds := [.data, .data, .data, .sentinel, .sentinel], laidTests := true, laidLooks := .later }
def NumWrapsUptoCardSaid : Prop := Claim7.holds Tryd.pinned (.plain (OpenSpec.upto numWrapsSpec)) numWrapsUptoCard

/-- THE SECOND FORM's CARD OF 'lazarettolaw05.NumDivides'. -/
def numDividesUptoCard : Claim7 := { stood := { row := numDividesUptoRow, standIns := [], harness := (true, "e7e01bf5c6d6c4376aef2d920164cf37b3238df7f85c3691219368e84e216021"), looks := true }, kinds := [], alts := [], laidByText := true, laidKinds := [.data, .data, .data, .sentinel, .sentinel], laidTests := true, laidLooks := .later }
def NumDividesUptoCardSaid : Prop := Claim7.holds Tryd.pinned (.plain (OpenSpec.upto numDividesSpec)) numDividesUptoCard

/-- THE SECOND FORM's CARD OF 'lazarettolaw05.NumOrders'. -/
def numOrdersUptoCard : Claim7 := { stood := { row := numOrdersUptoRow, standIns := [], harness := (true, "e7e01bf5c6d6c4376aef2d920164cf37b3238df7f85c3691219368e84e216021"), looks := true }, kinds := [], alts := [], laidByText := true, laidKinds := [.data, .data, .data, .sentinel, .sentinel], laidTests := true, laidLooks := .later }
def NumOrdersUptoCardSaid : Prop := Claim7.holds Tryd.pinned (.plain (OpenSpec.upto numOrdersSpec)) numOrdersUptoCard

/-- THE SECOND FORM's CARD OF 'lazarettolaw05.NumBack'. -/
def numBackUptoCard : Claim7 := { stood := { row := numBackUptoRow, standIns := [], harness := (true, "e7e01bf5c6d6c4376aef2d920164cf37b3238df7f85c3691219368e84e216021"), looks := true }, kinds := [], alts := [], laidByText := true, laidKinds := [.data, .data, .data, .sentinel, .sentinel], laidTests := true, laidLooks := .later }
def NumBackUptoCardSaid : Prop := Claim7.holds Tryd.pinned (.plain (OpenSpec.upto numBackSpec)) numBackUptoCard

/-- THE SECOND FORM's CARD OF 'lazarettolaw05.NumOnce'. -/
def numOnceUptoCard : Claim7 := { stood := { row := numOnceUptoRow, standIns := [], harness := (true, "e7e01bf5c6d6c4376aef2d920164cf37b3238df7f85c3691219368e84e216021"), looks := true }, kinds := [], alts := [], laidByText := true, laidKinds := [.data, .data, .data, .sentinel, .sentinel], laidTests := true, laidLooks := .later }
def NumOnceUptoCardSaid : Prop := Claim7.holds Tryd.pinned (.plain (OpenSpec.upto numOnceSpec)) numOnceUptoCard

/-- THE SECOND FORM's CARD OF 'lazarettolaw05.NumOther'. -/
def numOtherUptoCard : Claim7 := { stood := { row := numOtherUptoRow, standIns := [], harness := (true, "e7e01bf5c6d6c4376aef2d920164cf37b3238df7f85c3691219368e84e216021"), looks := true }, kinds := [], alts := [], laidByText := true, laidKinds := [.data, .data, .data, .sentinel, .sentinel], laidTests := true, laidLooks := .later }
def NumOtherUptoCardSaid : Prop := Claim7.holds Tryd.pinned (.plain (OpenSpec.upto numOtherSpec)) numOtherUptoCard
end Rows
end Go.Proofs.YtmaambggjdjodaaDoor
