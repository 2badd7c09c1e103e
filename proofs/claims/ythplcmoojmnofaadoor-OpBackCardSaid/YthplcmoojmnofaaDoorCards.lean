/-
  DERIVED. GIVEN WITH THE SEED: THE CARDS: each row of YthplcmoojmnofaaDoorRows.lean that lists a variable, with what it lists TIED to the program's text (the seventh form; the later family's looks); each row that meets fmt, with fmt's text TOLD by the authors' own Lean function (tested against real Go, not proved from fmt's source: count such statements apart). THE CARD IS WHAT COUNTS. Prove the row's statement (the work); the ties are given (YthplcmoojmnofaaDoorTie.lean); close each card by the builder's one call (the guide's Derived/Test/ToyasCard.lean, 'card_holds'). Laid BY PROGRAM, IN A SANDBOX (cutbox-door.mjs). By AI agents, Wed Nov 11 2026. No macro, syntax, notation, axiom, sorry.
-/
import Derived.Test.YthplcmoojmnofaaDoorRows
import GoSem.ClaimSeven
namespace Go.Proofs.YthplcmoojmnofaaDoor
namespace Rows

/-- THE TIED CARD OF 'lazarettolaw08.OpBack'. -/
def opBackCard : Claim7 := { stood := { row := opBackRow, standIns := [], harness := (true, "89b36cbdae90d98df1950cb07e42f5e27e8c5709b68b50af0ac93708f5b29fc8"), looks := true }, kinds := [], alts := [], laidByText := true, laidKinds := [.data, .data, .data, .sentinel, .sentinel, .data], laidTests := true, laidLooks := .later }
def OpBackCardSaid : Prop := Claim7.holds Tryd.pinned (.plain (OpenSpec.ofChange opBackSpec)) opBackCard

/-- THE TIED CARD OF 'lazarettolaw08.OpOnce'. -/
def opOnceCard : Claim7 := { stood := { row := opOnceRow, standIns := [], harness := (true, "89b36cbdae90d98df1950cb07e42f5e27e8c5709b68b50af0ac93708f5b29fc8"), looks := true }, kinds := [], alts := [], laidByText := true, laidKinds := [.data, .data, .data, .sentinel, .sentinel, .data], laidTests := true, laidLooks := .later }
def OpOnceCardSaid : Prop := Claim7.holds Tryd.pinned (.plain (OpenSpec.ofChange opOnceSpec)) opOnceCard

/-- THE TIED CARD OF 'lazarettolaw08.OpRight'. -/
def opRightCard : Claim7 := { stood := { row := opRightRow, standIns := [], harness := (true, "89b36cbdae90d98df1950cb07e42f5e27e8c5709b68b50af0ac93708f5b29fc8"), looks := true }, kinds := [], alts := [], laidByText := true, laidKinds := [.data, .data, .data, .sentinel, .sentinel, .data], laidTests := true, laidLooks := .later }
def OpRightCardSaid : Prop := Claim7.holds Tryd.pinned (.plain (OpenSpec.ofChange opRightSpec)) opRightCard

/-- THE TIED CARD OF 'lazarettolaw08.OpNames'. -/
def opNamesCard : Claim7 := { stood := { row := opNamesRow, standIns := [], harness := (true, "89b36cbdae90d98df1950cb07e42f5e27e8c5709b68b50af0ac93708f5b29fc8"), looks := true }, kinds := [], alts := [], laidByText := true, laidKinds := [.data, .data, .data, .sentinel, .sentinel, .data], laidTests := true, laidLooks := .later }
def OpNamesCardSaid : Prop := Claim7.holds Tryd.pinned (.plain (OpenSpec.ofChange opNamesSpec)) opNamesCard

/-- THE TIED CARD OF 'lazarettolaw08.OpCounts'. -/
def opCountsCard : Claim7 := { stood := { row := opCountsRow, standIns := [], harness := (true, "89b36cbdae90d98df1950cb07e42f5e27e8c5709b68b50af0ac93708f5b29fc8"), looks := true }, kinds := [], alts := [], laidByText := true, laidKinds := [.data, .data, .data, .sentinel, .sentinel, .data], laidTests := true, laidLooks := .later }
def OpCountsCardSaid : Prop := Claim7.holds Tryd.pinned (.plain (OpenSpec.ofChange opCountsSpec)) opCountsCard

/-- THE SECOND FORM's CARD OF 'lazarettolaw08.OpBack'. -/
def opBackUptoCard : Claim7 := { stood := { row := opBackUptoRow, standIns := [], harness := (true, "89b36cbdae90d98df1950cb07e42f5e27e8c5709b68b50af0ac93708f5b29fc8"), looks := true }, kinds := [], alts := [], laidByText := true, laidKinds := [.data, .data, .data, .sentinel, .sentinel, .data], laidTests := true, laidLooks := .later }
def OpBackUptoCardSaid : Prop := Claim7.holds Tryd.pinned (.plain (OpenSpec.upto opBackSpec)) opBackUptoCard

/-- THE SECOND FORM's CARD OF 'lazarettolaw08.OpOnce'. -/
def opOnceUptoCard : Claim7 := { stood := { row := opOnceUptoRow, standIns := [], harness := (true, "89b36cbdae90d98df1950cb07e42f5e27e8c5709b68b50af0ac93708f5b29fc8"), looks := true }, kinds := [], alts := [], laidByText := true, laidKinds := [.data, .data, .data, .sentinel, .sentinel, .data], laidTests := true, laidLooks := .later }
def OpOnceUptoCardSaid : Prop := Claim7.holds Tryd.pinned (.plain (OpenSpec.upto opOnceSpec)) opOnceUptoCard

/-- THE SECOND FORM's CARD OF 'lazarettolaw08.OpRight'. -/
def opRightUptoCard : Claim7 := { stood := { row := opRightUptoRow, standIns := [], harness := (true, "89b36cbdae90d98df1950cb07e42f5e27e8c5709b68b50af0ac93708f5b29fc8"), looks := true }, kinds := [], alts := [], laidByText := true, laidKinds := [.data, .data, .data, .sentinel, .sentinel, .data], laidTests := true, laidLooks := .later }
def OpRightUptoCardSaid : Prop := Claim7.holds Tryd.pinned (.plain (OpenSpec.upto opRightSpec)) opRightUptoCard

/-- THE SECOND FORM's CARD OF 'lazarettolaw08.OpNames'. -/
def opNamesUptoCard : Claim7 := { stood := { row := opNamesUptoRow, standIns := [], harness := (true, "89b36cbdae90d98df1950cb07e42f5e27e8c5709b68b50af0ac93708f5b29fc8"), looks := true }, kinds := [], alts := [], laidByText := true, laidKinds := [.data, .data, .data, .sentinel, .sentinel, .data], laidTests := true, laidLooks := .later }
def OpNamesUptoCardSaid : Prop := Claim7.holds Tryd.pinned (.plain (OpenSpec.upto opNamesSpec)) opNamesUptoCard

/-- THE SECOND FORM's CARD OF 'lazarettolaw08.OpCounts'. -/
def opCountsUptoCard : Claim7 := { stood := { row := opCountsUptoRow, standIns := [], harness := (true, "89b36cbdae90d98df1950cb07e42f5e27e8c5709b68b50af0ac93708f5b29fc8"), looks := true }, kinds := [], alts := [], laidByText := true, laidKinds := [.data, .data, .data, .sentinel, .sentinel, .data], laidTests := true, laidLooks := .later }
def OpCountsUptoCardSaid : Prop := Claim7.holds Tryd.pinned (.plain (OpenSpec.upto opCountsSpec)) opCountsUptoCard
end Rows
end Go.Proofs.YthplcmoojmnofaaDoor
