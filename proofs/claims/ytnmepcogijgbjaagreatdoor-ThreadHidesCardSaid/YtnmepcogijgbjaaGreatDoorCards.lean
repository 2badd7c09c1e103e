/-
  DERIVED. GIVEN WITH THE SEED: THE CARDS: each row of YtnmepcogijgbjaaGreatDoorRows.lean that lists a variable, with what it lists TIED to the program's text (the seventh form; the later family's looks); each row that meets fmt, with fmt's text TOLD by the authors' own Lean function (tested against real Go, not proved from fmt's source: count such statements apart). THE CARD IS WHAT COUNTS. Prove the row's statement (the work); the ties are given (YtnmepcogijgbjaaGreatDoorTie.lean); close each card by the builder's one call (the guide's Derived/Test/ToyasCard.lean, 'card_holds'). Laid BY PROGRAM, IN A SANDBOX (cutbox-door.mjs). By AI agents, Wed Nov 11 2026. No macro, syntax, notation, axiom, sorry.
-/
import Derived.Test.YtnmepcogijgbjaaGreatDoorRows
import GoSem.ClaimSeven
namespace Go.Proofs.YtnmepcogijgbjaaGreatDoor
namespace Rows

/-- THE TIED CARD OF 'lazarettolaw17.ThreadDue'. -/
def threadDueCard : Claim7 := { stood := { row := threadDueRow, standIns := [], harness := (true, "d9dce8dfce9408cab90c2d0d2e970ae6cc00577da1b3fb2b8003c71a0578f9a1"), looks := true }, kinds := [], alts := [], laidByText := true, laidKinds := [.data, .data, .data, .data, .sentinel, .sentinel, .pinned], laidTests := true, laidLooks := .later }
def ThreadDueCardSaid : Prop := Claim7.holds Tryz.pinned (.plain (OpenSpec.ofChange threadDueSpec)) threadDueCard

/-- THE TIED CARD OF 'lazarettolaw17.ThreadHides'. -/
def threadHidesCard : Claim7 := { stood := { row := threadHidesRow, standIns := [], harness := (true, "d9dce8dfce9408cab90c2d0d2e970ae6cc00577da1b3fb2b8003c71a0578f9a1"), looks := true }, kinds := [], alts := [], laidByText := true, laidKinds := [.data, .data, .data, .data, .sentinel, .sentinel, .pinned], laidTests := true, laidLooks := .later }
def ThreadHidesCardSaid : Prop := Claim7.holds Tryz.pinned (.plain (OpenSpec.ofChange threadHidesSpec)) threadHidesCard

/-- THE TIED CARD OF 'lazarettolaw17.ThreadNames'. -/
def threadNamesCard : Claim7 := { stood := { row := threadNamesRow, standIns := [], harness := (true, "d9dce8dfce9408cab90c2d0d2e970ae6cc00577da1b3fb2b8003c71a0578f9a1"), looks := true }, kinds := [], alts := [], laidByText := true, laidKinds := [.data, .data, .data, .data, .sentinel, .sentinel, .pinned], laidTests := true, laidLooks := .later }
def ThreadNamesCardSaid : Prop := Claim7.holds Tryz.pinned (.plain (OpenSpec.ofChange threadNamesSpec)) threadNamesCard

/-- THE SECOND FORM's CARD OF 'lazarettolaw17.ThreadDue'. -/
def threadDueUptoCard : Claim7 := { stood := { row := threadDueUptoRow, standIns := [], harness := (true, "d9dce8dfce9408cab90c2d0d2e970ae6cc00577da1b3fb2b8003c71a0578f9a1"), looks := true }, kinds := [], alts := [], laidByText := true, laidKinds := [.data, .data, .data, .data, .sentinel, .sentinel, .pinned], laidTests := true, laidLooks := .later }
def ThreadDueUptoCardSaid : Prop := Claim7.holds Tryz.pinned (.plain (OpenSpec.upto threadDueSpec)) threadDueUptoCard

/-- THE SECOND FORM's CARD OF 'lazarettolaw17.ThreadHides'. -/
def threadHidesUptoCard : Claim7 := { stood := { row := threadHidesUptoRow, standIns := [], harness := (true, "d9dce8dfce9408cab90c2d0d2e970ae6cc00577da1b3fb2b8003c71a0578f9a1"), looks := true }, kinds := [], alts := [], laidByText := true, laidKinds := [.data, .data, .data, .data, .sentinel, .sentinel, .pinned], laidTests := true, laidLooks := .later }
def ThreadHidesUptoCardSaid : Prop := Claim7.holds Tryz.pinned (.plain (OpenSpec.upto threadHidesSpec)) threadHidesUptoCard

/-- THE SECOND FORM's CARD OF 'lazarettolaw17.ThreadNames'. -/
def threadNamesUptoCard : Claim7 := { stood := { row := threadNamesUptoRow, standIns := [], harness := (true, "d9dce8dfce9408cab90c2d0d2e970ae6cc00577da1b3fb2b8003c71a0578f9a1"), looks := true }, kinds := [], alts := [], laidByText := true, laidKinds := [.data, .data, .data, .data, .sentinel, .sentinel, .pinned], laidTests := true, laidLooks := .later }
def ThreadNamesUptoCardSaid : Prop := Claim7.holds Tryz.pinned (.plain (OpenSpec.upto threadNamesSpec)) threadNamesUptoCard
end Rows
end Go.Proofs.YtnmepcogijgbjaaGreatDoor
