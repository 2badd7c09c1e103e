/-
  DERIVED. GIVEN WITH THE SEED: THE CARDS: each row of YtdpmilffadalkaaDoorRows.lean that lists a variable, with what it lists TIED to the program's text (the seventh form; the later family's looks); each row that meets fmt, with fmt's text TOLD by the authors' own Lean function (tested against real Go, not proved from fmt's source: count such statements apart). THE CARD IS WHAT COUNTS. Prove the row's statement (the work); the ties are given (YtdpmilffadalkaaDoorTie.lean); close each card by the builder's one call (the guide's Derived/Test/ToyasCard.lean, 'card_holds'). Laid BY PROGRAM, IN A SANDBOX (cutbox-door.mjs). By AI agents, Wed Nov 11 2026. No macro, syntax, notation, axiom, sorry.
-/
import Derived.Test.YtdpmilffadalkaaDoorRows
import GoSem.ClaimSeven
namespace Go.Proofs.YtdpmilffadalkaaDoor
namespace Rows

/-- THE TIED CARD OF 'lazarettolaw12.MvarOrder'. -/
def mvarOrderCard : Claim7 := { stood := { row := mvarOrderRow, standIns := [], harness := (true, "faedd7436574e8998b66b23200da38b3871d952932c96ee9de16555ea74aac55"), looks := true }, kinds := [], alts := [], laidByText := true, laidKinds := [.data, .data, .data, .data, .sentinel, .sentinel, .pinned], laidTests := true, laidLooks := .later }
def MvarOrderCardSaid : Prop := Claim7.holds Tryd.pinned (.plain (OpenSpec.ofChange mvarOrderSpec)) mvarOrderCard

/-- THE TIED CARD OF 'lazarettolaw12.MvarCounts'. -/
def mvarCountsCard : Claim7 := { stood := { row := mvarCountsRow, standIns := [], harness := (true, "faedd7436574e8998b66b23200da38b3871d952932c96ee9de16555ea74aac55"), looks := true }, kinds := [], alts := [], laidByText := true, laidKinds := [.data, .data, .data, .data, .sentinel, .sentinel, .pinned], laidTests := true, laidLooks := .later }
def MvarCountsCardSaid : Prop := Claim7.holds Tryd.pinned (.plain (OpenSpec.ofChange mvarCountsSpec)) mvarCountsCard

/-- THE TIED CARD OF 'lazarettolaw12.MvarLeaves'. -/
def mvarLeavesCard : Claim7 := { stood := { row := mvarLeavesRow, standIns := [], harness := (true, "faedd7436574e8998b66b23200da38b3871d952932c96ee9de16555ea74aac55"), looks := true }, kinds := [], alts := [], laidByText := true, laidKinds := [.data, .data, .data, .data, .sentinel, .sentinel, .pinned], laidTests := true, laidLooks := .later }
def MvarLeavesCardSaid : Prop := Claim7.holds Tryd.pinned (.plain (OpenSpec.ofChange mvarLeavesSpec)) mvarLeavesCard

/-- THE TIED CARD OF 'lazarettolaw12.MvarKeeps'. -/
def mvarKeepsCard : Claim7 := { stood := { row := mvarKeepsRow, standIns := [], harness := (true, "faedd7436574e8998b66b23200da38b3871d952932c96ee9de16555ea74aac55"), looks := true }, kinds := [], alts := [], laidByText := true, laidKinds := [.data, .data, .data, .data, .sentinel, .sentinel, .pinned], laidTests := true, laidLooks := .later }
def MvarKeepsCardSaid : Prop := Claim7.holds Tryd.pinned (.plain (OpenSpec.ofChange mvarKeepsSpec)) mvarKeepsCard

/-- THE SECOND FORM's CARD OF 'lazarettolaw12.MvarOrder'. -/
def mvarOrderUptoCard : Claim7 := { stood := { row := mvarOrderUptoRow, standIns := [], harness := (true, "faedd7436574e8998b66b23200da38b3871d952932c96ee9de16555ea74aac55"), looks := true }, kinds := [], alts := [], laidByText := true, laidKinds := [.data, .data, .data, .data, .sentinel, .sentinel, .pinned], laidTests := true, laidLooks := .later }
def MvarOrderUptoCardSaid : Prop := Claim7.holds Tryd.pinned (.plain (OpenSpec.upto mvarOrderSpec)) mvarOrderUptoCard

/-- THE SECOND FORM's CARD OF 'lazarettolaw12.MvarCounts'. -/
def mvarCountsUptoCard : Claim7 := { stood := { row := mvarCountsUptoRow, standIns := [], harness := (true, "faedd7436574e8998b66b23200da38b3871d952932c96ee9de16555ea74aac55"), looks := true }, kinds := [], alts := [], laidByText := true, laidKinds := [.data, .data, .data, .data, .sentinel, .sentinel, .pinned], laidTests := true, laidLooks := .later }
def MvarCountsUptoCardSaid : Prop := Claim7.holds Tryd.pinned (.plain (OpenSpec.upto mvarCountsSpec)) mvarCountsUptoCard

/-- THE SECOND FORM's CARD OF 'lazarettolaw12.MvarLeaves'. -/
def mvarLeavesUptoCard : Claim7 := { stood := { row := mvarLeavesUptoRow, standIns := [], harness := (true, "faedd7436574e8998b66b23200da38b3871d952932c96ee9de16555ea74aac55"), looks := true }, kinds := [], alts := [], laidByText := true, laidKinds := [.data, .data, .data, .data, .sentinel, .sentinel, .pinned], laidTests := true, laidLooks := .later }
def MvarLeavesUptoCardSaid : Prop := Claim7.holds Tryd.pinned (.plain (OpenSpec.upto mvarLeavesSpec)) mvarLeavesUptoCard

/-- THE SECOND FORM's CARD OF 'lazarettolaw12.MvarKeeps'. -/
def mvarKeepsUptoCard : Claim7 := { stood := { row := mvarKeepsUptoRow, standIns := [], harness := (true, "faedd7436574e8998b66b23200da38b3871d952932c96ee9de16555ea74aac55"), looks := true }, kinds := [], alts := [], laidByText := true, laidKinds := [.data, .data, .data, .data, .sentinel, .sentinel, .pinned], laidTests := true, laidLooks := .later }
def MvarKeepsUptoCardSaid : Prop := Claim7.holds Tryd.pinned (.plain (OpenSpec.upto mvarKeepsSpec)) mvarKeepsUptoCard
end Rows
end Go.Proofs.YtdpmilffadalkaaDoor
