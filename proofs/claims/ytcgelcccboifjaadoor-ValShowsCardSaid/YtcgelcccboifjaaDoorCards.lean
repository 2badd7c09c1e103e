/-
  DERIVED. GIVEN WITH THE SEED: THE CARDS: each row of YtcgelcccboifjaaDoorRows.lean that lists a variable, with what it lists TIED to the program's text (the seventh form; the later family's looks); each row that meets fmt, with fmt's text TOLD by the authors' own Lean function (tested against real Go, not proved from fmt's source: count such statements apart). THE CARD IS WHAT COUNTS. Prove the row's statement (the work); the ties are given (YtcgelcccboifjaaDoorTie.lean); close each card by the builder's one call (the guide's Derived/Test/ToyasCard.lean, 'card_holds'). Laid BY PROGRAM, IN A SANDBOX (cutbox-door.mjs). By AI agents, Wed Nov 11 2026. No macro, syntax, notation, axiom, sorry.
-/
import Derived.Test.YtcgelcccboifjaaDoorRows
import GoSem.ClaimSeven
namespace Go.Proofs.YtcgelcccboifjaaDoor
namespace Rows

/-- THE TIED CARD OF 'lazarettolaw07.ValBack'. -/
def valBackCard : Claim7 := { stood := { row := valBackRow, standIns := [], harness := (true, "90eeca471111d5fb97ec73ce20b22d066abbee7d0edeb4998ad2c3c414d7a386"), looks := true }, kinds := [], alts := [], laidByText := true, laidKinds := [.data, .data, .data, .data, .sentinel, .sentinel, .data, .pinned], laidTests := true, laidLooks := .later }
def ValBackCardSaid : Prop := Claim7.holds Tryd.pinned (.plain (OpenSpec.ofChange valBackSpec)) valBackCard

/-- THE TIED CARD OF 'lazarettolaw07.ValOnce'. -/
def valOnceCard : Claim7 := { stood := { row := valOnceRow, standIns := [], harness := (true, "90eeca471111d5fb97ec73ce20b22d066abbee7d0edeb4998ad2c3c414d7a386"), looks := true }, kinds := [], alts := [], laidByText := true, laidKinds := [.data, .data, .data, .data, .sentinel, .sentinel, .data, .pinned], laidTests := true, laidLooks := .later }
def ValOnceCardSaid : Prop := Claim7.holds Tryd.pinned (.plain (OpenSpec.ofChange valOnceSpec)) valOnceCard

/-- THE TIED CARD OF 'lazarettolaw07.ValRight'. -/
def valRightCard : Claim7 := { stood := { row := valRightRow, standIns := [], harness := (true, "90eeca471111d5fb97ec73ce20b22d066abbee7d0edeb4998ad2c3c414d7a386"), looks := true }, kinds := [], alts := [], laidByText := true, laidKinds := [.data, .data, .data, .data, .sentinel, .sentinel, .data, .pinned], laidTests := true, laidLooks := .later }
def ValRightCardSaid : Prop := Claim7.holds Tryd.pinned (.plain (OpenSpec.ofChange valRightSpec)) valRightCard

/-- THE TIED CARD OF 'lazarettolaw07.ValTorn'. -/
def valTornCard : Claim7 := { stood := { row := valTornRow, standIns := [], harness := (true, "90eeca471111d5fb97ec73ce20b22d066abbee7d0edeb4998ad2c3c414d7a386"), looks := true }, kinds := [], alts := [], laidByText := true, laidKinds := [.data, .data, .data, .data, .sentinel, .sentinel, .data, .pinned], laidTests := true, laidLooks := .later }
def ValTornCardSaid : Prop := Claim7.holds Tryd.pinned (.plain (OpenSpec.ofChange valTornSpec)) valTornCard

/-- THE TIED CARD OF 'lazarettolaw07.ValShows'. -/
def valShowsCard : Claim7 := { stood := { row := valShowsRow, standIns := [], harness := (true, "90eeca471111d5fb97ec73ce20b22d066abbee7d0edeb4998ad2c3c414d7a386"), looks := true }, kinds := [], alts := [], laidByText := true, laidKinds := [.data, .data, .data, .data, .sentinel, .sentinel, .data, .pinned], laidTests := true, laidLooks := .later }
def ValShowsCardSaid : Prop := Claim7.holds Tryd.pinned (.plain (OpenSpec.ofChange valShowsSpec)) valShowsCard

/-- THE SECOND FORM's CARD OF 'lazarettolaw07.ValBack'. -/
def valBackUptoCard : Claim7 := { stood := { row := valBackUptoRow, standIns := [], harness := (true, "90eeca471111d5fb97ec73ce20b22d066abbee7d0edeb4998ad2c3c414d7a386"), looks := true }, kinds := [], alts := [], laidByText := true, laidKinds := [.data, .data, .data, .data, .sentinel, .sentinel, .data, .pinned], laidTests := true, laidLooks := .later }
def ValBackUptoCardSaid : Prop := Claim7.holds Tryd.pinned (.plain (OpenSpec.upto valBackSpec)) valBackUptoCard

/-- THE SECOND FORM's CARD OF 'lazarettolaw07.ValOnce'. -/
def valOnceUptoCard : Claim7 := { stood := { row := valOnceUptoRow, standIns := [], harness := (true, "90eeca471111d5fb97ec73ce20b22d066abbee7d0edeb4998ad2c3c414d7a386"), looks := true }, kinds := [], alts := [], laidByText := true, laidKinds := [.data, .data, .data, .data, .sentinel, .sentinel, .data, .pinned], laidTests := true, laidLooks := .later }
def ValOnceUptoCardSaid : Prop := Claim7.holds Tryd.pinned (.plain (OpenSpec.upto valOnceSpec)) valOnceUptoCard

/-- THE SECOND FORM's CARD OF 'lazarettolaw07.ValRight'. -/
def valRightUptoCard : Claim7 := { stood := { row := valRightUptoRow, standIns := [], harness := (true, "90eeca471111d5fb97ec73ce20b22d066abbee7d0edeb4998ad2c3c414d7a386"), looks := true }, kinds := [], alts := [], laidByText := true, laidKinds := [.data, .data, .data, .data, .sentinel, .sentinel, .data, .pinned], laidTests := true, laidLooks := .later }
def ValRightUptoCardSaid : Prop := Claim7.holds Tryd.pinned (.plain (OpenSpec.upto valRightSpec)) valRightUptoCard

/-- THE SECOND FORM's CARD OF 'lazarettolaw07.ValTorn'. -/
def valTornUptoCard : Claim7 := { stood := { row := valTornUptoRow, standIns := [], harness := (true, "90eeca471111d5fb97ec73ce20b22d066abbee7d0edeb4998ad2c3c414d7a386"), looks := true }, kinds := [], alts := [], laidByText := true, laidKinds := [.data, .data, .data, .data, .sentinel, .sentinel, .data, .pinned], laidTests := true, laidLooks := .later }
def ValTornUptoCardSaid : Prop := Claim7.holds Tryd.pinned (.plain (OpenSpec.upto valTornSpec)) valTornUptoCard

/-- THE SECOND FORM's CARD OF 'lazarettolaw07.ValShows'. -/
def valShowsUptoCard : Claim7 := { stood := { row := valShowsUptoRow, standIns := [], harness := (true, "90eeca471111d5fb97ec73ce20b22d066abbee7d0edeb4998ad2c3c414d7a386"), looks := true }, kinds := [], alts := [], laidByText := true, laidKinds := [.data, .data, .data, .data, .sentinel, .sentinel, .data, .pinned], laidTests := true, laidLooks := .later }
def ValShowsUptoCardSaid : Prop := Claim7.holds Tryd.pinned (.plain (OpenSpec.upto valShowsSpec)) valShowsUptoCard
end Rows
end Go.Proofs.YtcgelcccboifjaaDoor
