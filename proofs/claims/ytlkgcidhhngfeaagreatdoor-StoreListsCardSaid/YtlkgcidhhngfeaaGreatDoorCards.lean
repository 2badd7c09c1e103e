/-
  DERIVED. GIVEN WITH THE SEED: THE CARDS: each row of YtlkgcidhhngfeaaGreatDoorRows.lean that lists a variable, with what it lists TIED to the program's text (the seventh form; the later family's looks); each row that meets fmt, with fmt's text TOLD by the authors' own Lean function (tested against real Go, not proved from fmt's source: count such statements apart). THE CARD IS WHAT COUNTS. Prove the row's statement (the work); the ties are given (YtlkgcidhhngfeaaGreatDoorTie.lean); close each card by the builder's one call (the guide's Derived/Test/ToyasCard.lean, 'card_holds'). Laid BY PROGRAM, IN A SANDBOX (cutbox-door.mjs). By AI agents, Wed Nov 11 2026. No macro, syntax, notation, axiom, sorry.
-/
import Derived.Test.YtlkgcidhhngfeaaGreatDoorRows
import GoSem.ClaimSeven
namespace Go.Proofs.YtlkgcidhhngfeaaGreatDoor
namespace Rows

/-- THE TIED CARD OF 'lazarettolaw13.StoreApart'. -/
def storeApartCard : Claim7 := { stood := { row := storeApartRow, standIns := [], harness := (true, "4a3e5c48da9d6ddafaf334df69a895712414e0f57f132afe183852a260a1b2bb"), looks := true }, kinds := [], alts := [], laidByText := true, laidKinds := [.data, .data, .data, .data, .sentinel, .sentinel, .pinned], laidTests := true, laidLooks := .later }
def StoreApartCardSaid : Prop := Claim7.holds Tryz.pinned (.plain (OpenSpec.ofChange storeApartSpec)) storeApartCard

/-- THE TIED CARD OF 'lazarettolaw13.StoreLists'. -/
def storeListsCard : Claim7 := { stood := { row := storeListsRow, standIns := [], harness := (true, "4a3e5c48da9d6ddafaf334df69a895712414e0f57f132afe183852a260a1b2bb"), looks := true }, kinds := [], alts := [], laidByText := true, laidKinds := [.data, .data, .data, .data, .sentinel, .sentinel, .pinned], laidTests := true, laidLooks := .later }
def StoreListsCardSaid : Prop := Claim7.holds Tryz.pinned (.plain (OpenSpec.ofChange storeListsSpec)) storeListsCard

/-- THE TIED CARD OF 'lazarettolaw13.StoreHides'. -/
def storeHidesCard : Claim7 := { stood := { row := storeHidesRow, standIns := [], harness := (true, "4a3e5c48da9d6ddafaf334df69a895712414e0f57f132afe183852a260a1b2bb"), looks := true }, kinds := [], alts := [], laidByText := true, laidKinds := [.data, .data, .data, .data, .sentinel, .sentinel, .pinned], laidTests := true, laidLooks := .later }
def StoreHidesCardSaid : Prop := Claim7.holds Tryz.pinned (.plain (OpenSpec.ofChange storeHidesSpec)) storeHidesCard

/-- THE SECOND FORM's CARD OF 'lazarettolaw13.StoreApart'. -/
def storeApartUptoCard : Claim7 := { stood := { row := storeApartUptoRow, standIns := [], harness := (true, "4a3e5c48da9d6ddafaf334df69a895712414e0f57f132afe183852a260a1b2bb"), looks := true }, kinds := [], alts := [], laidByText := true, laidKinds := [.data, .data, .data, .data, .sentinel, .sentinel, .pinned], laidTests := true, laidLooks := .later }
def StoreApartUptoCardSaid : Prop := Claim7.holds Tryz.pinned (.plain (OpenSpec.upto storeApartSpec)) storeApartUptoCard

/-- THE SECOND FORM's CARD OF 'lazarettolaw13.StoreLists'. -/
def storeListsUptoCard : Claim7 := { stood := { row := storeListsUptoRow, standIns := [], harness := (true, "4a3e5c48da9d6ddafaf334df69a895712414e0f57f132afe183852a260a1b2bb"), looks := true }, kinds := [], alts := [], laidByText := true, laidKinds := [.data, .data, .data, .data, .sentinel, .sentinel, .pinned], laidTests := true, laidLooks := .later }
def StoreListsUptoCardSaid : Prop := Claim7.holds Tryz.pinned (.plain (OpenSpec.upto storeListsSpec)) storeListsUptoCard

/-- THE SECOND FORM's CARD OF 'lazarettolaw13.StoreHides'. -/
def storeHidesUptoCard : Claim7 := { stood := { row := storeHidesUptoRow, standIns := [], harness := (true, "4a3e5c48da9d6ddafaf334df69a895712414e0f57f132afe183852a260a1b2bb"), looks := true }, kinds := [], alts := [], laidByText := true, laidKinds := [.data, .data, .data, .data, .sentinel, .sentinel, .pinned], laidTests := true, laidLooks := .later }
def StoreHidesUptoCardSaid : Prop := Claim7.holds Tryz.pinned (.plain (OpenSpec.upto storeHidesSpec)) storeHidesUptoCard
end Rows
end Go.Proofs.YtlkgcidhhngfeaaGreatDoor
