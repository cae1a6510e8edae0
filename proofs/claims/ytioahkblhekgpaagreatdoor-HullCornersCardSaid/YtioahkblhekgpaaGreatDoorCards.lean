/-
  DERIVED. GIVEN WITH THE SEED: THE CARDS: each row of YtioahkblhekgpaaGreatDoorRows.lean that lists a variable, with what it lists TIED to the program's text (the seventh form; the later family's looks); each row that meets fmt, with fmt's text TOLD by the authors' own Lean function (tested against real Go, not proved from fmt's source: count such statements apart). THE CARD IS WHAT COUNTS. Prove the row's statement (the work); the ties are given (YtioahkblhekgpaaGreatDoorTie.lean); close each card by the builder's one call (the guide's Derived/Test/ToyasCard.lean, 'card_holds'). Laid BY PROGRAM, IN A SANDBOX (cutbox-door.mjs). By AI agents, Wed Nov 11 2026. No macro, syntax, notation, axiom, sorry.
-/
import Derived.Test.YtioahkblhekgpaaGreatDoorRows
import GoSem.ClaimSeven
namespace Go.Proofs.YtioahkblhekgpaaGreatDoor
namespace Rows

/-- THE TIED CARD OF 'trivetlaw07.AdmitLists'. -/
def admitListsCard : Claim7 := { stood := { row := admitListsRow, standIns := [], harness := (true, "4a494f55ba293d742d60d3ad5307d7e78a225d7ef1208fd6217646a6ce7b3c4b"), looks := false }, kinds := [], alts := [], laidByText := true, laidKinds := [.data], laidTests := true, laidLooks := .later }
def AdmitListsCardSaid : Prop := Claim7.holds Tryz.pinned (.plain (OpenSpec.ofChange admitListsSpec)) admitListsCard

/-- THE TIED CARD OF 'trivetlaw07.AdmitFlat'. -/
def admitFlatCard : Claim7 := { stood := { row := admitFlatRow, standIns := [], harness := (true, "4a494f55ba293d742d60d3ad5307d7e78a225d7ef1208fd6217646a6ce7b3c4b"), looks := false }, kinds := [], alts := [], laidByText := true, laidKinds := [.data], laidTests := true, laidLooks := .later }
def AdmitFlatCardSaid : Prop := Claim7.holds Tryz.pinned (.plain (OpenSpec.ofChange admitFlatSpec)) admitFlatCard

/-- THE TIED CARD OF 'trivetlaw07.AdmitOrder'. -/
def admitOrderCard : Claim7 := { stood := { row := admitOrderRow, standIns := [], harness := (true, "4a494f55ba293d742d60d3ad5307d7e78a225d7ef1208fd6217646a6ce7b3c4b"), looks := false }, kinds := [], alts := [], laidByText := true, laidKinds := [.data], laidTests := true, laidLooks := .later }
def AdmitOrderCardSaid : Prop := Claim7.holds Tryz.pinned (.plain (OpenSpec.ofChange admitOrderSpec)) admitOrderCard

/-- THE TIED CARD OF 'trivetlaw07.AdmitTurned'. -/
def admitTurnedCard : Claim7 := { stood := { row := admitTurnedRow, standIns := [], harness := (true, "4a494f55ba293d742d60d3ad5307d7e78a225d7ef1208fd6217646a6ce7b3c4b"), looks := false }, kinds := [], alts := [], laidByText := true, laidKinds := [.data], laidTests := true, laidLooks := .later }
def AdmitTurnedCardSaid : Prop := Claim7.holds Tryz.pinned (.plain (OpenSpec.ofChange admitTurnedSpec)) admitTurnedCard

/-- THE TIED CARD OF 'trivetlaw07.AdmitNames'. -/
def admitNamesCard : Claim7 := { stood := { row := admitNamesRow, standIns := [], harness := (true, "4a494f55ba293d742d60d3ad5307d7e78a225d7ef1208fd6217646a6ce7b3c4b"), looks := false }, kinds := [], alts := [], laidByText := true, laidKinds := [.data], laidTests := true, laidLooks := .later }
def AdmitNamesCardSaid : Prop := Claim7.holds Tryz.pinned (.plain (OpenSpec.ofChange admitNamesSpec)) admitNamesCard

/-- THE TIED CARD OF 'trivetlaw20.HullCorners'. -/
def hullCornersCard : Claim7 := { stood := { row := hullCornersRow, standIns := [], harness := (true, "4a494f55ba293d742d60d3ad5307d7e78a225d7ef1208fd6217646a6ce7b3c4b"), looks := false }, kinds := [], alts := [], laidByText := true, laidKinds := [.data], laidTests := true, laidLooks := .later }
def HullCornersCardSaid : Prop := Claim7.holds Tryz.pinned (.plain (OpenSpec.ofChange hullCornersSpec)) hullCornersCard

/-- THE TIED CARD OF 'trivetlaw20.HullPlaces'. -/
def hullPlacesCard : Claim7 := { stood := { row := hullPlacesRow, standIns := [], harness := (true, "4a494f55ba293d742d60d3ad5307d7e78a225d7ef1208fd6217646a6ce7b3c4b"), looks := false }, kinds := [], alts := [], laidByText := true, laidKinds := [.data], laidTests := true, laidLooks := .later }
def HullPlacesCardSaid : Prop := Claim7.holds Tryz.pinned (.plain (OpenSpec.ofChange hullPlacesSpec)) hullPlacesCard

/-- THE TIED CARD OF 'trivetlaw20.HullHolds'. -/
def hullHoldsCard : Claim7 := { stood := { row := hullHoldsRow, standIns := [], harness := (true, "4a494f55ba293d742d60d3ad5307d7e78a225d7ef1208fd6217646a6ce7b3c4b"), looks := false }, kinds := [], alts := [], laidByText := true, laidKinds := [.data], laidTests := true, laidLooks := .later }
def HullHoldsCardSaid : Prop := Claim7.holds Tryz.pinned (.plain (OpenSpec.ofChange hullHoldsSpec)) hullHoldsCard

/-- THE TIED CARD OF 'trivetlaw20.HullCounts'. -/
def hullCountsCard : Claim7 := { stood := { row := hullCountsRow, standIns := [], harness := (true, "4a494f55ba293d742d60d3ad5307d7e78a225d7ef1208fd6217646a6ce7b3c4b"), looks := false }, kinds := [], alts := [], laidByText := true, laidKinds := [.data], laidTests := true, laidLooks := .later }
def HullCountsCardSaid : Prop := Claim7.holds Tryz.pinned (.plain (OpenSpec.ofChange hullCountsSpec)) hullCountsCard

/-- THE SECOND FORM's CARD OF 'trivetlaw07.AdmitLists'. -/
def admitListsUptoCard : Claim7 := { stood := { row := admitListsUptoRow, standIns := [], harness := (true, "4a494f55ba293d742d60d3ad5307d7e78a225d7ef1208fd6217646a6ce7b3c4b"), looks := false }, kinds := [], alts := [], laidByText := true, laidKinds := [.data], laidTests := true, laidLooks := .later }
def AdmitListsUptoCardSaid : Prop := Claim7.holds Tryz.pinned (.plain (OpenSpec.upto admitListsSpec)) admitListsUptoCard

/-- THE SECOND FORM's CARD OF 'trivetlaw07.AdmitFlat'. -/
def admitFlatUptoCard : Claim7 := { stood := { row := admitFlatUptoRow, standIns := [], harness := (true, "4a494f55ba293d742d60d3ad5307d7e78a225d7ef1208fd6217646a6ce7b3c4b"), looks := false }, kinds := [], alts := [], laidByText := true, laidKinds := [.data], laidTests := true, laidLooks := .later }
def AdmitFlatUptoCardSaid : Prop := Claim7.holds Tryz.pinned (.plain (OpenSpec.upto admitFlatSpec)) admitFlatUptoCard

/-- THE SECOND FORM's CARD OF 'trivetlaw07.AdmitOrder'. -/
def admitOrderUptoCard : Claim7 := { stood := { row := admitOrderUptoRow, standIns := [], harness := (true, "4a494f55ba293d742d60d3ad5307d7e78a225d7ef1208fd6217646a6ce7b3c4b"), looks := false }, kinds := [], alts := [], laidByText := true, laidKinds := [.data], laidTests := true, laidLooks := .later }
def AdmitOrderUptoCardSaid : Prop := Claim7.holds Tryz.pinned (.plain (OpenSpec.upto admitOrderSpec)) admitOrderUptoCard

/-- THE SECOND FORM's CARD OF 'trivetlaw07.AdmitTurned'. -/
def admitTurnedUptoCard : Claim7 := { stood := { row := admitTurnedUptoRow, standIns := [], harness := (true, "4a494f55ba293d742d60d3ad5307d7e78a225d7ef1208fd6217646a6ce7b3c4b"), looks := false }, kinds := [], alts := [], laidByText := true, laidKinds := [.data], laidTests := true, laidLooks := .later }
def AdmitTurnedUptoCardSaid : Prop := Claim7.holds Tryz.pinned (.plain (OpenSpec.upto admitTurnedSpec)) admitTurnedUptoCard

/-- THE SECOND FORM's CARD OF 'trivetlaw07.AdmitNames'. -/
def admitNamesUptoCard : Claim7 := { stood := { row := admitNamesUptoRow, standIns := [], harness := (true, "4a494f55ba293d742d60d3ad5307d7e78a225d7ef1208fd6217646a6ce7b3c4b"), looks := false }, kinds := [], alts := [], laidByText := true, laidKinds := [.data], laidTests := true, laidLooks := .later }
def AdmitNamesUptoCardSaid : Prop := Claim7.holds Tryz.pinned (.plain (OpenSpec.upto admitNamesSpec)) admitNamesUptoCard

/-- THE SECOND FORM's CARD OF 'trivetlaw20.HullCorners'. -/
def hullCornersUptoCard : Claim7 := { stood := { row := hullCornersUptoRow, standIns := [], harness := (true, "4a494f55ba293d742d60d3ad5307d7e78a225d7ef1208fd6217646a6ce7b3c4b"), looks := false }, kinds := [], alts := [], laidByText := true, laidKinds := [.data], laidTests := true, laidLooks := .later }
def HullCornersUptoCardSaid : Prop := Claim7.holds Tryz.pinned (.plain (OpenSpec.upto hullCornersSpec)) hullCornersUptoCard

/-- THE SECOND FORM's CARD OF 'trivetlaw20.HullPlaces'. -/
def hullPlacesUptoCard : Claim7 := { stood := { row := hullPlacesUptoRow, standIns := [], harness := (true, "4a494f55ba293d742d60d3ad5307d7e78a225d7ef1208fd6217646a6ce7b3c4b"), looks := false }, kinds := [], alts := [], laidByText := true, laidKinds := [.data], laidTests := true, laidLooks := .later }
def HullPlacesUptoCardSaid : Prop := Claim7.holds Tryz.pinned (.plain (OpenSpec.upto hullPlacesSpec)) hullPlacesUptoCard

/-- THE SECOND FORM's CARD OF 'trivetlaw20.HullHolds'. -/
def hullHoldsUptoCard : Claim7 := { stood := { row := hullHoldsUptoRow, standIns := [], harness := (true, "4a494f55ba293d742d60d3ad5307d7e78a225d7ef1208fd6217646a6ce7b3c4b"), looks := false }, kinds := [], alts := [], laidByText := true, laidKinds := [.data], laidTests := true, laidLooks := .later }
def HullHoldsUptoCardSaid : Prop := Claim7.holds Tryz.pinned (.plain (OpenSpec.upto hullHoldsSpec)) hullHoldsUptoCard

/-- THE SECOND FORM's CARD OF 'trivetlaw20.HullCounts'. -/
def hullCountsUptoCard : Claim7 := { stood := { row := hullCountsUptoRow, standIns := [], harness := (true, "4a494f55ba293d742d60d3ad5307d7e78a225d7ef1208fd6217646a6ce7b3c4b"), looks := false }, kinds := [], alts := [], laidByText := true, laidKinds := [.data], laidTests := true, laidLooks := .later }
def HullCountsUptoCardSaid : Prop := Claim7.holds Tryz.pinned (.plain (OpenSpec.upto hullCountsSpec)) hullCountsUptoCard
end Rows
end Go.Proofs.YtioahkblhekgpaaGreatDoor
