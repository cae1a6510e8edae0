/-
  DERIVED. GIVEN WITH THE SEED: THE CARDS: each row of YtaoichlepfiliaaGreatDoorRows.lean that lists a variable, with what it lists TIED to the program's text (the seventh form; the later family's looks); each row that meets fmt, with fmt's text TOLD by the authors' own Lean function (tested against real Go, not proved from fmt's source: count such statements apart). THE CARD IS WHAT COUNTS. Prove the row's statement (the work); the ties are given (YtaoichlepfiliaaGreatDoorTie.lean); close each card by the builder's one call (the guide's Derived/Test/ToyasCard.lean, 'card_holds'). Laid BY PROGRAM, IN A SANDBOX (cutbox-door.mjs). By AI agents, Wed Nov 11 2026. No macro, syntax, notation, axiom, sorry.
-/
import Derived.Test.YtaoichlepfiliaaGreatDoorRows
import GoSem.ClaimSeven
namespace Go.Proofs.YtaoichlepfiliaaGreatDoor
namespace Rows

/-- THE TIED CARD OF 'trivetlaw25.CarveTakes'. -/
def carveTakesCard : Claim7 := { stood := { row := carveTakesRow, standIns := [], harness := (true, "53de4415cb315b62d3cd4e4ef5ceff80dccc5c03208b00616d3319590d6e59d0"), looks := false }, kinds := [], alts := [], laidByText := true, laidKinds := [.data], laidTests := true, laidLooks := .later }
def CarveTakesCardSaid : Prop := Claim7.holds Tryz.pinned (.plain (OpenSpec.ofChange carveTakesSpec)) carveTakesCard

/-- THE TIED CARD OF 'trivetlaw25.CarveWhole'. -/
def carveWholeCard : Claim7 := { stood := { row := carveWholeRow, standIns := [], harness := (true, "53de4415cb315b62d3cd4e4ef5ceff80dccc5c03208b00616d3319590d6e59d0"), looks := false }, kinds := [], alts := [], laidByText := true, laidKinds := [.data], laidTests := true, laidLooks := .later }
def CarveWholeCardSaid : Prop := Claim7.holds Tryz.pinned (.plain (OpenSpec.ofChange carveWholeSpec)) carveWholeCard

/-- THE TIED CARD OF 'trivetlaw25.CarveParts'. -/
def carvePartsCard : Claim7 := { stood := { row := carvePartsRow, standIns := [], harness := (true, "53de4415cb315b62d3cd4e4ef5ceff80dccc5c03208b00616d3319590d6e59d0"), looks := false }, kinds := [], alts := [], laidByText := true, laidKinds := [.data], laidTests := true, laidLooks := .later }
def CarvePartsCardSaid : Prop := Claim7.holds Tryz.pinned (.plain (OpenSpec.ofChange carvePartsSpec)) carvePartsCard

/-- THE TIED CARD OF 'trivetlaw25.CarveClosed'. -/
def carveClosedCard : Claim7 := { stood := { row := carveClosedRow, standIns := [], harness := (true, "53de4415cb315b62d3cd4e4ef5ceff80dccc5c03208b00616d3319590d6e59d0"), looks := false }, kinds := [], alts := [], laidByText := true, laidKinds := [.data], laidTests := true, laidLooks := .later }
def CarveClosedCardSaid : Prop := Claim7.holds Tryz.pinned (.plain (OpenSpec.ofChange carveClosedSpec)) carveClosedCard

/-- THE SECOND FORM's CARD OF 'trivetlaw25.CarveTakes'. -/
def carveTakesUptoCard : Claim7 := { stood := { row := carveTakesUptoRow, standIns := [], harness := (true, "53de4415cb315b62d3cd4e4ef5ceff80dccc5c03208b00616d3319590d6e59d0"), looks := false }, kinds := [], alts := [], laidByText := true, laidKinds := [.data], laidTests := true, laidLooks := .later }
def CarveTakesUptoCardSaid : Prop := Claim7.holds Tryz.pinned (.plain (OpenSpec.upto carveTakesSpec)) carveTakesUptoCard

/-- THE SECOND FORM's CARD OF 'trivetlaw25.CarveWhole'. -/
def carveWholeUptoCard : Claim7 := { stood := { row := carveWholeUptoRow, standIns := [], harness := (true, "53de4415cb315b62d3cd4e4ef5ceff80dccc5c03208b00616d3319590d6e59d0"), looks := false }, kinds := [], alts := [], laidByText := true, laidKinds := [.data], laidTests := true, laidLooks := .later }
def CarveWholeUptoCardSaid : Prop := Claim7.holds Tryz.pinned (.plain (OpenSpec.upto carveWholeSpec)) carveWholeUptoCard

/-- THE SECOND FORM's CARD OF 'trivetlaw25.CarveParts'. -/
def carvePartsUptoCard : Claim7 := { stood := { row := carvePartsUptoRow, standIns := [], harness := (true, "53de4415cb315b62d3cd4e4ef5ceff80dccc5c03208b00616d3319590d6e59d0"), looks := false }, kinds := [], alts := [], laidByText := true, laidKinds := [.data], laidTests := true, laidLooks := .later }
def CarvePartsUptoCardSaid : Prop := Claim7.holds Tryz.pinned (.plain (OpenSpec.upto carvePartsSpec)) carvePartsUptoCard

/-- THE SECOND FORM's CARD OF 'trivetlaw25.CarveClosed'. -/
def carveClosedUptoCard : Claim7 := { stood := { row := carveClosedUptoRow, standIns := [], harness := (true, "53de4415cb315b62d3cd4e4ef5ceff80dccc5c03208b00616d3319590d6e59d0"), looks := false }, kinds := [], alts := [], laidByText := true, laidKinds := [.data], laidTests := true, laidLooks := .later }
def CarveClosedUptoCardSaid : Prop := Claim7.holds Tryz.pinned (.plain (OpenSpec.upto carveClosedSpec)) carveClosedUptoCard
end Rows
end Go.Proofs.YtaoichlepfiliaaGreatDoor
