/-
  DERIVED. GIVEN WITH THE SEED: THE CARDS: each row of YtjiolfpahollkaaGreatDoorRows.lean that lists a variable, with what it lists TIED to the program's text (the seventh form; the later family's looks); each row that meets fmt, with fmt's text TOLD by the authors' own Lean function (tested against real Go, not proved from fmt's source: count such statements apart). THE CARD IS WHAT COUNTS. Prove the row's statement (the work); the ties are given (YtjiolfpahollkaaGreatDoorTie.lean); close each card by the builder's one call (the guide's Derived/Test/ToyasCard.lean, 'card_holds'). Laid BY PROGRAM, IN A SANDBOX (cutbox-door.mjs). By AI agents, Wed Nov 11 2026. No macro, syntax, notation, axiom, sorry.
-/
import Derived.Test.YtjiolfpahollkaaGreatDoorRows
import GoSem.ClaimSeven
namespace Go.Proofs.YtjiolfpahollkaaGreatDoor
namespace Rows

/-- THE TIED CARD OF 'trivetlaw25.CarveTakes'. -/
def carveTakesCard : Claim7 := { stood := { row := carveTakesRow, standIns := [], harness := (true, "af4560e937db00386fa247db6a6a53ae24bbd9b25575d02ca0a57cc969f17219"), looks := false }, kinds := [], alts := [], laidByText := true, laidKinds := [.data], laidTests := true, laidLooks := .later }
def CarveTakesCardSaid : Prop := Claim7.holds Tryz.pinned (.plain (OpenSpec.ofChange carveTakesSpec)) carveTakesCard

/-- THE TIED CARD OF 'trivetlaw25.CarveWhole'. -/
def carveWholeCard : Claim7 := { stood := { row := carveWholeRow, standIns := [], harness := (true, "af4560e937db00386fa247db6a6a53ae24bbd9b25575d02ca0a57cc969f17219"), looks := false }, kinds := [], alts := [], laidByText := true, laidKinds := [.data], laidTests := true, laidLooks := .later }
def CarveWholeCardSaid : Prop := Claim7.holds Tryz.pinned (.plain (OpenSpec.ofChange carveWholeSpec)) carveWholeCard

/-- THE TIED CARD OF 'trivetlaw25.CarveParts'. -/
def carvePartsCard : Claim7 := { stood := { row := carvePartsRow, standIns := [], harness := (true, "af4560e937db00386fa247db6a6a53ae24bbd9b25575d02ca0a57cc969f17219"), looks := false }, kinds := [], alts := [], laidByText := true, laidKinds := [.data], laidTests := true, laidLooks := .later }
def CarvePartsCardSaid : Prop := Claim7.holds Tryz.pinned (.plain (OpenSpec.ofChange carvePartsSpec)) carvePartsCard

/-- THE TIED CARD OF 'trivetlaw25.CarveNames'. -/
def carveNamesCard : Claim7 := { stood := { row := carveNamesRow, standIns := [], harness := (true, "af4560e937db00386fa247db6a6a53ae24bbd9b25575d02ca0a57cc969f17219"), looks := false }, kinds := [], alts := [], laidByText := true, laidKinds := [.data], laidTests := true, laidLooks := .later }
def CarveNamesCardSaid : Prop := Claim7.holds Tryz.pinned (.plain (OpenSpec.ofChange carveNamesSpec)) carveNamesCard

/-- THE TIED CARD OF 'trivetlaw25.CarveClosed'. -/
def carveClosedCard : Claim7 := { stood := { row := carveClosedRow, standIns := [], harness := (true, "af4560e937db00386fa247db6a6a53ae24bbd9b25575d02ca0a57cc969f17219"), looks := false }, kinds := [], alts := [], laidByText := true, laidKinds := [.data], laidTests := true, laidLooks := .later }
def CarveClosedCardSaid : Prop := Claim7.holds Tryz.pinned (.plain (OpenSpec.ofChange carveClosedSpec)) carveClosedCard

/-- THE TIED CARD OF 'trivetlaw26.RankBad'. -/
def rankBadCard : Claim7 := { stood := { row := rankBadRow, standIns := [], harness := (true, "af4560e937db00386fa247db6a6a53ae24bbd9b25575d02ca0a57cc969f17219"), looks := false }, kinds := [], alts := [], laidByText := true, laidKinds := [.data], laidTests := true, laidLooks := .later }
def RankBadCardSaid : Prop := Claim7.holds Tryz.pinned (.plain (OpenSpec.ofChange rankBadSpec)) rankBadCard

/-- THE TIED CARD OF 'trivetlaw26.RankLess'. -/
def rankLessCard : Claim7 := { stood := { row := rankLessRow, standIns := [], harness := (true, "af4560e937db00386fa247db6a6a53ae24bbd9b25575d02ca0a57cc969f17219"), looks := false }, kinds := [], alts := [], laidByText := true, laidKinds := [.data], laidTests := true, laidLooks := .later }
def RankLessCardSaid : Prop := Claim7.holds Tryz.pinned (.plain (OpenSpec.ofChange rankLessSpec)) rankLessCard

/-- THE TIED CARD OF 'trivetlaw26.RankAngles'. -/
def rankAnglesCard : Claim7 := { stood := { row := rankAnglesRow, standIns := [], harness := (true, "af4560e937db00386fa247db6a6a53ae24bbd9b25575d02ca0a57cc969f17219"), looks := false }, kinds := [], alts := [], laidByText := true, laidKinds := [.data], laidTests := true, laidLooks := .later }
def RankAnglesCardSaid : Prop := Claim7.holds Tryz.pinned (.plain (OpenSpec.ofChange rankAnglesSpec)) rankAnglesCard

/-- THE TIED CARD OF 'trivetlaw26.RankNames'. -/
def rankNamesCard : Claim7 := { stood := { row := rankNamesRow, standIns := [], harness := (true, "af4560e937db00386fa247db6a6a53ae24bbd9b25575d02ca0a57cc969f17219"), looks := false }, kinds := [], alts := [], laidByText := true, laidKinds := [.data], laidTests := true, laidLooks := .later }
def RankNamesCardSaid : Prop := Claim7.holds Tryz.pinned (.plain (OpenSpec.ofChange rankNamesSpec)) rankNamesCard

/-- THE TIED CARD OF 'trivetlaw26.RankPressed'. -/
def rankPressedCard : Claim7 := { stood := { row := rankPressedRow, standIns := [], harness := (true, "af4560e937db00386fa247db6a6a53ae24bbd9b25575d02ca0a57cc969f17219"), looks := false }, kinds := [], alts := [], laidByText := true, laidKinds := [.data], laidTests := true, laidLooks := .later }
def RankPressedCardSaid : Prop := Claim7.holds Tryz.pinned (.plain (OpenSpec.ofChange rankPressedSpec)) rankPressedCard

/-- THE TIED CARD OF 'trivetlaw26.RankOne'. -/
def rankOneCard : Claim7 := { stood := { row := rankOneRow, standIns := [], harness := (true, "af4560e937db00386fa247db6a6a53ae24bbd9b25575d02ca0a57cc969f17219"), looks := false }, kinds := [], alts := [], laidByText := true, laidKinds := [.data], laidTests := true, laidLooks := .later }
def RankOneCardSaid : Prop := Claim7.holds Tryz.pinned (.plain (OpenSpec.ofChange rankOneSpec)) rankOneCard

/-- THE SECOND FORM's CARD OF 'trivetlaw25.CarveTakes'. -/
def carveTakesUptoCard : Claim7 := { stood := { row := carveTakesUptoRow, standIns := [], harness := (true, "af4560e937db00386fa247db6a6a53ae24bbd9b25575d02ca0a57cc969f17219"), looks := false }, kinds := [], alts := [], laidByText := true, laidKinds := [.data], laidTests := true, laidLooks := .later }
def CarveTakesUptoCardSaid : Prop := Claim7.holds Tryz.pinned (.plain (OpenSpec.upto carveTakesSpec)) carveTakesUptoCard

/-- THE SECOND FORM's CARD OF 'trivetlaw25.CarveWhole'. -/
def carveWholeUptoCard : Claim7 := { stood := { row := carveWholeUptoRow, standIns := [], harness := (true, "af4560e937db00386fa247db6a6a53ae24bbd9b25575d02ca0a57cc969f17219"), looks := false }, kinds := [], alts := [], laidByText := true, laidKinds := [.data], laidTests := true, laidLooks := .later }
def CarveWholeUptoCardSaid : Prop := Claim7.holds Tryz.pinned (.plain (OpenSpec.upto carveWholeSpec)) carveWholeUptoCard

/-- THE SECOND FORM's CARD OF 'trivetlaw25.CarveParts'. -/
def carvePartsUptoCard : Claim7 := { stood := { row := carvePartsUptoRow, standIns := [], harness := (true, "af4560e937db00386fa247db6a6a53ae24bbd9b25575d02ca0a57cc969f17219"), looks := false }, kinds := [], alts := [], laidByText := true, laidKinds := [.data], laidTests := true, laidLooks := .later }
def CarvePartsUptoCardSaid : Prop := Claim7.holds Tryz.pinned (.plain (OpenSpec.upto carvePartsSpec)) carvePartsUptoCard

/-- THE SECOND FORM's CARD OF 'trivetlaw25.CarveNames'. -/
def carveNamesUptoCard : Claim7 := { stood := { row := carveNamesUptoRow, standIns := [], harness := (true, "af4560e937db00386fa247db6a6a53ae24bbd9b25575d02ca0a57cc969f17219"), looks := false }, kinds := [], alts := [], laidByText := true, laidKinds := [.data], laidTests := true, laidLooks := .later }
def CarveNamesUptoCardSaid : Prop := Claim7.holds Tryz.pinned (.plain (OpenSpec.upto carveNamesSpec)) carveNamesUptoCard

/-- THE SECOND FORM's CARD OF 'trivetlaw25.CarveClosed'. -/
def carveClosedUptoCard : Claim7 := { stood := { row := carveClosedUptoRow, standIns := [], harness := (true, "af4560e937db00386fa247db6a6a53ae24bbd9b25575d02ca0a57cc969f17219"), looks := false }, kinds := [], alts := [], laidByText := true, laidKinds := [.data], laidTests := true, laidLooks := .later }
def CarveClosedUptoCardSaid : Prop := Claim7.holds Tryz.pinned (.plain (OpenSpec.upto carveClosedSpec)) carveClosedUptoCard

/-- THE SECOND FORM's CARD OF 'trivetlaw26.RankBad'. -/
def rankBadUptoCard : Claim7 := { stood := { row := rankBadUptoRow, standIns := [], harness := (true, "af4560e937db00386fa247db6a6a53ae24bbd9b25575d02ca0a57cc969f17219"), looks := false }, kinds := [], alts := [], laidByText := true, laidKinds := [.data], laidTests := true, laidLooks := .later }
def RankBadUptoCardSaid : Prop := Claim7.holds Tryz.pinned (.plain (OpenSpec.upto rankBadSpec)) rankBadUptoCard

/-- THE SECOND FORM's CARD OF 'trivetlaw26.RankLess'. -/
def rankLessUptoCard : Claim7 := { stood := { row := rankLessUptoRow, standIns := [], harness := (true, "af4560e937db00386fa247db6a6a53ae24bbd9b25575d02ca0a57cc969f17219"), looks := false }, kinds := [], alts := [], laidByText := true, laidKinds := [.data], laidTests := true, laidLooks := .later }
def RankLessUptoCardSaid : Prop := Claim7.holds Tryz.pinned (.plain (OpenSpec.upto rankLessSpec)) rankLessUptoCard

/-- THE SECOND FORM's CARD OF 'trivetlaw26.RankAngles'. -/
def rankAnglesUptoCard : Claim7 := { stood := { row := rankAnglesUptoRow, standIns := [], harness := (true, "af4560e937db00386fa247db6a6a53ae24bbd9b25575d02ca0a57cc969f17219"), looks := false }, kinds := [], alts := [], laidByText := true, laidKinds := [.data], laidTests := true, laidLooks := .later }
def RankAnglesUptoCardSaid : Prop := Claim7.holds Tryz.pinned (.plain (OpenSpec.upto rankAnglesSpec)) rankAnglesUptoCard

/-- THE SECOND FORM's CARD OF 'trivetlaw26.RankNames'. -/
def rankNamesUptoCard : Claim7 := { stood := { row := rankNamesUptoRow, standIns := [], harness := (true, "af4560e937db00386fa247db6a6a53ae24bbd9b25575d02ca0a57cc969f17219"), looks := false }, kinds := [], alts := [], laidByText := true, laidKinds := [.data], laidTests := true, laidLooks := .later }
def RankNamesUptoCardSaid : Prop := Claim7.holds Tryz.pinned (.plain (OpenSpec.upto rankNamesSpec)) rankNamesUptoCard

/-- THE SECOND FORM's CARD OF 'trivetlaw26.RankPressed'. -/
def rankPressedUptoCard : Claim7 := { stood := { row := rankPressedUptoRow, standIns := [], harness := (true, "af4560e937db00386fa247db6a6a53ae24bbd9b25575d02ca0a57cc969f17219"), looks := false }, kinds := [], alts := [], laidByText := true, laidKinds := [.data], laidTests := true, laidLooks := .later }
def RankPressedUptoCardSaid : Prop := Claim7.holds Tryz.pinned (.plain (OpenSpec.upto rankPressedSpec)) rankPressedUptoCard

/-- THE SECOND FORM's CARD OF 'trivetlaw26.RankOne'. -/
def rankOneUptoCard : Claim7 := { stood := { row := rankOneUptoRow, standIns := [], harness := (true, "af4560e937db00386fa247db6a6a53ae24bbd9b25575d02ca0a57cc969f17219"), looks := false }, kinds := [], alts := [], laidByText := true, laidKinds := [.data], laidTests := true, laidLooks := .later }
def RankOneUptoCardSaid : Prop := Claim7.holds Tryz.pinned (.plain (OpenSpec.upto rankOneSpec)) rankOneUptoCard
end Rows
end Go.Proofs.YtjiolfpahollkaaGreatDoor
