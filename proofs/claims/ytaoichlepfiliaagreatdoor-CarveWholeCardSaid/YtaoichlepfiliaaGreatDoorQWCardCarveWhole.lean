/- Lemmas of CardCarveWhole. Conditions stand in each. -/
import Derived.Test.YtaoichlepfiliaaGreatDoorTie
import Derived.Test.YtaoichlepfiliaaGreatDoorCards
import Derived.SevenTiedAt
import Derived.Test.YtaoichlepfiliaaGreatDoorQWFctCarveWhole
set_option linter.unusedSimpArgs false
set_option linter.unusedVariables false
namespace Go.Proofs.YtaoichlepfiliaaGreatDoor
open Go
theorem carveWhole_card : Rows.CarveWholeCardSaid :=
 Claim7.holds_tied_plain_at .later [] [.data] true (true, "53de4415cb315b62d3cd4e4ef5ceff80dccc5c03208b00616d3319590d6e59d0") false
  carveWhole_holds (fun _ h => by cases h) (by kernel_rfl) (fun _ h => by cases h) carveWhole_row_tie rfl ⟨rfl, rfl⟩ (by kernel_rfl) rfl
  (fun f fn hf hfn => by
   obtain rfl : f = 4 := Option.some.inj ((show Tryz.prog.funcNamed "trivet/trivetlaw25.CarveWhole" = some 4 by kernel_rfl).symm.trans hf) |>.symm
   obtain rfl : fn = Tryz.f4 := (Option.some.inj (Tryz.func4.symm.trans hfn)).symm
   exact ⟨by kernel_rfl, fun j t ht => by
    rw [Tryz.params4] at ht
    rcases j with _ | j
    ·obtain rfl : t = 26 := by simpa using ht.symm
     exact (show Tryz.prog.wantsStandIn 26 = false by kernel_rfl)
    simp at ht⟩)
  (by kernel_rfl)
end Go.Proofs.YtaoichlepfiliaaGreatDoor
