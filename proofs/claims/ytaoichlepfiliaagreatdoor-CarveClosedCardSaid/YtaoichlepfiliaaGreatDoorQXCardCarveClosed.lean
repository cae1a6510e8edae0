/- Lemmas of CardCarveClosed. Conditions stand in each. -/
import Derived.Test.YtaoichlepfiliaaGreatDoorTie
import Derived.Test.YtaoichlepfiliaaGreatDoorCards
import Derived.SevenTiedAt
import Derived.Test.YtaoichlepfiliaaGreatDoorQXGvn
set_option linter.unusedSimpArgs false
set_option linter.unusedVariables false
namespace Go.Proofs.YtaoichlepfiliaaGreatDoor
open Go
theorem carveClosed_card : Rows.CarveClosedCardSaid :=
 Claim7.holds_tied_plain_at .later [] [.data] true (true, "53de4415cb315b62d3cd4e4ef5ceff80dccc5c03208b00616d3319590d6e59d0") false
  carveClosed_holds (fun _ h => by cases h) (by kernel_rfl) (fun _ h => by cases h) carveClosed_row_tie rfl ⟨rfl, rfl⟩ (by kernel_rfl) rfl
  (fun f fn hf hfn => by
   obtain rfl : f = 6 := Option.some.inj ((show Tryz.prog.funcNamed "trivet/trivetlaw25.CarveClosed" = some 6 by kernel_rfl).symm.trans hf) |>.symm
   obtain rfl : fn = Tryz.f6 := (Option.some.inj (Tryz.func6.symm.trans hfn)).symm
   exact ⟨by kernel_rfl, fun j t ht => by
    rw [Tryz.params6] at ht
    rcases j with _ | j
    ·obtain rfl : t = 26 := by simpa using ht.symm
     exact (show Tryz.prog.wantsStandIn 26 = false by kernel_rfl)
    rcases j with _ | j
    ·obtain rfl : t = 22 := by simpa using ht.symm
     exact (show Tryz.prog.wantsStandIn 22 = false by kernel_rfl)
    simp at ht⟩)
  (by kernel_rfl)
end Go.Proofs.YtaoichlepfiliaaGreatDoor
