/- What the proof needs of CardCarveNames: only what is used is left (wip/tools/prune.py). Conditions stand in each sentence. -/
import Derived.Test.YtjiolfpahollkaaGreatDoorTie
import Derived.Test.YtjiolfpahollkaaGreatDoorCards
import Derived.SevenTiedAt
import Derived.Test.YtjiolfpahollkaaGreatDoorQNMdE
set_option linter.unusedVariables false
set_option linter.unusedSimpArgs false
namespace Go.Proofs.YtjiolfpahollkaaGreatDoor
open Go
theorem carveNames_card : Rows.CarveNamesCardSaid :=
  Claim7.holds_tied_plain_at .later [] [.data] true (true, "af4560e937db00386fa247db6a6a53ae24bbd9b25575d02ca0a57cc969f17219") false
    carveNames_holds (fun _ h => by cases h) (by kernel_rfl) (fun _ h => by cases h) carveNames_row_tie rfl ⟨rfl, rfl⟩ (by kernel_rfl) rfl
    (fun f fn hf hfn => by
      obtain rfl : f = 6 := Option.some.inj ((show Tryz.prog.funcNamed "trivet/trivetlaw25.CarveNames" = some 6 by kernel_rfl).symm.trans hf) |>.symm
      obtain rfl : fn = Tryz.f6 := (Option.some.inj (Tryz.func6.symm.trans hfn)).symm
      exact ⟨by kernel_rfl, fun j t ht => by
        rw [Tryz.params6] at ht
        simp at ht⟩)
    (by kernel_rfl)
end Go.Proofs.YtjiolfpahollkaaGreatDoor
