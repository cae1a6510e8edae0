/- What the proof needs of CardAdmitNames: only what is used is left (wip/tools/prune.py). Conditions stand in each sentence. -/
import Derived.Test.YtioahkblhekgpaaGreatDoorTie
import Derived.Test.YtioahkblhekgpaaGreatDoorCards
import Derived.SevenTiedAt
import Derived.Test.YtioahkblhekgpaaGreatDoorQNLawAdmitNames
set_option linter.unusedVariables false
set_option linter.unusedSimpArgs false
namespace Go.Proofs.YtioahkblhekgpaaGreatDoor
open Go
theorem admitNames_card : Rows.AdmitNamesCardSaid :=
  Claim7.holds_tied_plain_at .later [] [.data] true (true, "4a494f55ba293d742d60d3ad5307d7e78a225d7ef1208fd6217646a6ce7b3c4b") false
    admitNames_holds (fun _ h => by cases h) (by kernel_rfl) (fun _ h => by cases h) admitNames_row_tie rfl ⟨rfl, rfl⟩ (by kernel_rfl) rfl
    (fun f fn hf hfn => by
      obtain rfl : f = 7 := Option.some.inj ((show Tryz.prog.funcNamed "trivet/trivetlaw07.AdmitNames" = some 7 by kernel_rfl).symm.trans hf) |>.symm
      obtain rfl : fn = Tryz.f7 := (Option.some.inj (Tryz.func7.symm.trans hfn)).symm
      exact ⟨by kernel_rfl, fun j t ht => by
        rw [Tryz.params7] at ht
        simp at ht⟩)
    (by kernel_rfl)
end Go.Proofs.YtioahkblhekgpaaGreatDoor
