/- What the proof needs of CardHullPlaces: only what is used is left (wip/tools/prune.py). Conditions stand in each sentence. -/
import Derived.Test.YtioahkblhekgpaaGreatDoorTie
import Derived.Test.YtioahkblhekgpaaGreatDoorCards
import Derived.SevenTiedAt
import Derived.Test.YtioahkblhekgpaaGreatDoorQJLawHullPlaces
set_option linter.unusedVariables false
set_option linter.unusedSimpArgs false
namespace Go.Proofs.YtioahkblhekgpaaGreatDoor
open Go
theorem hullPlaces_card : Rows.HullPlacesCardSaid :=
  Claim7.holds_tied_plain_at .later [] [.data] true (true, "4a494f55ba293d742d60d3ad5307d7e78a225d7ef1208fd6217646a6ce7b3c4b") false
    hullPlaces_holds (fun _ h => by cases h) (by kernel_rfl) (fun _ h => by cases h) hullPlaces_row_tie rfl ⟨rfl, rfl⟩ (by kernel_rfl) rfl
    (fun f fn hf hfn => by
      obtain rfl : f = 9 := Option.some.inj ((show Tryz.prog.funcNamed "trivet/trivetlaw20.HullPlaces" = some 9 by kernel_rfl).symm.trans hf) |>.symm
      obtain rfl : fn = Tryz.f9 := (Option.some.inj (Tryz.func9.symm.trans hfn)).symm
      exact ⟨by kernel_rfl, fun j t ht => by
        rw [Tryz.params9] at ht
        rcases j with _ | j
        · obtain rfl : t = 22 := by simpa using ht.symm
          exact (show Tryz.prog.wantsStandIn 22 = false by kernel_rfl)
        rcases j with _ | j
        · obtain rfl : t = 32 := by simpa using ht.symm
          exact (show Tryz.prog.wantsStandIn 32 = false by kernel_rfl)
        simp at ht⟩)
    (by kernel_rfl)
end Go.Proofs.YtioahkblhekgpaaGreatDoor
