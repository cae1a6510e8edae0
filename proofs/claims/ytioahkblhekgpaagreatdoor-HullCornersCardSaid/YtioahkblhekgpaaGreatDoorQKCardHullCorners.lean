/- What the proof needs of CardHullCorners: only what is used is left (wip/tools/prune.py). Conditions stand in each sentence. -/
import Derived.Test.YtioahkblhekgpaaGreatDoorTie
import Derived.Test.YtioahkblhekgpaaGreatDoorCards
import Derived.SevenTiedAt
import Derived.Test.YtioahkblhekgpaaGreatDoorQKLawHullCorners
set_option linter.unusedVariables false
set_option linter.unusedSimpArgs false
namespace Go.Proofs.YtioahkblhekgpaaGreatDoor
open Go
theorem hullCorners_card : Rows.HullCornersCardSaid :=
 Claim7.holds_tied_plain_at .later [] [.data] true (true, "4a494f55ba293d742d60d3ad5307d7e78a225d7ef1208fd6217646a6ce7b3c4b") false
  hullCorners_holds (fun _ h => by cases h) (by kernel_rfl) (fun _ h => by cases h) hullCorners_row_tie rfl ⟨rfl, rfl⟩ (by kernel_rfl) rfl
  (fun f fn hf hfn => by
   obtain rfl : f = 8 := Option.some.inj ((show Tryz.prog.funcNamed "trivet/trivetlaw20.HullCorners" = some 8 by kernel_rfl).symm.trans hf) |>.symm
   obtain rfl : fn = Tryz.f8 := (Option.some.inj (Tryz.func8.symm.trans hfn)).symm
   exact ⟨by kernel_rfl, fun j t ht => by
    rw [Tryz.params8] at ht
    rcases j with _ | j
    ·obtain rfl : t = 22 := by simpa using ht.symm
     exact (show Tryz.prog.wantsStandIn 22 = false by kernel_rfl)
    simp at ht⟩)
  (by kernel_rfl)
end Go.Proofs.YtioahkblhekgpaaGreatDoor
