/- What the proof needs of LOrd: only what is used is left (wip/tools/prune.py). Conditions stand in each sentence. -/
import Derived.Test.YtioahkblhekgpaaGreatDoorQNPureAdmitFlat
import Derived.Test.YtioahkblhekgpaaGreatDoorQNCnt
set_option linter.unusedVariables false
set_option linter.unusedSimpArgs false
namespace Go.Proofs.YtioahkblhekgpaaGreatDoor.E
end Go.Proofs.YtioahkblhekgpaaGreatDoor.E
namespace Go.Proofs.YtioahkblhekgpaaGreatDoor.FltP
end Go.Proofs.YtioahkblhekgpaaGreatDoor.FltP
namespace Go.Proofs.YtioahkblhekgpaaGreatDoor.O
end Go.Proofs.YtioahkblhekgpaaGreatDoor.O
namespace Go.Proofs.YtioahkblhekgpaaGreatDoor.R
end Go.Proofs.YtioahkblhekgpaaGreatDoor.R
namespace Go.Proofs.YtioahkblhekgpaaGreatDoorW.PrintLast
end Go.Proofs.YtioahkblhekgpaaGreatDoorW.PrintLast
namespace Go.Proofs.YtioahkblhekgpaaGreatDoorW.PrintMore
end Go.Proofs.YtioahkblhekgpaaGreatDoorW.PrintMore
namespace Go.Proofs.YtioahkblhekgpaaGreatDoorW.PrintWords
end Go.Proofs.YtioahkblhekgpaaGreatDoorW.PrintWords
namespace Go.Proofs.YtioahkblhekgpaaGreatDoor.Adm
open Go.RowKit Go.Proofs.YtioahkblhekgpaaGreatDoor.FltP Go.Proofs.YtioahkblhekgpaaGreatDoor.R Go.Proofs.YtioahkblhekgpaaGreatDoor.E Go.Proofs.YtioahkblhekgpaaGreatDoor.O Go.Proofs.YtioahkblhekgpaaGreatDoorW.PrintWords Go.Proofs.YtioahkblhekgpaaGreatDoorW.PrintLast Go.Proofs.YtioahkblhekgpaaGreatDoorW.PrintMore
theorem works_call (w : World) : Calls Tryz.prog 23 #[] w fun e w' => e = .returned (.bool true) ∧ Below w.heap.size w w' := MAdmitFlat.trivetlaw07_works.calls true w Pure.works_f
set_option maxRecDepth 100000 in
set_option maxHeartbeats 4000000 in
theorem cmp_call {l : List S} {a b : Nat} (hw : Wd l) (hg : ∀ x ∈ l, gp x = true) (ha : a < l.length) (hb : b < l.length) (w : World) :
    Calls Tryz.prog 25 #[.agg #[.float .f64 (rd_T32 l (a : Int)).f0, .float .f64 (rd_T32 l (a : Int)).f1], .agg #[.float .f64 (rd_T32 l (b : Int)).f0, .float .f64 (rd_T32 l (b : Int)).f1]] w fun e w' => e = .returned (.int .i64 (holdAt l a b)) ∧ Below w.heap.size w w' := by
  obtain ⟨k, hk⟩ := (Pure.cmp_at hw hg ha hb).rounds
  exact admit_Cmp.calls k _ _ _ _ _ w hk
end Go.Proofs.YtioahkblhekgpaaGreatDoor.Adm
