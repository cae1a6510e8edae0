/- What the proof needs of MAdmitTurned0: only what is used is left (wip/tools/prune.py). Conditions stand in each sentence. -/
import Derived.Test.YtioahkblhekgpaaGreatDoorProg
import Derived.Below
import Derived.Deep.Draws
import Derived.Deep.AppendLies
import Derived.Maps.AppendAt
import Derived.OwnWalk
import Derived.Laws.BytesArg
import Derived.Laws.MakeOwn
import Derived.Laws.OwnMore
import Derived.Deep.OwnRows
import Derived.Tactics
import Derived.Lib.ConvBytes
import Derived.Laws.Slices
import Derived.WalkKit
import Derived.KernelRfl
import Derived.RowKit3
import Derived.Deep.LoopGhost
import Derived.Deep.QuietTactic
import Derived.BigQuiet
import Derived.WideLaws
import Derived.Deep.DeepCutAuto
import Derived.Deep.CutBlock
import Derived.Deep.RegionHeld3
import Derived.Laws.Rows
import Derived.Lib.AppendStr
import Derived.ArgAppend
import Derived.Laws.IdiomCopy
import Derived.OrdersHeld
import Derived.Laws.BitsLemmas
import Derived.RowKit
import Derived.Laws.FloatArith
import Derived.Test.YtioahkblhekgpaaGreatDoorQTE0
import Derived.Test.YtioahkblhekgpaaGreatDoorQTR0
import Derived.Test.YtioahkblhekgpaaGreatDoorQTOri
import Derived.Test.YtioahkblhekgpaaGreatDoorQTWWords
import Derived.Test.YtioahkblhekgpaaGreatDoorQTWLast
import Derived.Test.YtioahkblhekgpaaGreatDoorQTWTab
import Derived.Test.YtioahkblhekgpaaGreatDoorQTWApart
import Derived.Test.YtioahkblhekgpaaGreatDoorQTWShare
import Derived.Test.YtioahkblhekgpaaGreatDoorQTWN
import Derived.Test.YtioahkblhekgpaaGreatDoorQTWFootNe
import Derived.Test.YtioahkblhekgpaaGreatDoorQTWEqStruct
import Derived.Test.YtioahkblhekgpaaGreatDoorQTWRepsOne
import Derived.Test.YtioahkblhekgpaaGreatDoorQTWInvWords
import Derived.Test.YtioahkblhekgpaaGreatDoorQTWGuard
import Derived.Test.YtioahkblhekgpaaGreatDoorQTWMore
import Derived.Test.YtioahkblhekgpaaGreatDoorQTWFlt
import Derived.Test.YtioahkblhekgpaaGreatDoorQTWMath
import Derived.Test.YtioahkblhekgpaaGreatDoorQTTwi
import Derived.Test.YtioahkblhekgpaaGreatDoorQTFla
set_option linter.unusedVariables false
set_option linter.unusedSimpArgs false
namespace Go.Proofs.YtioahkblhekgpaaGreatDoor.E
end Go.Proofs.YtioahkblhekgpaaGreatDoor.E
namespace Go.Proofs.YtioahkblhekgpaaGreatDoor.O
end Go.Proofs.YtioahkblhekgpaaGreatDoor.O
namespace Go.Proofs.YtioahkblhekgpaaGreatDoor.R
end Go.Proofs.YtioahkblhekgpaaGreatDoor.R
namespace Go.Proofs.YtioahkblhekgpaaGreatDoorW.PrintLast
end Go.Proofs.YtioahkblhekgpaaGreatDoorW.PrintLast
namespace Go.Proofs.YtioahkblhekgpaaGreatDoorW.PrintMore
end Go.Proofs.YtioahkblhekgpaaGreatDoorW.PrintMore
namespace Go.Proofs.YtioahkblhekgpaaGreatDoorW.PrintWords
end Go.Proofs.YtioahkblhekgpaaGreatDoorW.PrintWords
namespace Go.Proofs.YtioahkblhekgpaaGreatDoor.MAdmitTurned
open Go.Proofs.YtioahkblhekgpaaGreatDoor.R Go.Proofs.YtioahkblhekgpaaGreatDoor.E Go.Proofs.YtioahkblhekgpaaGreatDoor.O
open Go.RowKit Go.Proofs.YtioahkblhekgpaaGreatDoorW.PrintWords Go.Proofs.YtioahkblhekgpaaGreatDoorW.PrintLast Go.Proofs.YtioahkblhekgpaaGreatDoorW.PrintMore
set_option linter.unusedVariables false
set_option linter.unusedSimpArgs false
theorem info32 : (Tryz.prog.info? 32).map (fun i => (i.zero, i.size, i.bytes)) = some (some (.agg #[(.float .f64 0), (.float .f64 0)]), 2, 16) := by kernel_rfl
end Go.Proofs.YtioahkblhekgpaaGreatDoor.MAdmitTurned
