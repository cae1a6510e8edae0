/- What the proof needs of R0: only what is used is left (wip/tools/prune.py). Conditions stand in each sentence. -/
import Derived.Test.YtioahkblhekgpaaGreatDoorProg
import Derived.Below
import Derived.Deep.Draws
import Derived.Deep.AppendLies
import Derived.Maps.AppendAt
import Derived.OwnWalk
import Derived.Laws.BytesArg
import Derived.Laws.MakeOwn
import Derived.Laws.OwnMore
import Derived.Deep.OwnRows
import Derived.Tactics
import Derived.Lib.ConvBytes
import Derived.Laws.Slices
import Derived.WalkKit
import Derived.KernelRfl
import Derived.RowKit3
import Derived.Deep.LoopGhost
import Derived.Deep.QuietTactic
import Derived.BigQuiet
import Derived.WideLaws
import Derived.Deep.DeepCutAuto
import Derived.Deep.CutBlock
import Derived.Deep.RegionHeld3
import Derived.Laws.Rows
import Derived.Lib.AppendStr
import Derived.ArgAppend
import Derived.Laws.IdiomCopy
import Derived.OrdersHeld
import Derived.Laws.BitsLemmas
import Derived.RowKit
import Derived.Laws.FloatArith
import Derived.Test.YtioahkblhekgpaaGreatDoorQKWWords
import Derived.Test.YtioahkblhekgpaaGreatDoorQKWLast
import Derived.Test.YtioahkblhekgpaaGreatDoorQKWTab
import Derived.Test.YtioahkblhekgpaaGreatDoorQKWFootNe
import Derived.Test.YtioahkblhekgpaaGreatDoorQKWEqStruct
import Derived.Test.YtioahkblhekgpaaGreatDoorQKWRepsOne
import Derived.Test.YtioahkblhekgpaaGreatDoorQKWMore
import Derived.Test.YtioahkblhekgpaaGreatDoorQKWFlt
import Derived.Test.YtioahkblhekgpaaGreatDoorQKWMath
set_option linter.unusedVariables false
set_option linter.unusedSimpArgs false
namespace Go.Proofs.YtioahkblhekgpaaGreatDoorW.PrintLast
end Go.Proofs.YtioahkblhekgpaaGreatDoorW.PrintLast
namespace Go.Proofs.YtioahkblhekgpaaGreatDoorW.PrintMore
end Go.Proofs.YtioahkblhekgpaaGreatDoorW.PrintMore
namespace Go.Proofs.YtioahkblhekgpaaGreatDoorW.PrintWords
end Go.Proofs.YtioahkblhekgpaaGreatDoorW.PrintWords
namespace Go.Proofs.YtioahkblhekgpaaGreatDoor.R
open Go.RowKit Go.Proofs.YtioahkblhekgpaaGreatDoorW.PrintWords Go.Proofs.YtioahkblhekgpaaGreatDoorW.PrintLast Go.Proofs.YtioahkblhekgpaaGreatDoorW.PrintMore
set_option linter.unusedVariables false
set_option linter.unusedSimpArgs false
@[go_sem] theorem fld77_0 (x0 x1 x2 : Value) (w : World) : (Instr.field 77 (.agg #[x0, x1, x2]) 0).run Tryz.prog w = .ok (x0) w := by kernel_rfl
@[go_sem] theorem fld77_1 (x0 x1 x2 : Value) (w : World) : (Instr.field 77 (.agg #[x0, x1, x2]) 1).run Tryz.prog w = .ok (x1) w := by kernel_rfl
@[go_sem] theorem fld77_2 (x0 x1 x2 : Value) (w : World) : (Instr.field 77 (.agg #[x0, x1, x2]) 2).run Tryz.prog w = .ok (x2) w := by kernel_rfl
end Go.Proofs.YtioahkblhekgpaaGreatDoor.R
