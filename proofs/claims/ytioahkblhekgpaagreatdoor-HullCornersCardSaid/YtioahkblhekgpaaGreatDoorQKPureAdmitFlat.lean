/- What the proof needs of PureAdmitFlat: only what is used is left (wip/tools/prune.py). Conditions stand in each sentence. -/
import Derived.Test.YtioahkblhekgpaaGreatDoorProg
import Derived.Below
import Derived.Deep.Draws
import Derived.Deep.AppendLies
import Derived.Maps.AppendAt
import Derived.OwnWalk
import Derived.Laws.BytesArg
import Derived.Laws.MakeOwn
import Derived.Laws.OwnMore
import Derived.Deep.OwnRows
import Derived.Tactics
import Derived.Lib.ConvBytes
import Derived.Laws.Slices
import Derived.WalkKit
import Derived.KernelRfl
import Derived.RowKit3
import Derived.Deep.LoopGhost
import Derived.Deep.QuietTactic
import Derived.BigQuiet
import Derived.WideLaws
import Derived.Deep.DeepCutAuto
import Derived.Deep.CutBlock
import Derived.Deep.RegionHeld3
import Derived.Laws.Rows
import Derived.Lib.AppendStr
import Derived.ArgAppend
import Derived.Laws.IdiomCopy
import Derived.OrdersHeld
import Derived.Laws.BitsLemmas
import Derived.RowKit
import Derived.Laws.FloatArith
import Derived.Test.YtioahkblhekgpaaGreatDoorQKE0
import Derived.Test.YtioahkblhekgpaaGreatDoorQKR0
import Derived.Test.YtioahkblhekgpaaGreatDoorQKOri
import Derived.Test.YtioahkblhekgpaaGreatDoorQKWWords
import Derived.Test.YtioahkblhekgpaaGreatDoorQKWLast
import Derived.Test.YtioahkblhekgpaaGreatDoorQKWTab
import Derived.Test.YtioahkblhekgpaaGreatDoorQKWFootNe
import Derived.Test.YtioahkblhekgpaaGreatDoorQKWEqStruct
import Derived.Test.YtioahkblhekgpaaGreatDoorQKWRepsOne
import Derived.Test.YtioahkblhekgpaaGreatDoorQKWMore
import Derived.Test.YtioahkblhekgpaaGreatDoorQKWFlt
import Derived.Test.YtioahkblhekgpaaGreatDoorQKWMath
import Derived.Test.YtioahkblhekgpaaGreatDoorQKWrk
import Derived.Test.YtioahkblhekgpaaGreatDoorQKFla
import Derived.Test.YtioahkblhekgpaaGreatDoorQKO1
set_option linter.unusedVariables false
set_option linter.unusedSimpArgs false
namespace Go.Proofs.YtioahkblhekgpaaGreatDoor.Adm
end Go.Proofs.YtioahkblhekgpaaGreatDoor.Adm
namespace Go.Proofs.YtioahkblhekgpaaGreatDoor.E
end Go.Proofs.YtioahkblhekgpaaGreatDoor.E
namespace Go.Proofs.YtioahkblhekgpaaGreatDoor.FltP
end Go.Proofs.YtioahkblhekgpaaGreatDoor.FltP
namespace Go.Proofs.YtioahkblhekgpaaGreatDoor.MAdmitFlat
end Go.Proofs.YtioahkblhekgpaaGreatDoor.MAdmitFlat
namespace Go.Proofs.YtioahkblhekgpaaGreatDoor.O
end Go.Proofs.YtioahkblhekgpaaGreatDoor.O
namespace Go.Proofs.YtioahkblhekgpaaGreatDoor.R
end Go.Proofs.YtioahkblhekgpaaGreatDoor.R
namespace Go.Proofs.YtioahkblhekgpaaGreatDoorW.PrintLast
end Go.Proofs.YtioahkblhekgpaaGreatDoorW.PrintLast
namespace Go.Proofs.YtioahkblhekgpaaGreatDoorW.PrintWords
end Go.Proofs.YtioahkblhekgpaaGreatDoorW.PrintWords
namespace Go.Proofs.YtioahkblhekgpaaGreatDoor.Pure
open Go.RowKit Go.Proofs.YtioahkblhekgpaaGreatDoor.R Go.Proofs.YtioahkblhekgpaaGreatDoor.E Go.Proofs.YtioahkblhekgpaaGreatDoor.O Go.Proofs.YtioahkblhekgpaaGreatDoor.MAdmitFlat Go.Proofs.YtioahkblhekgpaaGreatDoor.FltP Go.Proofs.YtioahkblhekgpaaGreatDoorW.PrintWords Go.Proofs.YtioahkblhekgpaaGreatDoorW.PrintLast
open Go.Proofs.YtioahkblhekgpaaGreatDoor.Adm (S gp Wd WdB wd_of allF allF_ok flatAll unlAll unl_lt PT sgnAt zi ordAll twAll)
theorem unl_len {l : List S} (h : (allF l).2 = 0) : (unlAll l).length ≤ l.length := by
 rw [Adm.unlAll_eq h]
 exact Nat.le_trans (List.length_filter_le _ _) (Nat.le_of_eq (Adm.orderN_sorted l).length)
end Go.Proofs.YtioahkblhekgpaaGreatDoor.Pure
