/- What the proof needs of Inn: only what is used is left (wip/tools/prune.py). Conditions stand in each sentence. -/
import Derived.Deep.RegionHeld3
import Derived.Test.YtioahkblhekgpaaGreatDoorProg
import Derived.Below
import Derived.Deep.Draws
import Derived.Deep.AppendLies
import Derived.Maps.AppendAt
import Derived.OwnWalk
import Derived.Laws.BytesArg
import Derived.Laws.MakeOwn
import Derived.Laws.OwnMore
import Derived.Deep.OwnRows
import Derived.Tactics
import Derived.Lib.ConvBytes
import Derived.Laws.Slices
import Derived.WalkKit
import Derived.KernelRfl
import Derived.RowKit3
import Derived.Deep.LoopGhost
import Derived.Deep.QuietTactic
import Derived.BigQuiet
import Derived.WideLaws
import Derived.Deep.DeepCutAuto
import Derived.Deep.CutBlock
import Derived.Laws.Rows
import Derived.Lib.AppendStr
import Derived.ArgAppend
import Derived.Laws.IdiomCopy
import Derived.OrdersHeld
import Derived.Laws.BitsLemmas
import Derived.RowKit
import Derived.Laws.FloatArith
import Derived.Test.YtioahkblhekgpaaGreatDoorQICha
import Derived.Test.YtioahkblhekgpaaGreatDoorQIE0
import Derived.Test.YtioahkblhekgpaaGreatDoorQIR0
import Derived.Test.YtioahkblhekgpaaGreatDoorQIOri
import Derived.Test.YtioahkblhekgpaaGreatDoorQIWWords
import Derived.Test.YtioahkblhekgpaaGreatDoorQIWLast
import Derived.Test.YtioahkblhekgpaaGreatDoorQIWFootNe
import Derived.Test.YtioahkblhekgpaaGreatDoorQIWEqStruct
import Derived.Test.YtioahkblhekgpaaGreatDoorQIWRepsOne
import Derived.Test.YtioahkblhekgpaaGreatDoorQIWInvWords
import Derived.Test.YtioahkblhekgpaaGreatDoorQIWMore
import Derived.Test.YtioahkblhekgpaaGreatDoorQIWFlt
import Derived.Test.YtioahkblhekgpaaGreatDoorQIWMath
import Derived.Test.YtioahkblhekgpaaGreatDoorQIWrk
import Derived.Test.YtioahkblhekgpaaGreatDoorQIFla
import Derived.Test.YtioahkblhekgpaaGreatDoorQIO1
import Derived.Test.YtioahkblhekgpaaGreatDoorQIOnn
set_option linter.unusedVariables false
set_option linter.unusedSimpArgs false
namespace Go.Proofs.YtioahkblhekgpaaGreatDoor.E
end Go.Proofs.YtioahkblhekgpaaGreatDoor.E
namespace Go.Proofs.YtioahkblhekgpaaGreatDoor.FltP
end Go.Proofs.YtioahkblhekgpaaGreatDoor.FltP
namespace Go.Proofs.YtioahkblhekgpaaGreatDoor.O
end Go.Proofs.YtioahkblhekgpaaGreatDoor.O
namespace Go.Proofs.YtioahkblhekgpaaGreatDoor.R
end Go.Proofs.YtioahkblhekgpaaGreatDoor.R
namespace Go.Proofs.YtioahkblhekgpaaGreatDoorW.PrintLast
end Go.Proofs.YtioahkblhekgpaaGreatDoorW.PrintLast
namespace Go.Proofs.YtioahkblhekgpaaGreatDoorW.PrintMore
end Go.Proofs.YtioahkblhekgpaaGreatDoorW.PrintMore
namespace Go.Proofs.YtioahkblhekgpaaGreatDoorW.PrintWords
end Go.Proofs.YtioahkblhekgpaaGreatDoorW.PrintWords
namespace Go.Proofs.YtioahkblhekgpaaGreatDoor.Adm
open Go.RowKit Go.Proofs.YtioahkblhekgpaaGreatDoor.FltP Go.Proofs.YtioahkblhekgpaaGreatDoor.R Go.Proofs.YtioahkblhekgpaaGreatDoor.E Go.Proofs.YtioahkblhekgpaaGreatDoor.O Go.Proofs.YtioahkblhekgpaaGreatDoorW.PrintWords Go.Proofs.YtioahkblhekgpaaGreatDoorW.PrintLast Go.Proofs.YtioahkblhekgpaaGreatDoorW.PrintMore
def holdS (x y : S) : Int := holdAt [x, y] 0 1
theorem gp_wd {x : S} (h : gp x = true) : x.f0 < 2 ^ 64 ∧ x.f1 < 2 ^ 64 := ⟨(gp_good h).1.1.2, (gp_good h).2.1.2⟩
theorem holdS_iff (x y : S) : holdS x y = 0 ↔ pt x = pt y := (holdAt_iff [x, y] 0 1).2
def at_ (l : List S) (i : Nat) : S := rd_T32 l (i : Int)
theorem six_below2 {w w1 : World} {p1 p2 p3 p4 p5 p6 : Addr} {v1 v2 v3 v4 v5 v6 : Value} (hb : Below w.heap.size w w1) (h : w.cell? p1 = some v1 ∧ w.cell? p2 = some v2 ∧ w.cell? p3 = some v3 ∧ w.cell? p4 = some v4 ∧ w.cell? p5 = some v5 ∧ w.cell? p6 = some v6) :
    w1.cell? p1 = some v1 ∧ w1.cell? p2 = some v2 ∧ w1.cell? p3 = some v3 ∧ w1.cell? p4 = some v4 ∧ w1.cell? p5 = some v5 ∧ w1.cell? p6 = some v6 :=
  ⟨bcell hb h.1, bcell hb h.2.1, bcell hb h.2.2.1, bcell hb h.2.2.2.1, bcell hb h.2.2.2.2.1, bcell hb h.2.2.2.2.2⟩
end Go.Proofs.YtioahkblhekgpaaGreatDoor.Adm
