/- What the proof needs of PureAdmitFlat: only what is used is left (wip/tools/prune.py). Conditions stand in each sentence. -/
import Derived.Test.YtioahkblhekgpaaGreatDoorProg
import Derived.Below
import Derived.Deep.Draws
import Derived.Deep.AppendLies
import Derived.Maps.AppendAt
import Derived.OwnWalk
import Derived.Laws.BytesArg
import Derived.Laws.MakeOwn
import Derived.Laws.OwnMore
import Derived.Deep.OwnRows
import Derived.Tactics
import Derived.Lib.ConvBytes
import Derived.Laws.Slices
import Derived.WalkKit
import Derived.KernelRfl
import Derived.RowKit3
import Derived.Deep.LoopGhost
import Derived.Deep.QuietTactic
import Derived.BigQuiet
import Derived.WideLaws
import Derived.Deep.DeepCutAuto
import Derived.Deep.CutBlock
import Derived.Deep.RegionHeld3
import Derived.Laws.Rows
import Derived.Lib.AppendStr
import Derived.ArgAppend
import Derived.Laws.IdiomCopy
import Derived.OrdersHeld
import Derived.Laws.BitsLemmas
import Derived.RowKit
import Derived.Laws.FloatArith
import Derived.Test.YtioahkblhekgpaaGreatDoorQNE0
import Derived.Test.YtioahkblhekgpaaGreatDoorQNR0
import Derived.Test.YtioahkblhekgpaaGreatDoorQNOri
import Derived.Test.YtioahkblhekgpaaGreatDoorQNWWords
import Derived.Test.YtioahkblhekgpaaGreatDoorQNWLast
import Derived.Test.YtioahkblhekgpaaGreatDoorQNWTab
import Derived.Test.YtioahkblhekgpaaGreatDoorQNWFootNe
import Derived.Test.YtioahkblhekgpaaGreatDoorQNWEqStruct
import Derived.Test.YtioahkblhekgpaaGreatDoorQNWRepsOne
import Derived.Test.YtioahkblhekgpaaGreatDoorQNWInvWords
import Derived.Test.YtioahkblhekgpaaGreatDoorQNWGuard
import Derived.Test.YtioahkblhekgpaaGreatDoorQNWMore
import Derived.Test.YtioahkblhekgpaaGreatDoorQNWFlt
import Derived.Test.YtioahkblhekgpaaGreatDoorQNWMath
import Derived.Test.YtioahkblhekgpaaGreatDoorQNTwi
import Derived.Test.YtioahkblhekgpaaGreatDoorQNFla
import Derived.Test.YtioahkblhekgpaaGreatDoorQNMAdmitFlat1
import Derived.Test.YtioahkblhekgpaaGreatDoorQNO1
import Derived.Test.YtioahkblhekgpaaGreatDoorQNWrk
set_option linter.unusedVariables false
set_option linter.unusedSimpArgs false
namespace Go.Proofs.YtioahkblhekgpaaGreatDoor.Adm
end Go.Proofs.YtioahkblhekgpaaGreatDoor.Adm
namespace Go.Proofs.YtioahkblhekgpaaGreatDoor.E
end Go.Proofs.YtioahkblhekgpaaGreatDoor.E
namespace Go.Proofs.YtioahkblhekgpaaGreatDoor.FltP
end Go.Proofs.YtioahkblhekgpaaGreatDoor.FltP
namespace Go.Proofs.YtioahkblhekgpaaGreatDoor.MAdmitFlat
end Go.Proofs.YtioahkblhekgpaaGreatDoor.MAdmitFlat
namespace Go.Proofs.YtioahkblhekgpaaGreatDoor.O
end Go.Proofs.YtioahkblhekgpaaGreatDoor.O
namespace Go.Proofs.YtioahkblhekgpaaGreatDoor.R
end Go.Proofs.YtioahkblhekgpaaGreatDoor.R
namespace Go.Proofs.YtioahkblhekgpaaGreatDoorW.PrintLast
end Go.Proofs.YtioahkblhekgpaaGreatDoorW.PrintLast
namespace Go.Proofs.YtioahkblhekgpaaGreatDoorW.PrintWords
end Go.Proofs.YtioahkblhekgpaaGreatDoorW.PrintWords
namespace Go.Proofs.YtioahkblhekgpaaGreatDoor.Pure
open Go.RowKit Go.Proofs.YtioahkblhekgpaaGreatDoor.R Go.Proofs.YtioahkblhekgpaaGreatDoor.E Go.Proofs.YtioahkblhekgpaaGreatDoor.O Go.Proofs.YtioahkblhekgpaaGreatDoor.MAdmitFlat Go.Proofs.YtioahkblhekgpaaGreatDoor.FltP Go.Proofs.YtioahkblhekgpaaGreatDoorW.PrintWords Go.Proofs.YtioahkblhekgpaaGreatDoorW.PrintLast
open Go.Proofs.YtioahkblhekgpaaGreatDoor.Adm (S gp Wd WdB wd_to wd_of allF allF_ok flatAll unlAll unl_lt PT sgnAt zi ordAll twAll)
theorem order_f {l : List S} (h : Wd l) : admit_Order.f l = some (zi (ordAll l)) := by unfold admit_Order.f; rw [if_pos (wd_to h)]
theorem twins_f {l : List S} (h : Wd l) : admit_Twins.f l = some (zi (twAll l)) := by unfold admit_Twins.f; rw [if_pos (wd_to h)]
theorem unlike_f {l : List S} (h : Wd l) : admit_Unlike.f l = some (zi (unlAll l)) := by unfold admit_Unlike.f; rw [if_pos (wd_to h)]
theorem flat_f {l : List S} (h : Wd l) : admit_Flat.f l = some (flatAll l) := by unfold admit_Flat.f; rw [if_pos (wd_to h)]
theorem works_f : trivetlaw07_works.f = some true := by
  have hw : Wd Adm.ex1 := wd_of (by decide +kernel)
  have hw2 : Wd Adm.ex2 := wd_of (by decide +kernel)
  have o := order_f hw
  have t := twins_f hw
  have u := unlike_f hw
  have f1 := flat_f hw
  have f2 := flat_f hw2
  rw [Adm.ex1_o] at o
  rw [Adm.ex1_t] at t
  rw [Adm.ex1_u] at u
  rw [Adm.ex1_f] at f1
  rw [Adm.ex2_f] at f2
  unfold Adm.ex1 at o t u f1
  unfold Adm.ex2 at f2
  unfold trivetlaw07_works.f
  simp only [Option.bind_some, o, t, u, f1, f2]
  decide
end Go.Proofs.YtioahkblhekgpaaGreatDoor.Pure
