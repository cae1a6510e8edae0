/- Plain Lean functions for Go functions of the program, and proofs that the calls come to them; written by a program of this session (wip/tools), not by the kit's print. No condition. -/
import Derived.Test.YthcklcfdeejkpaaProg
import Derived.Below
import Derived.Deep.Draws
import Derived.Deep.AppendLies
import Derived.Maps.AppendAt
import Derived.OwnWalk
import Derived.Laws.BytesArg
import Derived.Laws.MakeOwn
import Derived.Laws.OwnMore
import Derived.Deep.OwnRows
import Derived.Tactics
import Derived.Lib.ConvBytes
import Derived.Laws.Slices
import Derived.WalkKit
import Derived.KernelRfl
import Derived.RowKit3
import Derived.Deep.LoopGhost
import Derived.Deep.QuietTactic
import Derived.BigQuiet
import Derived.WideLaws
import Derived.Deep.DeepCutAuto
import Derived.Deep.CutBlock
import Derived.Deep.RegionHeld3
import Derived.Laws.Rows
import Derived.Lib.AppendStr
import Derived.ArgAppend
import Derived.Laws.IdiomCopy
import Derived.OrdersHeld
import Derived.Laws.BitsLemmas
import Derived.RowKit
import Derived.Laws.FloatArith
import Derived.Test.YthcklcfdeejkpaaNum
import Derived.Test.YthcklcfdeejkpaaWWords
import Derived.Test.YthcklcfdeejkpaaWLast
import Derived.Test.YthcklcfdeejkpaaWTab
import Derived.Test.YthcklcfdeejkpaaWFour
import Derived.Test.YthcklcfdeejkpaaWQPut
import Derived.Test.YthcklcfdeejkpaaWApart
import Derived.Test.YthcklcfdeejkpaaWArr
import Derived.Test.YthcklcfdeejkpaaWZeros
import Derived.Test.YthcklcfdeejkpaaWFoot
import Derived.Test.YthcklcfdeejkpaaWKept
import Derived.Test.YthcklcfdeejkpaaWShare
import Derived.Test.YthcklcfdeejkpaaWN
import Derived.Test.YthcklcfdeejkpaaWFootNe
import Derived.Test.YthcklcfdeejkpaaWAt
import Derived.Test.YthcklcfdeejkpaaWEqStruct
import Derived.Test.YthcklcfdeejkpaaWRepsOne
import Derived.Test.YthcklcfdeejkpaaWInv
import Derived.Test.YthcklcfdeejkpaaWInvWords
import Derived.Test.YthcklcfdeejkpaaWGuard
import Derived.Test.YthcklcfdeejkpaaWNEv
import Derived.Test.YthcklcfdeejkpaaWMore
import Derived.Test.YthcklcfdeejkpaaWFlt
import Derived.Test.YthcklcfdeejkpaaWMath
namespace Go.Proofs.Ythcklcfdeejkpaa.M
open Go.Proofs.Ythcklcfdeejkpaa.R
open Go.RowKit Go.Proofs.YthcklcfdeejkpaaW.PrintWords Go.Proofs.YthcklcfdeejkpaaW.PrintLast Go.Proofs.YthcklcfdeejkpaaW.PrintMore
attribute [local go_sem] max2_int min2_int max_two min_two max_three min_three max_four min_four   -- for this text's walks alone
set_option linter.unusedVariables false
set_option linter.unusedSimpArgs false



def errW : Option Int → Value
  | none => .nilIface
  | some c => .iface 0 (.int .i64 c)
theorem errW_none : errW none = .nilIface := rfl
theorem errW_some (c : Int) : errW (some c) = .iface 0 (.int .i64 c) := rfl

-- the values' own types

end Go.Proofs.Ythcklcfdeejkpaa.M
