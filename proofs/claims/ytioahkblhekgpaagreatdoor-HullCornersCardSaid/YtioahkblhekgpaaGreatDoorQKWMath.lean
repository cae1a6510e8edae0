/- What the proof needs of WMath: only what is used is left (wip/tools/prune.py). Conditions stand in each sentence. -/
import Derived.Test.YtioahkblhekgpaaGreatDoorProg
import Derived.Laws.Externs
import Derived.KernelRfl
import Derived.Test.YtioahkblhekgpaaGreatDoorQKWFlt
set_option linter.unusedVariables false
set_option linter.unusedSimpArgs false
namespace Go.Proofs.YtioahkblhekgpaaGreatDoorW.PrintWords
open Go.RowKit
def fbits (x : Nat) : Int := (x : Int)
def fof (n : Int) : Nat := n.toNat
def fneg (x : Nat) : Nat := Op.negFloat .f64 x
def ftrunc (x : Nat) : Option Nat := match FloatKind.f64.decode x with
 | .nan _ _ => none
 | d => some (FloatKind.f64.encode (d.integral .zero))
@[go_sem] theorem unary_neg_f64 (x : Nat) : Op.unary .neg (.float .f64 x) = pure (.float .f64 (fneg x)) := rfl
@[go_sem] theorem call_fbits (x : Nat) (w : World) : (callFunc 60 #[.float .f64 x]).run Tryz.prog w = .ok (.value (.int .u64 (fbits x))) w := by rw [run_callFunc_extern Tryz.func60 (by kernel_rfl) (by kernel_rfl) (by kernel_rfl) (e := Extern.MathFloatBits.float64bits) (by kernel_rfl)]; rfl
@[go_sem] theorem call_fof (n : Int) (w : World) : (callFunc 59 #[.int .u64 n]).run Tryz.prog w = .ok (.value (.float .f64 (fof n))) w := by rw [run_callFunc_extern Tryz.func59 (by kernel_rfl) (by kernel_rfl) (by kernel_rfl) (e := Extern.MathFloatBits.float64frombits) (by kernel_rfl)]; rfl
theorem call_ftrunc (x r : Nat) (w : World) (h : ftrunc x = some r) : (callFunc 120 #[.float .f64 x]).run Tryz.prog w = .ok (.value (.float .f64 r)) w := by
 rw [run_callFunc_extern Tryz.func120 (by kernel_rfl) (by kernel_rfl) (by kernel_rfl) (e := Extern.MathFloor.toIntegral "math.archTrunc" .zero) (by kernel_rfl)]
 unfold ftrunc at h
 have e : Extern.MathFloor.toIntegral "math.archTrunc" .zero #[.float .f64 x] = (match FloatKind.f64.decode x with
  | .nan s t => if FloatKind.f64.format.quiet t = t then pure (.float .f64 x) else (do let kept ← choose (.extern "math.Floor,Ceil,Trunc,RoundToEven.signallingNaN kept" 2); pure (.float .f64 (if kept == 1 then x else FloatKind.f64.encode (.nan s (FloatKind.f64.format.quiet t)))))
  | d => pure (.float .f64 (FloatKind.f64.encode (d.integral .zero)))) := rfl
 rw [e]
 cases hd : FloatKind.f64.decode x <;> rw [hd] at h <;> first | (cases h; done) | (cases h; rfl)
end Go.Proofs.YtioahkblhekgpaaGreatDoorW.PrintWords
