/- What the proof needs of E0: only what is used is left (wip/tools/prune.py). Conditions stand in each sentence. -/
import Derived.Test.YtjiolfpahollkaaGreatDoorProg
import Derived.Below
import Derived.Deep.Draws
import Derived.Deep.AppendLies
import Derived.Maps.AppendAt
import Derived.OwnWalk
import Derived.Laws.BytesArg
import Derived.Laws.MakeOwn
import Derived.Laws.OwnMore
import Derived.Deep.OwnRows
import Derived.Tactics
import Derived.Lib.ConvBytes
import Derived.Laws.Slices
import Derived.WalkKit
import Derived.KernelRfl
import Derived.RowKit3
import Derived.Deep.LoopGhost
import Derived.Deep.QuietTactic
import Derived.BigQuiet
import Derived.WideLaws
import Derived.Deep.DeepCutAuto
import Derived.Deep.CutBlock
import Derived.Deep.RegionHeld3
import Derived.Laws.Rows
import Derived.Lib.AppendStr
import Derived.ArgAppend
import Derived.Laws.IdiomCopy
import Derived.OrdersHeld
import Derived.Laws.BitsLemmas
import Derived.RowKit
import Derived.Laws.FloatArith
import Derived.Laws.StructEq
import Derived.Test.YtjiolfpahollkaaGreatDoorQNWFootNe
import Derived.Test.YtjiolfpahollkaaGreatDoorQNEft
import Derived.Test.YtjiolfpahollkaaGreatDoorQNWWords
import Derived.Test.YtjiolfpahollkaaGreatDoorQNWLast
set_option linter.unusedVariables false
set_option linter.unusedSimpArgs false
namespace Go.Proofs.YtjiolfpahollkaaGreatDoor.R
end Go.Proofs.YtjiolfpahollkaaGreatDoor.R
namespace Go.Proofs.YtjiolfpahollkaaGreatDoorW.PrintLast
end Go.Proofs.YtjiolfpahollkaaGreatDoorW.PrintLast
namespace Go.Proofs.YtjiolfpahollkaaGreatDoorW.PrintMore
end Go.Proofs.YtjiolfpahollkaaGreatDoorW.PrintMore
namespace Go.Proofs.YtjiolfpahollkaaGreatDoorW.PrintWords
end Go.Proofs.YtjiolfpahollkaaGreatDoorW.PrintWords
namespace Go.Proofs.YtjiolfpahollkaaGreatDoor.E
open Go.Proofs.YtjiolfpahollkaaGreatDoor.R
open Go.RowKit Go.Proofs.YtjiolfpahollkaaGreatDoorW.PrintWords Go.Proofs.YtjiolfpahollkaaGreatDoorW.PrintLast Go.Proofs.YtjiolfpahollkaaGreatDoorW.PrintMore
set_option linter.unusedVariables false
set_option linter.unusedSimpArgs false
theorem info66 : (Tryz.prog.info? 66).map (fun i => (i.zero, i.size, i.bytes)) = some (some (.float .f64 0), 1, 8) := by kernel_rfl
theorem info68 : (Tryz.prog.info? 68).map (fun i => (i.zero, i.size, i.bytes)) = some (some (.agg #[(.float .f64 0), (.float .f64 0)]), 2, 16) := by kernel_rfl
structure S68 where
  f0 : Nat
  f1 : Nat
def z68 : S68 := ⟨(0 : Nat), (0 : Nat)⟩
def k68 : Kd S68 := Kd.iso (Kd.pair Kd.f64 Kd.f64) (fun x : S68 => (x.f0, x.f1))
theorem k68_open {w : World} {x : S68} {cs : List Value} (h : k68.K w x cs) : cs = [.float .f64 x.f0, .float .f64 x.f1] := by
  obtain ⟨_, _, rfl, rfl, rfl⟩ := h
  exact rfl
theorem k68_mkM (w : World) (base : Nat) (ok : Nat → Prop) (x : S68)  : k68.M w base ok x [.float .f64 x.f0, .float .f64 x.f1] := ⟨[.float .f64 x.f0], [.float .f64 x.f1], rfl, rfl, rfl⟩
def rd_T68 (xs : List S68) (i : Int) : S68 := xs.getD i.toNat z68
theorem at_T68 {w : World} {A : Option Addr} {n : Nat} {xs : List S68} (h : Kd.C k68 w A n xs) (i : Int) (h0 : 0 ≤ i) (h1 : i < n) : ∃ ad , A = some ad ∧ w.cell? (ad.add (i.toNat * 2)) = some (.float .f64 (rd_T68 xs i).f0) ∧ w.cell? ⟨(ad.add (i.toNat * 2)).block, (ad.add (i.toNat * 2)).off + 1, none⟩ = some (.float .f64 (rd_T68 xs i).f1) := by
  obtain ⟨ad, c, e, _, hK, hc0⟩ := Kd.C_get h z68 i h0 h1
  have hc : ∀ j u, c[j]? = some u → w.cell? (ad.add (i.toNat * 2 + j)) = some u := hc0
  obtain rfl := k68_open hK
  exact ⟨ad, e, hc 0 _ rfl, by rw [← add_field _ _ 1 (by omega)]; exact hc 1 _ rfl⟩
end Go.Proofs.YtjiolfpahollkaaGreatDoor.E
