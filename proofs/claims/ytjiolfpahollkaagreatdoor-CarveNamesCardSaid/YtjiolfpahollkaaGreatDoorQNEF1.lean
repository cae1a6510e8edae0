/- What the proof needs of EF1: only what is used is left (wip/tools/prune.py). Conditions stand in each sentence. -/
import Derived.Test.YtjiolfpahollkaaGreatDoorProg
import Derived.Below
import Derived.Deep.Draws
import Derived.Deep.AppendLies
import Derived.Maps.AppendAt
import Derived.OwnWalk
import Derived.Laws.BytesArg
import Derived.Laws.MakeOwn
import Derived.Laws.OwnMore
import Derived.Deep.OwnRows
import Derived.Tactics
import Derived.Lib.ConvBytes
import Derived.Laws.Slices
import Derived.WalkKit
import Derived.KernelRfl
import Derived.RowKit3
import Derived.Deep.LoopGhost
import Derived.Deep.QuietTactic
import Derived.BigQuiet
import Derived.WideLaws
import Derived.Deep.DeepCutAuto
import Derived.Deep.CutBlock
import Derived.Deep.RegionHeld3
import Derived.Laws.Rows
import Derived.Lib.AppendStr
import Derived.ArgAppend
import Derived.Laws.IdiomCopy
import Derived.OrdersHeld
import Derived.Laws.BitsLemmas
import Derived.RowKit
import Derived.Laws.FloatArith
import Derived.Laws.StructEq
import Derived.Test.YtjiolfpahollkaaGreatDoorQNWWords
import Derived.Test.YtjiolfpahollkaaGreatDoorQNWLast
import Derived.Test.YtjiolfpahollkaaGreatDoorQNWFootNe
set_option linter.unusedVariables false
set_option linter.unusedSimpArgs false
namespace Go.Proofs.YtjiolfpahollkaaGreatDoorW.PrintLast
end Go.Proofs.YtjiolfpahollkaaGreatDoorW.PrintLast
namespace Go.Proofs.YtjiolfpahollkaaGreatDoorW.PrintMore
end Go.Proofs.YtjiolfpahollkaaGreatDoorW.PrintMore
namespace Go.Proofs.YtjiolfpahollkaaGreatDoorW.PrintWords
end Go.Proofs.YtjiolfpahollkaaGreatDoorW.PrintWords
namespace Go.Proofs.YtjiolfpahollkaaGreatDoor.EF
open Go.RowKit Go.Proofs.YtjiolfpahollkaaGreatDoorW.PrintWords Go.Proofs.YtjiolfpahollkaaGreatDoorW.PrintLast Go.Proofs.YtjiolfpahollkaaGreatDoorW.PrintMore
set_option linter.unusedVariables false
set_option linter.unusedSimpArgs false
def math_Abs.f (a0 : Nat) : Option (Nat) := some (fof (Go.bits .andNot .u64 (fbits a0) 9223372036854775808))
set_option maxHeartbeats 8000000 in
set_option maxRecDepth 100000 in
theorem math_Abs.calls (a0 : Nat) (r : Nat) (w : World) (h : math_Abs.f a0 = some r) :
    Calls Tryz.prog 199 #[.float .f64 a0] w fun e w' => e = .returned (.float .f64 r) ∧ Drawn0 w w' := by
  have H : (some (fof (Go.bits .andNot .u64 (fbits a0) 9223372036854775808))) = some r := h
  clear h
  obtain rfl := Option.some.inj H
  go_enter Tryz.func199, Tryz.ntmps199
  go_wp2
  go_ret
  exact ⟨by first | rfl | (simp; done) | (simp [*]; done), by repeat (first | exact Drawn0.refl _ | apply Drawn0.step)⟩
def eft_Tame.f (a0 : Nat) : Option (Bool) := (math_Abs.f a0).bind fun t101 => (some (FloatKind.f64.format.order t101 9110782046170513408 == some .lt || FloatKind.f64.format.order t101 9110782046170513408 == some .eq))
set_option maxHeartbeats 8000000 in
set_option maxRecDepth 100000 in
theorem eft_Tame.calls (a0 : Nat) (r : Bool) (w : World) (h : eft_Tame.f a0 = some r) :
    Calls Tryz.prog 273 #[.float .f64 a0] w fun e w' => e = .returned (.bool r) ∧ Drawn0 w w' := by
  have H : ((math_Abs.f a0).bind fun t101 => (some (FloatKind.f64.format.order t101 9110782046170513408 == some .lt || FloatKind.f64.format.order t101 9110782046170513408 == some .eq))) = some r := h
  clear h
  replace H := Option.bind_eq_some_iff.mp H
  obtain ⟨t101, A20, H⟩ := H
  replace H : (some (FloatKind.f64.format.order t101 9110782046170513408 == some .lt || FloatKind.f64.format.order t101 9110782046170513408 == some .eq)) = some r := H
  have A2 := Aside0.mk A20
  clear A20
  obtain rfl := Option.some.inj H
  go_enter Tryz.func273, Tryz.ntmps273
  go_wp2_with (first | ((with_reducible refine gate_callee (f := 199) rfl ?_); refine goesL_ (some 4) rfl rfl Tryz.func199 (by kernel_rfl) rfl #[.float .f64 a0] rfl (by (try simp only [List.map_toArray, List.map_cons, List.map_nil]); first | done | rfl | (simp only [List.length_drop, List.length_take]; rfl)) ?_; (with_reducible refine (math_Abs.calls a0 t101 _ A2.out).mono ?_); rintro e w' ⟨rfl, ⟨nd, rfl⟩⟩; refine ⟨_, rfl, ?_⟩))
  go_ret
  exact ⟨by first | rfl | (simp; done) | (simp [*]; done), by repeat (first | exact Drawn0.refl _ | apply Drawn0.step)⟩
def eft_Safe.f (a0 : Nat) : Option (Bool) := (math_Abs.f a0).bind fun t102 => (if (FloatKind.f64.format.order t102 0 == some .eq) = true then (some true) else (if (FloatKind.f64.format.order t102 2580562586483294208 == some .gt || FloatKind.f64.format.order t102 2580562586483294208 == some .eq) = true then (some (FloatKind.f64.format.order t102 6633802251116740608 == some .lt || FloatKind.f64.format.order t102 6633802251116740608 == some .eq)) else (some false)))
set_option maxHeartbeats 8000000 in
set_option maxRecDepth 100000 in
theorem eft_Safe.calls (a0 : Nat) (r : Bool) (w : World) (h : eft_Safe.f a0 = some r) :
    Calls Tryz.prog 290 #[.float .f64 a0] w fun e w' => e = .returned (.bool r) ∧ Drawn0 w w' := by
  have H : ((math_Abs.f a0).bind fun t102 => (if (FloatKind.f64.format.order t102 0 == some .eq) = true then (some true) else (if (FloatKind.f64.format.order t102 2580562586483294208 == some .gt || FloatKind.f64.format.order t102 2580562586483294208 == some .eq) = true then (some (FloatKind.f64.format.order t102 6633802251116740608 == some .lt || FloatKind.f64.format.order t102 6633802251116740608 == some .eq)) else (some false)))) = some r := h
  clear h
  replace H := Option.bind_eq_some_iff.mp H
  obtain ⟨t102, A20, H⟩ := H
  replace H : (if (FloatKind.f64.format.order t102 0 == some .eq) = true then (some true) else (if (FloatKind.f64.format.order t102 2580562586483294208 == some .gt || FloatKind.f64.format.order t102 2580562586483294208 == some .eq) = true then (some (FloatKind.f64.format.order t102 6633802251116740608 == some .lt || FloatKind.f64.format.order t102 6633802251116740608 == some .eq)) else (some false))) = some r := H
  have A2 := Aside0.mk A20
  clear A20
  by_cases c3 : (FloatKind.f64.format.order t102 0 == some .eq) = true
  · rw [if_pos c3] at H
    have c3b0 : (FloatKind.f64.format.order t102 0 == some .eq) = true := c3
    (try (have c3b1 : decide (FloatKind.f64.format.order t102 0 = some .eq) = true := by simpa using c3))
    (try (have c3b2 : (FloatKind.f64.format.order t102 0 == some .eq) = true := by simpa using c3))
    clear c3
    obtain rfl := Option.some.inj H
    go_enter Tryz.func290, Tryz.ntmps290
    go_wp2_with (first | ((with_reducible refine gate_callee (f := 199) rfl ?_); refine goesL_ (some 4) rfl rfl Tryz.func199 (by kernel_rfl) rfl #[.float .f64 a0] rfl (by (try simp only [List.map_toArray, List.map_cons, List.map_nil]); first | done | rfl | (simp only [List.length_drop, List.length_take]; rfl)) ?_; (with_reducible refine (math_Abs.calls a0 t102 _ A2.out).mono ?_); rintro e w' ⟨rfl, ⟨nd, rfl⟩⟩; refine ⟨_, rfl, ?_⟩))
    go_ret
    exact ⟨by first | rfl | (simp; done) | (simp [*]; done), by repeat (first | exact Drawn0.refl _ | apply Drawn0.step)⟩
  · rw [if_neg c3] at H
    have c3b0 : (FloatKind.f64.format.order t102 0 == some .eq) = false := by simpa using c3
    (try (have c3b1 : decide (FloatKind.f64.format.order t102 0 = some .eq) = false := by simpa using c3))
    (try (have c3b2 : (FloatKind.f64.format.order t102 0 == some .eq) = false := by simpa using c3))
    (try (have c3b3 : ¬ (FloatKind.f64.format.order t102 0 = some .eq) := by simpa using c3))
    clear c3
    by_cases c4 : (FloatKind.f64.format.order t102 2580562586483294208 == some .gt || FloatKind.f64.format.order t102 2580562586483294208 == some .eq) = true
    · rw [if_pos c4] at H
      have c4b0 : (FloatKind.f64.format.order t102 2580562586483294208 == some .gt || FloatKind.f64.format.order t102 2580562586483294208 == some .eq) = true := c4
      (try (have c4b1 : decide (FloatKind.f64.format.order t102 2580562586483294208 = some .gt || FloatKind.f64.format.order t102 2580562586483294208 == some .eq) = true := by simpa using c4))
      (try (have c4b2 : (FloatKind.f64.format.order t102 2580562586483294208 == some .gt || FloatKind.f64.format.order t102 2580562586483294208 == some .eq) = true := by simpa using c4))
      clear c4
      obtain rfl := Option.some.inj H
      go_enter Tryz.func290, Tryz.ntmps290
      go_wp2_with (first | ((with_reducible refine gate_callee (f := 199) rfl ?_); refine goesL_ (some 4) rfl rfl Tryz.func199 (by kernel_rfl) rfl #[.float .f64 a0] rfl (by (try simp only [List.map_toArray, List.map_cons, List.map_nil]); first | done | rfl | (simp only [List.length_drop, List.length_take]; rfl)) ?_; (with_reducible refine (math_Abs.calls a0 t102 _ A2.out).mono ?_); rintro e w' ⟨rfl, ⟨nd, rfl⟩⟩; refine ⟨_, rfl, ?_⟩))
      go_ret
      exact ⟨by first | rfl | (simp; done) | (simp [*]; done), by repeat (first | exact Drawn0.refl _ | apply Drawn0.step)⟩
    · rw [if_neg c4] at H
      have c4b0 : (FloatKind.f64.format.order t102 2580562586483294208 == some .gt || FloatKind.f64.format.order t102 2580562586483294208 == some .eq) = false := by simpa using c4
      (try (have c4b1 : decide (FloatKind.f64.format.order t102 2580562586483294208 = some .gt || FloatKind.f64.format.order t102 2580562586483294208 == some .eq) = false := by simpa using c4))
      (try (have c4b2 : (FloatKind.f64.format.order t102 2580562586483294208 == some .gt || FloatKind.f64.format.order t102 2580562586483294208 == some .eq) = false := by simpa using c4))
      (try (have c4b3 : ¬ (FloatKind.f64.format.order t102 2580562586483294208 = some .gt || FloatKind.f64.format.order t102 2580562586483294208 == some .eq) := by simpa using c4))
      clear c4
      obtain rfl := Option.some.inj H
      go_enter Tryz.func290, Tryz.ntmps290
      go_wp2_with (first | ((with_reducible refine gate_callee (f := 199) rfl ?_); refine goesL_ (some 4) rfl rfl Tryz.func199 (by kernel_rfl) rfl #[.float .f64 a0] rfl (by (try simp only [List.map_toArray, List.map_cons, List.map_nil]); first | done | rfl | (simp only [List.length_drop, List.length_take]; rfl)) ?_; (with_reducible refine (math_Abs.calls a0 t102 _ A2.out).mono ?_); rintro e w' ⟨rfl, ⟨nd, rfl⟩⟩; refine ⟨_, rfl, ?_⟩))
      go_ret
      exact ⟨by first | rfl | (simp; done) | (simp [*]; done), by repeat (first | exact Drawn0.refl _ | apply Drawn0.step)⟩
def eft_Split.f (a0 : Nat) : Option (Nat × Nat) := (eft_Safe.f a0).bind fun t103 => (if t103 = true then ((floatBits .mul .f64 4728779608772575232 a0).bind fun t104 => ((floatBits .sub .f64 t104 a0).bind fun t105 => ((floatBits .sub .f64 t104 t105).bind fun t106 => ((floatBits .sub .f64 a0 t106).bind fun t107 => (some (t106, t107)))))) else (some (0, 0)))
set_option maxHeartbeats 8000000 in
set_option maxRecDepth 100000 in
theorem eft_Split.calls (a0 : Nat) (r1 : Nat) (r2 : Nat) (w : World) (h : eft_Split.f a0 = some (r1, r2)) :
    Calls Tryz.prog 291 #[.float .f64 a0] w fun e w' => e = .returned (.tuple #[.float .f64 r1, .float .f64 r2]) ∧ Drawn0 w w' := by
  have H : ((eft_Safe.f a0).bind fun t103 => (if t103 = true then ((floatBits .mul .f64 4728779608772575232 a0).bind fun t104 => ((floatBits .sub .f64 t104 a0).bind fun t105 => ((floatBits .sub .f64 t104 t105).bind fun t106 => ((floatBits .sub .f64 a0 t106).bind fun t107 => (some (t106, t107)))))) else (some (0, 0)))) = some (r1, r2) := h
  clear h
  replace H := Option.bind_eq_some_iff.mp H
  obtain ⟨t103, A20, H⟩ := H
  replace H : (if t103 = true then ((floatBits .mul .f64 4728779608772575232 a0).bind fun t104 => ((floatBits .sub .f64 t104 a0).bind fun t105 => ((floatBits .sub .f64 t104 t105).bind fun t106 => ((floatBits .sub .f64 a0 t106).bind fun t107 => (some (t106, t107)))))) else (some (0, 0))) = some (r1, r2) := H
  have A2 := Aside0.mk A20
  clear A20
  by_cases c3 : t103 = true
  · subst c3
    have H1 : ((floatBits .mul .f64 4728779608772575232 a0).bind fun t104 => ((floatBits .sub .f64 t104 a0).bind fun t105 => ((floatBits .sub .f64 t104 t105).bind fun t106 => ((floatBits .sub .f64 a0 t106).bind fun t107 => (some (t106, t107)))))) = some (r1, r2) := by rw [if_pos rfl] at H; exact H
    clear H
    have H := H1
    clear H1
    replace H := Option.bind_eq_some_iff.mp H
    obtain ⟨t104, hfop_, H⟩ := H
    replace H : ((floatBits .sub .f64 t104 a0).bind fun t105 => ((floatBits .sub .f64 t104 t105).bind fun t106 => ((floatBits .sub .f64 a0 t106).bind fun t107 => (some (t106, t107))))) = some (r1, r2) := H
    have hfw4 := fun w_ => run_float_arith (P := Tryz.prog) w_ .mul 66 .f64 4728779608772575232 a0 t104 hfop_
    clear hfop_
    replace H := Option.bind_eq_some_iff.mp H
    obtain ⟨t105, hfop_, H⟩ := H
    replace H : ((floatBits .sub .f64 t104 t105).bind fun t106 => ((floatBits .sub .f64 a0 t106).bind fun t107 => (some (t106, t107)))) = some (r1, r2) := H
    have hfw5 := fun w_ => run_float_arith (P := Tryz.prog) w_ .sub 66 .f64 t104 a0 t105 hfop_
    clear hfop_
    replace H := Option.bind_eq_some_iff.mp H
    obtain ⟨t106, hfop_, H⟩ := H
    replace H : ((floatBits .sub .f64 a0 t106).bind fun t107 => (some (t106, t107))) = some (r1, r2) := H
    have hfw6 := fun w_ => run_float_arith (P := Tryz.prog) w_ .sub 66 .f64 t104 t105 t106 hfop_
    clear hfop_
    replace H := Option.bind_eq_some_iff.mp H
    obtain ⟨t107, hfop_, H⟩ := H
    replace H : (some (t106, t107)) = some (r1, r2) := H
    have hfw7 := fun w_ => run_float_arith (P := Tryz.prog) w_ .sub 66 .f64 a0 t106 t107 hfop_
    clear hfop_
    simp only [Option.some.injEq, Prod.mk.injEq] at H
    obtain ⟨rfl, rfl⟩ := H
    go_enter Tryz.func291, Tryz.ntmps291
    go_wp2_with (first | ((with_reducible refine gate_callee (f := 290) rfl ?_); refine goesL_ (some 7) rfl rfl Tryz.func290 (by kernel_rfl) rfl #[.float .f64 a0] rfl (by (try simp only [List.map_toArray, List.map_cons, List.map_nil]); first | done | rfl | (simp only [List.length_drop, List.length_take]; rfl)) ?_; (with_reducible refine (eft_Safe.calls a0 true _ A2.out).mono ?_); rintro e w' ⟨rfl, ⟨nd, rfl⟩⟩; refine ⟨_, rfl, ?_⟩))
    go_ret2
    exact ⟨by first | rfl | (simp; done) | (simp [*]; done), by repeat (first | exact Drawn0.refl _ | apply Drawn0.step)⟩
  · replace c3 := Bool.eq_false_iff.mpr c3
    subst c3
    have H1 : (some (0, 0)) = some (r1, r2) := by rw [if_neg (show ¬ (false = true) by decide)] at H; exact H
    clear H
    have H := H1
    clear H1
    simp only [Option.some.injEq, Prod.mk.injEq] at H
    obtain ⟨rfl, rfl⟩ := H
    go_enter Tryz.func291, Tryz.ntmps291
    go_wp2_with (first | ((with_reducible refine gate_callee (f := 290) rfl ?_); refine goesL_ (some 7) rfl rfl Tryz.func290 (by kernel_rfl) rfl #[.float .f64 a0] rfl (by (try simp only [List.map_toArray, List.map_cons, List.map_nil]); first | done | rfl | (simp only [List.length_drop, List.length_take]; rfl)) ?_; (with_reducible refine (eft_Safe.calls a0 false _ A2.out).mono ?_); rintro e w' ⟨rfl, ⟨nd, rfl⟩⟩; refine ⟨_, rfl, ?_⟩))
    go_ret2
    exact ⟨by first | rfl | (simp; done) | (simp [*]; done), by repeat (first | exact Drawn0.refl _ | apply Drawn0.step)⟩
end Go.Proofs.YtjiolfpahollkaaGreatDoor.EF
