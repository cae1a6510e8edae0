/- Lemmas of EF1. Conditions stand in each. -/
import Derived.Test.YtaoichlepfiliaaGreatDoorProg
import Derived.Below
import Derived.Deep.Draws
import Derived.Deep.AppendLies
import Derived.Maps.AppendAt
import Derived.OwnWalk
import Derived.Laws.BytesArg
import Derived.Laws.MakeOwn
import Derived.Laws.OwnMore
import Derived.Deep.OwnRows
import Derived.Tactics
import Derived.Lib.ConvBytes
import Derived.Laws.Slices
import Derived.WalkKit
import Derived.KernelRfl
import Derived.RowKit3
import Derived.Deep.LoopGhost
import Derived.Deep.QuietTactic
import Derived.BigQuiet
import Derived.WideLaws
import Derived.Deep.DeepCutAuto
import Derived.Deep.CutBlock
import Derived.Deep.RegionHeld3
import Derived.Laws.Rows
import Derived.Lib.AppendStr
import Derived.ArgAppend
import Derived.Laws.IdiomCopy
import Derived.OrdersHeld
import Derived.Laws.BitsLemmas
import Derived.RowKit
import Derived.Laws.FloatArith
import Derived.Laws.StructEq
import Derived.Test.YtaoichlepfiliaaGreatDoorQXWWords
import Derived.Test.YtaoichlepfiliaaGreatDoorQXWLast
import Derived.Test.YtaoichlepfiliaaGreatDoorQXWFootNe
import Derived.LoopTactic
import Derived.RegionTactic
import Derived.Lib.Hide
set_option linter.unusedSimpArgs false
set_option linter.unusedVariables false
section
namespace Go.Proofs.YtaoichlepfiliaaGreatDoor.EF
open Go.RowKit Go.Proofs.YtaoichlepfiliaaGreatDoorW.PrintWords Go.Proofs.YtaoichlepfiliaaGreatDoorW.PrintLast
def math_Abs.f (a0 : Nat) : Option (Nat) := some (fof (Go.bits .andNot .u64 (fbits a0) 9223372036854775808))
set_option maxHeartbeats 8000000 in
set_option maxRecDepth 100000 in
theorem math_Abs.calls (a0 : Nat) (r : Nat) (w : World) (h : math_Abs.f a0 = some r) :
 Calls Tryz.prog 114 #[.float .f64 a0] w fun e w' => e = .returned (.float .f64 r) ∧ Drawn0 w w' := by
 have H : (some (fof (Go.bits .andNot .u64 (fbits a0) 9223372036854775808))) = some r := h
 clear h
 obtain rfl := Option.some.inj H
 go_enter Tryz.func114, Tryz.ntmps114
 go_wp2
 go_ret
 exact ⟨by first | rfl | (simp; done) | (simp [*]; done), by repeat (first | exact Drawn0.refl _ | apply Drawn0.step)⟩
def eft_Tame.f (a0 : Nat) : Option (Bool) := (math_Abs.f a0).bind fun t101 => (some (FloatKind.f64.format.order t101 9110782046170513408 == some .lt || FloatKind.f64.format.order t101 9110782046170513408 == some .eq))
set_option maxHeartbeats 8000000 in
set_option maxRecDepth 100000 in
theorem eft_Tame.calls (a0 : Nat) (r : Bool) (w : World) (h : eft_Tame.f a0 = some r) :
 Calls Tryz.prog 183 #[.float .f64 a0] w fun e w' => e = .returned (.bool r) ∧ Drawn0 w w' := by
 have H : ((math_Abs.f a0).bind fun t101 => (some (FloatKind.f64.format.order t101 9110782046170513408 == some .lt || FloatKind.f64.format.order t101 9110782046170513408 == some .eq))) = some r := h
 clear h
 replace H := Option.bind_eq_some_iff.mp H
 obtain ⟨t101, A20, H⟩ := H
 replace H : (some (FloatKind.f64.format.order t101 9110782046170513408 == some .lt || FloatKind.f64.format.order t101 9110782046170513408 == some .eq)) = some r := H
 have A2 := Aside0.mk A20
 clear A20
 obtain rfl := Option.some.inj H
 go_enter Tryz.func183, Tryz.ntmps183
 go_wp2_with (first | ((with_reducible refine gate_callee (f := 114) rfl ?_); refine goesL_ (some 4) rfl rfl Tryz.func114 (by kernel_rfl) rfl #[.float .f64 a0] rfl (by (try simp only [List.map_toArray, List.map_cons, List.map_nil]); first | done | rfl | (simp only [List.length_drop, List.length_take]; rfl)) ?_; (with_reducible refine (math_Abs.calls a0 t101 _ A2.out).mono ?_); rintro e w' ⟨rfl, ⟨nd, rfl⟩⟩; refine ⟨_, rfl, ?_⟩))
 go_ret
 exact ⟨by first | rfl | (simp; done) | (simp [*]; done), by repeat (first | exact Drawn0.refl _ | apply Drawn0.step)⟩
def eft_Safe.f (a0 : Nat) : Option (Bool) := (math_Abs.f a0).bind fun t102 => (if (FloatKind.f64.format.order t102 0 == some .eq) = true then (some true) else (if (FloatKind.f64.format.order t102 2580562586483294208 == some .gt || FloatKind.f64.format.order t102 2580562586483294208 == some .eq) = true then (some (FloatKind.f64.format.order t102 6633802251116740608 == some .lt || FloatKind.f64.format.order t102 6633802251116740608 == some .eq)) else (some false)))
set_option maxHeartbeats 8000000 in
set_option maxRecDepth 100000 in
theorem eft_Safe.calls (a0 : Nat) (r : Bool) (w : World) (h : eft_Safe.f a0 = some r) :
 Calls Tryz.prog 205 #[.float .f64 a0] w fun e w' => e = .returned (.bool r) ∧ Drawn0 w w' := by
 have H : ((math_Abs.f a0).bind fun t102 => (if (FloatKind.f64.format.order t102 0 == some .eq) = true then (some true) else (if (FloatKind.f64.format.order t102 2580562586483294208 == some .gt || FloatKind.f64.format.order t102 2580562586483294208 == some .eq) = true then (some (FloatKind.f64.format.order t102 6633802251116740608 == some .lt || FloatKind.f64.format.order t102 6633802251116740608 == some .eq)) else (some false)))) = some r := h
 clear h
 replace H := Option.bind_eq_some_iff.mp H
 obtain ⟨t102, A20, H⟩ := H
 replace H : (if (FloatKind.f64.format.order t102 0 == some .eq) = true then (some true) else (if (FloatKind.f64.format.order t102 2580562586483294208 == some .gt || FloatKind.f64.format.order t102 2580562586483294208 == some .eq) = true then (some (FloatKind.f64.format.order t102 6633802251116740608 == some .lt || FloatKind.f64.format.order t102 6633802251116740608 == some .eq)) else (some false))) = some r := H
 have A2 := Aside0.mk A20
 clear A20
 by_cases c3 : (FloatKind.f64.format.order t102 0 == some .eq) = true
 ·rw [if_pos c3] at H
  have c3b0 : (FloatKind.f64.format.order t102 0 == some .eq) = true := c3
  (try (have c3b1 : decide (FloatKind.f64.format.order t102 0 = some .eq) = true := by simpa using c3))
  (try (have c3b2 : (FloatKind.f64.format.order t102 0 == some .eq) = true := by simpa using c3))
  clear c3
  obtain rfl := Option.some.inj H
  go_enter Tryz.func205, Tryz.ntmps205
  go_wp2_with (first | ((with_reducible refine gate_callee (f := 114) rfl ?_); refine goesL_ (some 4) rfl rfl Tryz.func114 (by kernel_rfl) rfl #[.float .f64 a0] rfl (by (try simp only [List.map_toArray, List.map_cons, List.map_nil]); first | done | rfl | (simp only [List.length_drop, List.length_take]; rfl)) ?_; (with_reducible refine (math_Abs.calls a0 t102 _ A2.out).mono ?_); rintro e w' ⟨rfl, ⟨nd, rfl⟩⟩; refine ⟨_, rfl, ?_⟩))
  go_ret
  exact ⟨by first | rfl | (simp; done) | (simp [*]; done), by repeat (first | exact Drawn0.refl _ | apply Drawn0.step)⟩
 ·rw [if_neg c3] at H
  have c3b0 : (FloatKind.f64.format.order t102 0 == some .eq) = false := by simpa using c3
  (try (have c3b1 : decide (FloatKind.f64.format.order t102 0 = some .eq) = false := by simpa using c3))
  (try (have c3b2 : (FloatKind.f64.format.order t102 0 == some .eq) = false := by simpa using c3))
  (try (have c3b3 : ¬ (FloatKind.f64.format.order t102 0 = some .eq) := by simpa using c3))
  clear c3
  by_cases c4 : (FloatKind.f64.format.order t102 2580562586483294208 == some .gt || FloatKind.f64.format.order t102 2580562586483294208 == some .eq) = true
  ·rw [if_pos c4] at H
   have c4b0 : (FloatKind.f64.format.order t102 2580562586483294208 == some .gt || FloatKind.f64.format.order t102 2580562586483294208 == some .eq) = true := c4
   (try (have c4b1 : decide (FloatKind.f64.format.order t102 2580562586483294208 = some .gt || FloatKind.f64.format.order t102 2580562586483294208 == some .eq) = true := by simpa using c4))
   (try (have c4b2 : (FloatKind.f64.format.order t102 2580562586483294208 == some .gt || FloatKind.f64.format.order t102 2580562586483294208 == some .eq) = true := by simpa using c4))
   clear c4
   obtain rfl := Option.some.inj H
   go_enter Tryz.func205, Tryz.ntmps205
   go_wp2_with (first | ((with_reducible refine gate_callee (f := 114) rfl ?_); refine goesL_ (some 4) rfl rfl Tryz.func114 (by kernel_rfl) rfl #[.float .f64 a0] rfl (by (try simp only [List.map_toArray, List.map_cons, List.map_nil]); first | done | rfl | (simp only [List.length_drop, List.length_take]; rfl)) ?_; (with_reducible refine (math_Abs.calls a0 t102 _ A2.out).mono ?_); rintro e w' ⟨rfl, ⟨nd, rfl⟩⟩; refine ⟨_, rfl, ?_⟩))
   go_ret
   exact ⟨by first | rfl | (simp; done) | (simp [*]; done), by repeat (first | exact Drawn0.refl _ | apply Drawn0.step)⟩
  ·rw [if_neg c4] at H
   have c4b0 : (FloatKind.f64.format.order t102 2580562586483294208 == some .gt || FloatKind.f64.format.order t102 2580562586483294208 == some .eq) = false := by simpa using c4
   (try (have c4b1 : decide (FloatKind.f64.format.order t102 2580562586483294208 = some .gt || FloatKind.f64.format.order t102 2580562586483294208 == some .eq) = false := by simpa using c4))
   (try (have c4b2 : (FloatKind.f64.format.order t102 2580562586483294208 == some .gt || FloatKind.f64.format.order t102 2580562586483294208 == some .eq) = false := by simpa using c4))
   (try (have c4b3 : ¬ (FloatKind.f64.format.order t102 2580562586483294208 = some .gt || FloatKind.f64.format.order t102 2580562586483294208 == some .eq) := by simpa using c4))
   clear c4
   obtain rfl := Option.some.inj H
   go_enter Tryz.func205, Tryz.ntmps205
   go_wp2_with (first | ((with_reducible refine gate_callee (f := 114) rfl ?_); refine goesL_ (some 4) rfl rfl Tryz.func114 (by kernel_rfl) rfl #[.float .f64 a0] rfl (by (try simp only [List.map_toArray, List.map_cons, List.map_nil]); first | done | rfl | (simp only [List.length_drop, List.length_take]; rfl)) ?_; (with_reducible refine (math_Abs.calls a0 t102 _ A2.out).mono ?_); rintro e w' ⟨rfl, ⟨nd, rfl⟩⟩; refine ⟨_, rfl, ?_⟩))
   go_ret
   exact ⟨by first | rfl | (simp; done) | (simp [*]; done), by repeat (first | exact Drawn0.refl _ | apply Drawn0.step)⟩
def eft_Split.f (a0 : Nat) : Option (Nat × Nat) := (eft_Safe.f a0).bind fun t103 => (if t103 = true then ((floatBits .mul .f64 4728779608772575232 a0).bind fun t104 => ((floatBits .sub .f64 t104 a0).bind fun t105 => ((floatBits .sub .f64 t104 t105).bind fun t106 => ((floatBits .sub .f64 a0 t106).bind fun t107 => (some (t106, t107)))))) else (some (0, 0)))
set_option maxHeartbeats 8000000 in
set_option maxRecDepth 100000 in
theorem eft_Split.calls (a0 : Nat) (r1 : Nat) (r2 : Nat) (w : World) (h : eft_Split.f a0 = some (r1, r2)) :
 Calls Tryz.prog 206 #[.float .f64 a0] w fun e w' => e = .returned (.tuple #[.float .f64 r1, .float .f64 r2]) ∧ Drawn0 w w' := by
 have H : ((eft_Safe.f a0).bind fun t103 => (if t103 = true then ((floatBits .mul .f64 4728779608772575232 a0).bind fun t104 => ((floatBits .sub .f64 t104 a0).bind fun t105 => ((floatBits .sub .f64 t104 t105).bind fun t106 => ((floatBits .sub .f64 a0 t106).bind fun t107 => (some (t106, t107)))))) else (some (0, 0)))) = some (r1, r2) := h
 clear h
 replace H := Option.bind_eq_some_iff.mp H
 obtain ⟨t103, A20, H⟩ := H
 replace H : (if t103 = true then ((floatBits .mul .f64 4728779608772575232 a0).bind fun t104 => ((floatBits .sub .f64 t104 a0).bind fun t105 => ((floatBits .sub .f64 t104 t105).bind fun t106 => ((floatBits .sub .f64 a0 t106).bind fun t107 => (some (t106, t107)))))) else (some (0, 0))) = some (r1, r2) := H
 have A2 := Aside0.mk A20
 clear A20
 by_cases c3 : t103 = true
 ·subst c3
  have H1 : ((floatBits .mul .f64 4728779608772575232 a0).bind fun t104 => ((floatBits .sub .f64 t104 a0).bind fun t105 => ((floatBits .sub .f64 t104 t105).bind fun t106 => ((floatBits .sub .f64 a0 t106).bind fun t107 => (some (t106, t107)))))) = some (r1, r2) := by rw [if_pos rfl] at H; exact H
  clear H
  have H := H1
  clear H1
  replace H := Option.bind_eq_some_iff.mp H
  obtain ⟨t104, hfop_, H⟩ := H
  replace H : ((floatBits .sub .f64 t104 a0).bind fun t105 => ((floatBits .sub .f64 t104 t105).bind fun t106 => ((floatBits .sub .f64 a0 t106).bind fun t107 => (some (t106, t107))))) = some (r1, r2) := H
  have hfw4 := fun w_ => run_float_arith (P := Tryz.prog) w_ .mul 69 .f64 4728779608772575232 a0 t104 hfop_
  clear hfop_
  replace H := Option.bind_eq_some_iff.mp H
  obtain ⟨t105, hfop_, H⟩ := H
  replace H : ((floatBits .sub .f64 t104 t105).bind fun t106 => ((floatBits .sub .f64 a0 t106).bind fun t107 => (some (t106, t107)))) = some (r1, r2) := H
  have hfw5 := fun w_ => run_float_arith (P := Tryz.prog) w_ .sub 69 .f64 t104 a0 t105 hfop_
  clear hfop_
  replace H := Option.bind_eq_some_iff.mp H
  obtain ⟨t106, hfop_, H⟩ := H
  replace H : ((floatBits .sub .f64 a0 t106).bind fun t107 => (some (t106, t107))) = some (r1, r2) := H
  have hfw6 := fun w_ => run_float_arith (P := Tryz.prog) w_ .sub 69 .f64 t104 t105 t106 hfop_
  clear hfop_
  replace H := Option.bind_eq_some_iff.mp H
  obtain ⟨t107, hfop_, H⟩ := H
  replace H : (some (t106, t107)) = some (r1, r2) := H
  have hfw7 := fun w_ => run_float_arith (P := Tryz.prog) w_ .sub 69 .f64 a0 t106 t107 hfop_
  clear hfop_
  simp only [Option.some.injEq, Prod.mk.injEq] at H
  obtain ⟨rfl, rfl⟩ := H
  go_enter Tryz.func206, Tryz.ntmps206
  go_wp2_with (first | ((with_reducible refine gate_callee (f := 205) rfl ?_); refine goesL_ (some 7) rfl rfl Tryz.func205 (by kernel_rfl) rfl #[.float .f64 a0] rfl (by (try simp only [List.map_toArray, List.map_cons, List.map_nil]); first | done | rfl | (simp only [List.length_drop, List.length_take]; rfl)) ?_; (with_reducible refine (eft_Safe.calls a0 true _ A2.out).mono ?_); rintro e w' ⟨rfl, ⟨nd, rfl⟩⟩; refine ⟨_, rfl, ?_⟩))
  go_ret2
  exact ⟨by first | rfl | (simp; done) | (simp [*]; done), by repeat (first | exact Drawn0.refl _ | apply Drawn0.step)⟩
 ·replace c3 := Bool.eq_false_iff.mpr c3
  subst c3
  have H1 : (some (0, 0)) = some (r1, r2) := by rw [if_neg (show ¬ (false = true) by decide)] at H; exact H
  clear H
  have H := H1
  clear H1
  simp only [Option.some.injEq, Prod.mk.injEq] at H
  obtain ⟨rfl, rfl⟩ := H
  go_enter Tryz.func206, Tryz.ntmps206
  go_wp2_with (first | ((with_reducible refine gate_callee (f := 205) rfl ?_); refine goesL_ (some 7) rfl rfl Tryz.func205 (by kernel_rfl) rfl #[.float .f64 a0] rfl (by (try simp only [List.map_toArray, List.map_cons, List.map_nil]); first | done | rfl | (simp only [List.length_drop, List.length_take]; rfl)) ?_; (with_reducible refine (eft_Safe.calls a0 false _ A2.out).mono ?_); rintro e w' ⟨rfl, ⟨nd, rfl⟩⟩; refine ⟨_, rfl, ?_⟩))
  go_ret2
  exact ⟨by first | rfl | (simp; done) | (simp [*]; done), by repeat (first | exact Drawn0.refl _ | apply Drawn0.step)⟩
end Go.Proofs.YtaoichlepfiliaaGreatDoor.EF
end
section
namespace Go.Proofs.YtaoichlepfiliaaGreatDoor.Eft
open Go.RowKit Go.Proofs.YtaoichlepfiliaaGreatDoor.EF Go.Proofs.YtaoichlepfiliaaGreatDoorW.PrintWords Go.Proofs.YtaoichlepfiliaaGreatDoorW.PrintLast
theorem both_made (n : Nat) (w : World) :
 Calls Tryz.prog 182 #[.func (.func n) #[] #[]] w fun e w' => e = .returned (.func (.func 203) #[] #[.pointer (some ⟨w.heap.size, 0, none⟩)]) ∧ w' = w.alloc (.cells #[.func (.func n) #[] #[]] 117) := by
 have hmf : ∀ (fn : Fn) (first cap : Array Value) (w : World), (Instr.makeFunc fn first cap).run Tryz.prog w = .ok (.func fn first cap) w := fun _ _ _ _ => rfl
 go_enter Tryz.func182, Tryz.ntmps182
 go_wp2
 go_ret
 exact ⟨rfl, rfl⟩
theorem both_Tame (b x y : Nat) (r s : Bool) (hx : eft_Tame.f x = some r) (hy : eft_Tame.f y = some s) (w : World) (hb : w.heap[b]? = some (.cells #[.func (.func 183) #[] #[]] 117 (0, 0))) :
 Calls Tryz.prog 203 #[.float .f64 x, .float .f64 y, .pointer (some ⟨b, 0, none⟩)] w fun e w' => e = .returned (.bool (r && s)) ∧ Drawn0 w w' := by
 have hc : w.cell? ⟨b, 0, none⟩ = some (.func (.func 183) #[] #[]) := (blk_cell hb 0).trans rfl
 have hf := blk_frozen hb 0
 cases r
 ·go_enter Tryz.func203, Tryz.ntmps203
  go_wp2_with (go_at_call 183; refine (eft_Tame.calls x _ _ hx).mono ?_; rintro e w' ⟨rfl, ⟨nd, rfl⟩⟩)
  go_ret
  exact ⟨rfl, by repeat (first | exact Drawn0.refl _ | apply Drawn0.step)⟩
 ·go_enter Tryz.func203, Tryz.ntmps203
  go_wp2_with (go_at_call 183; (first | (with_reducible refine (eft_Tame.calls x _ _ hx).mono ?_) | (with_reducible refine (eft_Tame.calls y _ _ hy).mono ?_)); rintro e w' ⟨rfl, ⟨nd, rfl⟩⟩)
  go_ret
  exact ⟨rfl, by repeat (first | exact Drawn0.refl _ | apply Drawn0.step)⟩
theorem both_Safe (b x y : Nat) (r s : Bool) (hx : eft_Safe.f x = some r) (hy : eft_Safe.f y = some s) (w : World) (hb : w.heap[b]? = some (.cells #[.func (.func 205) #[] #[]] 117 (0, 0))) :
 Calls Tryz.prog 203 #[.float .f64 x, .float .f64 y, .pointer (some ⟨b, 0, none⟩)] w fun e w' => e = .returned (.bool (r && s)) ∧ Drawn0 w w' := by
 have hc : w.cell? ⟨b, 0, none⟩ = some (.func (.func 205) #[] #[]) := (blk_cell hb 0).trans rfl
 have hf := blk_frozen hb 0
 cases r
 ·go_enter Tryz.func203, Tryz.ntmps203
  go_wp2_with (go_at_call 205; refine (eft_Safe.calls x _ _ hx).mono ?_; rintro e w' ⟨rfl, ⟨nd, rfl⟩⟩)
  go_ret
  exact ⟨rfl, by repeat (first | exact Drawn0.refl _ | apply Drawn0.step)⟩
 ·go_enter Tryz.func203, Tryz.ntmps203
  go_wp2_with (go_at_call 205; (first | (with_reducible refine (eft_Safe.calls x _ _ hx).mono ?_) | (with_reducible refine (eft_Safe.calls y _ _ hy).mono ?_)); rintro e w' ⟨rfl, ⟨nd, rfl⟩⟩)
  go_ret
  exact ⟨rfl, by repeat (first | exact Drawn0.refl _ | apply Drawn0.step)⟩
def eft_Sum.f (a b : Nat) : Option (Nat × Nat) := (eft_Tame.f a).bind fun r => (eft_Tame.f b).bind fun s => if (r && s) = true then
 ((floatBits .add .f64 a b).bind fun x => (floatBits .sub .f64 x a).bind fun c => (floatBits .sub .f64 x c).bind fun d => (floatBits .sub .f64 a d).bind fun p => (floatBits .sub .f64 b c).bind fun q => (floatBits .add .f64 p q).bind fun y => some (x, y)) else some (0, 0)
theorem below_box (w : World) (b : Obj) : Below w.heap.size w (w.alloc b) := (Below.refl _ _).alloc (Nat.le_refl _) _
set_option maxRecDepth 100000 in
theorem eft_Sum.calls (a b x y : Nat) (w : World) (h : eft_Sum.f a b = some (x, y)) :
 Calls Tryz.prog 152 #[.float .f64 a, .float .f64 b] w fun e w' => e = .returned (.tuple #[.float .f64 x, .float .f64 y]) ∧ Below w.heap.size w w' := by
 obtain ⟨r, hr, h⟩ := Option.bind_eq_some_iff.mp h
 obtain ⟨s, hs, h⟩ := Option.bind_eq_some_iff.mp h
 have hb0 := heap_alloc_new w (.cells #[.func (.func 183) #[] #[]] 117)
 by_cases c : (r && s) = true
 ·rw [if_pos c] at h
  obtain ⟨x1, h1, h⟩ := Option.bind_eq_some_iff.mp h
  obtain ⟨c1, h2, h⟩ := Option.bind_eq_some_iff.mp h
  obtain ⟨d1, h3, h⟩ := Option.bind_eq_some_iff.mp h
  obtain ⟨p1, h4, h⟩ := Option.bind_eq_some_iff.mp h
  obtain ⟨q1, h5, h⟩ := Option.bind_eq_some_iff.mp h
  obtain ⟨y1, h6, h⟩ := Option.bind_eq_some_iff.mp h
  simp only [Option.some.injEq, Prod.mk.injEq] at h
  obtain ⟨rfl, rfl⟩ := h
  have g1 := fun w_ => run_float_arith (P := Tryz.prog) w_ .add 69 .f64 a b x1 h1
  have g2 := fun w_ => run_float_arith (P := Tryz.prog) w_ .sub 69 .f64 x1 a c1 h2
  have g3 := fun w_ => run_float_arith (P := Tryz.prog) w_ .sub 69 .f64 x1 c1 d1 h3
  have g4 := fun w_ => run_float_arith (P := Tryz.prog) w_ .sub 69 .f64 a d1 p1 h4
  have g5 := fun w_ => run_float_arith (P := Tryz.prog) w_ .sub 69 .f64 b c1 q1 h5
  have g6 := fun w_ => run_float_arith (P := Tryz.prog) w_ .add 69 .f64 p1 q1 y1 h6
  clear h1 h2 h3 h4 h5 h6
  go_enter Tryz.func152, Tryz.ntmps152
  go_wp2_with (first | (go_at_call 182; refine (both_made 183 _).mono ?_; rintro e w' ⟨rfl, rfl⟩) | (go_at_call 203; refine (both_Tame _ a b r s hr hs _ hb0).mono ?_; rw [c]; rintro e w' ⟨rfl, ⟨nd, rfl⟩⟩))
  go_ret2
  exact ⟨rfl, (below_box w _).trans (((Drawn0.refl _).step nd).below.mono (by simp))⟩
 ·rw [if_neg c] at h
  simp only [Option.some.injEq, Prod.mk.injEq] at h
  obtain ⟨rfl, rfl⟩ := h
  replace c := Bool.eq_false_iff.mpr c
  go_enter Tryz.func152, Tryz.ntmps152
  go_wp2_with (first | (go_at_call 182; refine (both_made 183 _).mono ?_; rintro e w' ⟨rfl, rfl⟩) | (go_at_call 203; refine (both_Tame _ a b r s hr hs _ hb0).mono ?_; rw [c]; rintro e w' ⟨rfl, ⟨nd, rfl⟩⟩))
  go_ret2
  exact ⟨rfl, (below_box w _).trans (((Drawn0.refl _).step nd).below.mono (by simp))⟩
def eft_Prod.f (a b : Nat) : Option (Nat × Nat) := (eft_Safe.f a).bind fun r => (eft_Safe.f b).bind fun s => if (r && s) = true then
 ((floatBits .mul .f64 a b).bind fun x1 => (eft_Split.f a).bind fun pq => (eft_Split.f b).bind fun rs => (floatBits .mul .f64 pq.1 rs.1).bind fun m1 => (floatBits .sub .f64 x1 m1).bind fun e1 => (floatBits .mul .f64 pq.2 rs.1).bind fun m2 => (floatBits .sub .f64 e1 m2).bind fun e2 => (floatBits .mul .f64 pq.1 rs.2).bind fun m3 => (floatBits .sub .f64 e2 m3).bind fun e3 => (floatBits .mul .f64 pq.2 rs.2).bind fun m4 => (floatBits .sub .f64 m4 e3).bind fun y1 => some (x1, y1)) else some (0, 0)
set_option maxRecDepth 100000 in
set_option maxHeartbeats 1000000 in
theorem eft_Prod.calls (a b x y : Nat) (w : World) (h : eft_Prod.f a b = some (x, y)) :
 Calls Tryz.prog 186 #[.float .f64 a, .float .f64 b] w fun e w' => e = .returned (.tuple #[.float .f64 x, .float .f64 y]) ∧ Below w.heap.size w w' := by
 obtain ⟨u, hr, h⟩ := Option.bind_eq_some_iff.mp h
 obtain ⟨v, hs, h⟩ := Option.bind_eq_some_iff.mp h
 have hb0 := heap_alloc_new w (.cells #[.func (.func 205) #[] #[]] 117)
 by_cases c : (u && v) = true
 ·rw [if_pos c] at h
  obtain ⟨x1, hx1, h⟩ := Option.bind_eq_some_iff.mp h
  obtain ⟨⟨p, q⟩, hpq, h⟩ := Option.bind_eq_some_iff.mp h
  obtain ⟨⟨r, s⟩, hrs, h⟩ := Option.bind_eq_some_iff.mp h
  obtain ⟨m1, hm1, h⟩ := Option.bind_eq_some_iff.mp h
  obtain ⟨e1, he1, h⟩ := Option.bind_eq_some_iff.mp h
  obtain ⟨m2, hm2, h⟩ := Option.bind_eq_some_iff.mp h
  obtain ⟨e2, he2, h⟩ := Option.bind_eq_some_iff.mp h
  obtain ⟨m3, hm3, h⟩ := Option.bind_eq_some_iff.mp h
  obtain ⟨e3, he3, h⟩ := Option.bind_eq_some_iff.mp h
  obtain ⟨m4, hm4, h⟩ := Option.bind_eq_some_iff.mp h
  obtain ⟨y1, hy1, h⟩ := Option.bind_eq_some_iff.mp h
  simp only [Option.some.injEq, Prod.mk.injEq] at h
  obtain ⟨rfl, rfl⟩ := h
  have gx1 := fun w_ => run_float_arith (P := Tryz.prog) w_ .mul 69 .f64 a b x1 hx1
  have gm1 := fun w_ => run_float_arith (P := Tryz.prog) w_ .mul 69 .f64 p r m1 hm1
  have ge1 := fun w_ => run_float_arith (P := Tryz.prog) w_ .sub 69 .f64 x1 m1 e1 he1
  have gm2 := fun w_ => run_float_arith (P := Tryz.prog) w_ .mul 69 .f64 q r m2 hm2
  have ge2 := fun w_ => run_float_arith (P := Tryz.prog) w_ .sub 69 .f64 e1 m2 e2 he2
  have gm3 := fun w_ => run_float_arith (P := Tryz.prog) w_ .mul 69 .f64 p s m3 hm3
  have ge3 := fun w_ => run_float_arith (P := Tryz.prog) w_ .sub 69 .f64 e2 m3 e3 he3
  have gm4 := fun w_ => run_float_arith (P := Tryz.prog) w_ .mul 69 .f64 q s m4 hm4
  have gy1 := fun w_ => run_float_arith (P := Tryz.prog) w_ .sub 69 .f64 m4 e3 y1 hy1
  clear hx1 hm1 he1 hm2 he2 hm3 he3 hm4 hy1
  go_enter Tryz.func186, Tryz.ntmps186
  go_wp2_with (first | (go_at_call 182; refine (both_made 205 _).mono ?_; rintro e w' ⟨rfl, rfl⟩) | (go_at_call 203; refine (both_Safe _ a b u v hr hs _ hb0).mono ?_; rw [c]; rintro e w' ⟨rfl, ⟨nd, rfl⟩⟩) | (go_at_call 206; (first | (with_reducible refine (eft_Split.calls a _ _ _ hpq).mono ?_) | (with_reducible refine (eft_Split.calls b _ _ _ hrs).mono ?_)); rintro e w' ⟨rfl, ⟨nd, rfl⟩⟩))
  go_ret2
  exact ⟨rfl, (below_box w _).trans ((by repeat (first | exact Drawn0.refl _ | apply Drawn0.step) : Drawn0 _ _).below.mono (by simp))⟩
 ·rw [if_neg c] at h
  simp only [Option.some.injEq, Prod.mk.injEq] at h
  obtain ⟨rfl, rfl⟩ := h
  replace c := Bool.eq_false_iff.mpr c
  go_enter Tryz.func186, Tryz.ntmps186
  go_wp2_with (first | (go_at_call 182; refine (both_made 205 _).mono ?_; rintro e w' ⟨rfl, rfl⟩) | (go_at_call 203; refine (both_Safe _ a b u v hr hs _ hb0).mono ?_; rw [c]; rintro e w' ⟨rfl, ⟨nd, rfl⟩⟩))
  go_ret2
  exact ⟨rfl, (below_box w _).trans (((Drawn0.refl _).step nd).below.mono (by simp))⟩
end Go.Proofs.YtaoichlepfiliaaGreatDoor.Eft
end
