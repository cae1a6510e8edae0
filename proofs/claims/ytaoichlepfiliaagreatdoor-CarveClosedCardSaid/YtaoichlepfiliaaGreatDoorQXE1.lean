/- Lemmas of E1. Conditions stand in each. -/
import Derived.Test.YtaoichlepfiliaaGreatDoorQXE0
import Derived.Test.YtaoichlepfiliaaGreatDoorQXR6
import Derived.Test.YtaoichlepfiliaaGreatDoorQXR7
set_option linter.unusedSimpArgs false
set_option linter.unusedVariables false
namespace Go.Proofs.YtaoichlepfiliaaGreatDoor.E
open Go.Proofs.YtaoichlepfiliaaGreatDoor.R
open Go.RowKit Go.Proofs.YtaoichlepfiliaaGreatDoorW.PrintWords Go.Proofs.YtaoichlepfiliaaGreatDoorW.PrintLast
def eft_Sum.f (a0 a1 : Nat) : Option (Nat × Nat) := Go.Proofs.YtaoichlepfiliaaGreatDoor.Eft.eft_Sum.f a0 a1
theorem eft_Sum.calls (a0 a1 : Nat) (r1 r2 : Nat) (w : World) (h : eft_Sum.f a0 a1 = some (r1, r2)) :
 Calls Tryz.prog 152 #[.float .f64 a0, .float .f64 a1] w fun e w' => e = .returned (.tuple #[.float .f64 r1, .float .f64 r2]) ∧ Below w.heap.size w w' := Go.Proofs.YtaoichlepfiliaaGreatDoor.Eft.eft_Sum.calls a0 a1 r1 r2 w h
def eft_Diff.f (a0 : Nat) (a1 : Nat) : Option (Nat × Nat) := (eft_Sum.f a0 (fneg a1)).bind fun bt101 => (some (bt101.1, bt101.2))
set_option maxHeartbeats 8000000 in
set_option maxRecDepth 100000 in
theorem eft_Diff.calls (a0 : Nat) (a1 : Nat) (r1 : Nat) (r2 : Nat) (w : World) (h : eft_Diff.f a0 a1 = some (r1, r2)) :
 Calls Tryz.prog 118 #[.float .f64 a0, .float .f64 a1] w fun e w' => e = .returned (.tuple #[.float .f64 r1, .float .f64 r2]) ∧ Below w.heap.size w w' := by
 have HB := Aside0.mk (Below.refl w.heap.size w)
 have H : ((eft_Sum.f a0 (fneg a1)).bind fun bt101 => (some (bt101.1, bt101.2))) = some (r1, r2) := h
 clear h
 replace H := Option.bind_eq_some_iff.mp H
 obtain ⟨⟨t101, t102⟩, A30, H⟩ := H
 replace H : (some (t101, t102)) = some (r1, r2) := H
 have A3 := Aside0.mk A30
 clear A30
 simp only [Option.some.injEq, Prod.mk.injEq] at H
 obtain ⟨rfl, rfl⟩ := H
 go_enter Tryz.func118, Tryz.ntmps118
 go_wp2_with (first | ((with_reducible refine gate_callee (f := 152) rfl ?_); refine goesL_ (some 9) rfl rfl Tryz.func152 (by kernel_rfl) rfl #[.float .f64 a0, .float .f64 (fneg a1)] rfl (by (try simp only [List.map_toArray, List.map_cons, List.map_nil]); first | done | rfl | (simp only [List.length_drop, List.length_take]; rfl)) ?_; (with_reducible refine (eft_Sum.calls a0 (fneg a1) t101 t102 _ A3.out).mono ?_); rintro e w4 ⟨rfl, hb⟩; refine ⟨_, rfl, ?_⟩; have n0_ := Aside0.mk (below_step (by repeat (first | (with_reducible first | exact HB.out | apply below_alloc | apply pw_below_drewN | apply below_drew1) | exact HB.out)) hb); clear HB; have HB := n0_; clear n0_; (try clear hb); (try clear hb2); (try clear hk); (try clear hi)))
 go_ret2
 exact ⟨by first | rfl | (simp [errW_none, errW_some] <;> rfl) | (simp [*, errW_none, errW_some] <;> rfl), by repeat (first | (with_reducible first | exact HB.out | apply below_alloc | apply pw_below_drewN | apply below_drew1) | exact HB.out)⟩
def expand_within.f (a0 : Nat) (a1 : Nat) (a2 : Nat) : Option (Bool) := (math_Abs.f a0).bind fun t103 => (if (FloatKind.f64.format.order t103 a1 == some .gt || FloatKind.f64.format.order t103 a1 == some .eq) = true then (some (FloatKind.f64.format.order t103 a2 == some .lt || FloatKind.f64.format.order t103 a2 == some .eq)) else (some false))
set_option maxHeartbeats 8000000 in
set_option maxRecDepth 100000 in
theorem expand_within.calls (a0 : Nat) (a1 : Nat) (a2 : Nat) (r : Bool) (w : World) (h : expand_within.f a0 a1 a2 = some r) :
 Calls Tryz.prog 185 #[.float .f64 a0, .float .f64 a1, .float .f64 a2] w fun e w' => e = .returned (.bool r) ∧ Drawn0 w w' := by
 have H : ((math_Abs.f a0).bind fun t103 => (if (FloatKind.f64.format.order t103 a1 == some .gt || FloatKind.f64.format.order t103 a1 == some .eq) = true then (some (FloatKind.f64.format.order t103 a2 == some .lt || FloatKind.f64.format.order t103 a2 == some .eq)) else (some false))) = some r := h
 clear h
 replace H := Option.bind_eq_some_iff.mp H
 obtain ⟨t103, A40, H⟩ := H
 replace H : (if (FloatKind.f64.format.order t103 a1 == some .gt || FloatKind.f64.format.order t103 a1 == some .eq) = true then (some (FloatKind.f64.format.order t103 a2 == some .lt || FloatKind.f64.format.order t103 a2 == some .eq)) else (some false)) = some r := H
 have A4 := Aside0.mk A40
 clear A40
 by_cases c5 : (FloatKind.f64.format.order t103 a1 == some .gt || FloatKind.f64.format.order t103 a1 == some .eq) = true
 ·rw [if_pos c5] at H
  have c5b0 : (FloatKind.f64.format.order t103 a1 == some .gt || FloatKind.f64.format.order t103 a1 == some .eq) = true := c5
  (try (have c5b1 : decide (FloatKind.f64.format.order t103 a1 = some .gt || FloatKind.f64.format.order t103 a1 == some .eq) = true := by simpa using c5))
  (try (have c5b2 : (FloatKind.f64.format.order t103 a1 == some .gt || FloatKind.f64.format.order t103 a1 == some .eq) = true := by simpa using c5))
  clear c5
  obtain rfl := Option.some.inj H
  go_enter Tryz.func185, Tryz.ntmps185
  go_wp2_with (first | ((with_reducible refine gate_callee (f := 114) rfl ?_); refine goesL_ (some 9) rfl rfl Tryz.func114 (by kernel_rfl) rfl #[.float .f64 a0] rfl (by (try simp only [List.map_toArray, List.map_cons, List.map_nil]); first | done | rfl | (simp only [List.length_drop, List.length_take]; rfl)) ?_; (with_reducible refine (math_Abs.calls a0 t103 _ A4.out).mono ?_); rintro e w' ⟨rfl, ⟨nd, rfl⟩⟩; refine ⟨_, rfl, ?_⟩))
  go_ret
  exact ⟨by first | rfl | (simp; done) | (simp [*]; done), by repeat (first | exact Drawn0.refl _ | apply Drawn0.step)⟩
 ·rw [if_neg c5] at H
  have c5b0 : (FloatKind.f64.format.order t103 a1 == some .gt || FloatKind.f64.format.order t103 a1 == some .eq) = false := by simpa using c5
  (try (have c5b1 : decide (FloatKind.f64.format.order t103 a1 = some .gt || FloatKind.f64.format.order t103 a1 == some .eq) = false := by simpa using c5))
  (try (have c5b2 : (FloatKind.f64.format.order t103 a1 == some .gt || FloatKind.f64.format.order t103 a1 == some .eq) = false := by simpa using c5))
  (try (have c5b3 : ¬ (FloatKind.f64.format.order t103 a1 = some .gt || FloatKind.f64.format.order t103 a1 == some .eq) := by simpa using c5))
  clear c5
  obtain rfl := Option.some.inj H
  go_enter Tryz.func185, Tryz.ntmps185
  go_wp2_with (first | ((with_reducible refine gate_callee (f := 114) rfl ?_); refine goesL_ (some 9) rfl rfl Tryz.func114 (by kernel_rfl) rfl #[.float .f64 a0] rfl (by (try simp only [List.map_toArray, List.map_cons, List.map_nil]); first | done | rfl | (simp only [List.length_drop, List.length_take]; rfl)) ?_; (with_reducible refine (math_Abs.calls a0 t103 _ A4.out).mono ?_); rintro e w' ⟨rfl, ⟨nd, rfl⟩⟩; refine ⟨_, rfl, ?_⟩))
  go_ret
  exact ⟨by first | rfl | (simp; done) | (simp [*]; done), by repeat (first | exact Drawn0.refl _ | apply Drawn0.step)⟩
def expand_low.l0 : Nat → Int → Int → Option (Nat)
 | 0, _, _ => none
 | k + 1, x4, x5 => if (Go.bits .and .u64 x5 1) = 0 then (expand_low.l0 k (wrap64 (x4 + 1)) (x5 / 2)) else ((math_Ldexp.f 4607182418800017408 x4).bind fun t109 => (some t109))
def expand_low.f (k : Nat) (a0 : Nat) : Option (Nat) := (math_Abs.f a0).bind fun t104 => ((math_Frexp.f k t104).bind fun bt105 => ((math_Ldexp.f bt105.1 53).bind fun t107 => ((floatToIntVal .f64 t107 .u64).bind fun t108 => (expand_low.l0 k (wrap64 (bt105.2 - 53)) t108))))
set_option maxHeartbeats 8000000 in
set_option maxRecDepth 100000 in
theorem expand_low.calls (k : Nat) (a0 : Nat) (r : Nat) (w : World) (h : expand_low.f k a0 = some r) :
 Calls Tryz.prog 204 #[.float .f64 a0] w fun e w' => e = .returned (.float .f64 r) ∧ Drawn0 w w' := by
 have H : ((math_Abs.f a0).bind fun t104 => ((math_Frexp.f k t104).bind fun bt105 => ((math_Ldexp.f bt105.1 53).bind fun t107 => ((floatToIntVal .f64 t107 .u64).bind fun t108 => (expand_low.l0 k (wrap64 (bt105.2 - 53)) t108))))) = some r := h
 clear h
 replace H := Option.bind_eq_some_iff.mp H
 obtain ⟨t104, A20, H⟩ := H
 replace H : ((math_Frexp.f k t104).bind fun bt105 => ((math_Ldexp.f bt105.1 53).bind fun t107 => ((floatToIntVal .f64 t107 .u64).bind fun t108 => (expand_low.l0 k (wrap64 (bt105.2 - 53)) t108)))) = some r := H
 have A2 := Aside0.mk A20
 clear A20
 replace H := Option.bind_eq_some_iff.mp H
 obtain ⟨⟨t105, t106⟩, A30, H⟩ := H
 replace H : ((math_Ldexp.f t105 53).bind fun t107 => ((floatToIntVal .f64 t107 .u64).bind fun t108 => (expand_low.l0 k (wrap64 (t106 - 53)) t108))) = some r := H
 have A3 := Aside0.mk A30
 clear A30
 replace H := Option.bind_eq_some_iff.mp H
 obtain ⟨t107, A40, H⟩ := H
 replace H : ((floatToIntVal .f64 t107 .u64).bind fun t108 => (expand_low.l0 k (wrap64 (t106 - 53)) t108)) = some r := H
 have A4 := Aside0.mk A40
 clear A40
 replace H := Option.bind_eq_some_iff.mp H
 obtain ⟨t108, hfop_, H⟩ := H
 replace H : (expand_low.l0 k (wrap64 (t106 - 53)) t108) = some r := H
 have hfw5 := fun w_ => run_convert_float_int (P := Tryz.prog) w_ 69 139 .f64 .u64 t107 t108 (by rw [Tryz.underlying69]; rfl) Tryz.underlying139 hfop_
 clear hfop_
 have H' := Aside0.mk H
 clear H
 go_enter Tryz.func204, Tryz.ntmps204
 go_wp2_with (first | ((with_reducible refine gate_callee (f := 114) rfl ?_); refine goesL_ (some 8) rfl rfl Tryz.func114 (by kernel_rfl) rfl #[.float .f64 a0] rfl (by (try simp only [List.map_toArray, List.map_cons, List.map_nil]); first | done | rfl | (simp only [List.length_drop, List.length_take]; rfl)) ?_; (with_reducible refine (math_Abs.calls a0 t104 _ A2.out).mono ?_); rintro e w' ⟨rfl, ⟨nd, rfl⟩⟩; refine ⟨_, rfl, ?_⟩) | ((with_reducible refine gate_callee (f := 126) rfl ?_); refine goesL_ (some 9) rfl rfl Tryz.func126 (by kernel_rfl) rfl #[.float .f64 t104] rfl (by (try simp only [List.map_toArray, List.map_cons, List.map_nil]); first | done | rfl | (simp only [List.length_drop, List.length_take]; rfl)) ?_; (with_reducible refine (math_Frexp.calls k t104 t105 t106 _ A3.out).mono ?_); rintro e w' ⟨rfl, ⟨nd, rfl⟩⟩; refine ⟨_, rfl, ?_⟩) | ((with_reducible refine gate_callee (f := 151) rfl ?_); refine goesL_ (some 13) rfl rfl Tryz.func151 (by kernel_rfl) rfl #[.float .f64 t105, .int .i64 53] rfl (by (try simp only [List.map_toArray, List.map_cons, List.map_nil]); first | done | rfl | (simp only [List.length_drop, List.length_take]; rfl)) ?_; (with_reducible refine (math_Ldexp.calls t105 53 t107 _ A4.out).mono ?_); rintro e w' ⟨rfl, ⟨nd, rfl⟩⟩; refine ⟨_, rfl, ?_⟩))
 go_loopg [4, 5] k (fun kq v4 v5 w' => ∃ (x4_1 : Int) (x5_1 : Int), v4 = .int .i64 x4_1 ∧ v5 = .int .u64 x5_1 ∧ Aside0 (expand_low.l0 kq x4_1 x5_1 = some r) ∧ Aside0 (kq ≤ k) ∧ Drawn0 w w')
 case atStart => exact ⟨(wrap64 (t106 - 53)), (t108), (by first | rfl | (simp; done) | (simp [*]; done)), (by first | rfl | (simp; done) | (simp [*]; done)), H', ⟨Nat.le_refl _⟩, by repeat (first | exact Drawn0.refl _ | apply Drawn0.step)⟩
 case round =>
  clear H'
  try clear c1
  try clear c2
  try clear p2
  obtain ⟨x4_1, x5_1, rfl, rfl, HA, HK1, ⟨m1, rfl⟩⟩ := hrel
  cases gk with
  | zero => exact absurd HA.out (by simp [expand_low.l0])
  | succ k1 =>
   have H := HA.out
   clear HA
   simp only [expand_low.l0] at H
   by_cases c6 : (Go.bits .and .u64 x5_1 1) = 0
   ·rw [if_pos c6] at H
    have c6b0 : ((Go.bits .and .u64 x5_1 1) == 0) = true := beq_iff_eq.mpr c6
    have c6b1 : ((Go.bits .and .u64 x5_1 1) != 0) = false := bne_eq_false_iff_eq.mpr c6
    clear c6
    have H' := Aside0.mk H
    clear H
    go_wp2
    go_roundg k1
    case measure => have := HK1.out; omega
    case rel => exact ⟨(wrap64 (x4_1 + 1)), (x5_1 / 2), (by first | rfl | (simp; done) | (simp [*]; done)), (by first | rfl | (simp; done) | (simp [*]; done)), H', ⟨by have := HK1.out; omega⟩, by repeat (first | exact Drawn0.refl _ | apply Drawn0.step)⟩
   ·rw [if_neg c6] at H
    have c6b0 : ((Go.bits .and .u64 x5_1 1) == 0) = false := beq_eq_false_iff_ne.mpr c6
    have c6b1 : ((Go.bits .and .u64 x5_1 1) != 0) = true := bne_iff_ne.mpr c6
    replace H := Option.bind_eq_some_iff.mp H
    obtain ⟨t109, A70, H⟩ := H
    replace H : (some t109) = some r := H
    have A7 := Aside0.mk A70
    clear A70
    obtain rfl := Option.some.inj H
    go_wp2_with (first | ((with_reducible refine gate_callee (f := 151) rfl ?_); refine goesL_ (some 25) rfl rfl Tryz.func151 (by kernel_rfl) rfl #[.float .f64 4607182418800017408, .int .i64 x4_1] rfl (by (try simp only [List.map_toArray, List.map_cons, List.map_nil]); first | done | rfl | (simp only [List.length_drop, List.length_take]; rfl)) ?_; (with_reducible refine (math_Ldexp.calls 4607182418800017408 x4_1 t109 _ A7.out).mono ?_); rintro e w' ⟨rfl, ⟨nd, rfl⟩⟩; refine ⟨_, rfl, ?_⟩))
    go_ret
    exact ⟨by first | rfl | (simp; done) | (simp [*]; done), by repeat (first | exact Drawn0.refl _ | apply Drawn0.step)⟩
def expand_all.l0 : Nat → List Nat → Nat → Nat → List Nat → Int → Int → Option (Bool)
 | 0, _, _, _, _, _, _ => none
 | k + 1, x0, x1, x2, x12, x13, x14 => if x14 < x13 then (if 0 ≤ x14 then (if x14 < (x12.length : Int) then ((expand_within.f (rdOf (0 : Nat) x12 x14) x1 x2).bind fun t111 => (if t111 = true then (if x14 > 0 then (if 0 ≤ (wrap64 (x14 - 1)) then (if (wrap64 (x14 - 1)) < (x0.length : Int) then ((math_Abs.f (rdOf (0 : Nat) x0 (wrap64 (x14 - 1)))).bind fun t113 => ((expand_low.f k (rdOf (0 : Nat) x12 x14)).bind fun t114 => (if (FloatKind.f64.format.order t113 t114 == some .gt || FloatKind.f64.format.order t113 t114 == some .eq) = true then (some false) else (expand_all.l0 k x0 x1 x2 x12 x13 (wrap64 (x14 + 1)))))) else (none)) else (none)) else (expand_all.l0 k x0 x1 x2 x12 x13 (wrap64 (x14 + 1)))) else (some false))) else (none)) else (none)) else (some true)
def expand_all.f (k : Nat) (l0 : List Nat) (a1 : Nat) (a2 : Nat) : Option (Bool) := if (l0.length : Int) > 64 then (some false) else (expand_all.l0 k l0 a1 a2 l0 (l0.length : Int) 0)
set_option maxHeartbeats 8000000 in
set_option maxRecDepth 100000 in
theorem expand_all.calls (k : Nat) (A0 : Option Addr) (c0 : Nat) (l0 : List Nat) (a1 : Nat) (a2 : Nat) (r : Bool) (w : World) (hr0 : Kd.C Kd.f64 w A0 l0.length l0) (hc0 : l0.length ≤ c0) (h : expand_all.f k l0 a1 a2 = some r) :
 Calls Tryz.prog 184 #[.slice A0 l0.length c0, .float .f64 a1, .float .f64 a2] w fun e w' => e = .returned (.bool r) ∧ Drawn0 w w' := by
 have HR0 := Aside0.mk hr0
 have HC0 := Aside0.mk hc0
 clear hr0 hc0
 have H : (if (l0.length : Int) > 64 then (some false) else (expand_all.l0 k l0 a1 a2 l0 (l0.length : Int) 0)) = some r := h
 clear h
 by_cases c4 : (l0.length : Int) > 64
 ·rw [if_pos c4] at H
  have c4b0 : decide (64 < (l0.length : Int)) = true := decide_eq_true c4
  have c4b1 : decide (64 < l0.length) = true := decide_eq_true (by omega)
  clear c4
  obtain rfl := Option.some.inj H
  go_enter Tryz.func184, Tryz.ntmps184
  go_wp2
  go_ret
  exact ⟨by first | rfl | (simp; done) | (simp [*]; done), by repeat (first | exact Drawn0.refl _ | apply Drawn0.step)⟩
 ·rw [if_neg c4] at H
  have c4b0 : decide (64 < (l0.length : Int)) = false := decide_eq_false c4
  have c4b1 : decide (64 < l0.length) = false := decide_eq_false (by omega)
  clear c4
  have H' := Aside0.mk H
  clear H
  go_enter Tryz.func184, Tryz.ntmps184
  go_wp2
  go_loopg [14] k (fun kq v14 w' => ∃ (x14_1 : Int), v14 = .int .i64 x14_1 ∧ Aside0 (expand_all.l0 kq l0 a1 a2 l0 (l0.length : Int) x14_1 = some r) ∧ Aside0 (kq ≤ k) ∧ Drawn0 w w')
  case atStart => exact ⟨(0), (by first | rfl | (simp; done) | (simp [*]; done)), H', ⟨Nat.le_refl _⟩, by repeat (first | exact Drawn0.refl _ | apply Drawn0.step)⟩
  case round =>
   clear H'
   try clear c1
   try clear p2
   try clear c4
   try clear c4b0
   try clear c4b1
   obtain ⟨x14_1, rfl, HA, HK1, ⟨m1, rfl⟩⟩ := hrel
   cases gk with
   | zero => exact absurd HA.out (by simp [expand_all.l0])
   | succ k1 =>
    have H := HA.out
    clear HA
    simp only [expand_all.l0] at H
    by_cases c5 : x14_1 < (l0.length : Int)
    ·rw [if_pos c5] at H
     have c5b0 : decide (x14_1 < (l0.length : Int)) = true := decide_eq_true c5
     clear c5
     by_cases c6 : 0 ≤ x14_1
     ·rw [if_pos c6] at H
      have c6b0 : decide (0 ≤ x14_1) = true := decide_eq_true c6
      clear c6
      by_cases c7 : x14_1 < (l0.length : Int)
      ·rw [if_pos c7] at H
       have c7b0 : decide (x14_1 < (l0.length : Int)) = true := decide_eq_true c7
       clear c7
       replace H := Option.bind_eq_some_iff.mp H
       obtain ⟨t111, A80, H⟩ := H
       replace H : (if t111 = true then (if x14_1 > 0 then (if 0 ≤ (wrap64 (x14_1 - 1)) then (if (wrap64 (x14_1 - 1)) < (l0.length : Int) then ((math_Abs.f (rdOf (0 : Nat) l0 (wrap64 (x14_1 - 1)))).bind fun t113 => ((expand_low.f k1 (rdOf (0 : Nat) l0 x14_1)).bind fun t114 => (if (FloatKind.f64.format.order t113 t114 == some .gt || FloatKind.f64.format.order t113 t114 == some .eq) = true then (some false) else (expand_all.l0 k1 l0 a1 a2 l0 (l0.length : Int) (wrap64 (x14_1 + 1)))))) else (none)) else (none)) else (expand_all.l0 k1 l0 a1 a2 l0 (l0.length : Int) (wrap64 (x14_1 + 1)))) else (some false)) = some r := H
       have A8 := Aside0.mk A80
       clear A80
       by_cases c9 : t111 = true
       ·subst c9
        have H1 : (if x14_1 > 0 then (if 0 ≤ (wrap64 (x14_1 - 1)) then (if (wrap64 (x14_1 - 1)) < (l0.length : Int) then ((math_Abs.f (rdOf (0 : Nat) l0 (wrap64 (x14_1 - 1)))).bind fun t113 => ((expand_low.f k1 (rdOf (0 : Nat) l0 x14_1)).bind fun t114 => (if (FloatKind.f64.format.order t113 t114 == some .gt || FloatKind.f64.format.order t113 t114 == some .eq) = true then (some false) else (expand_all.l0 k1 l0 a1 a2 l0 (l0.length : Int) (wrap64 (x14_1 + 1)))))) else (none)) else (none)) else (expand_all.l0 k1 l0 a1 a2 l0 (l0.length : Int) (wrap64 (x14_1 + 1)))) = some r := by rw [if_pos rfl] at H; exact H
        clear H
        have H := H1
        clear H1
        by_cases c10 : x14_1 > 0
        ·rw [if_pos c10] at H
         have c10b0 : decide (0 < x14_1) = true := decide_eq_true c10
         clear c10
         obtain ⟨ji11, hji11⟩ : ∃ j_ : Int, (wrap64 (x14_1 - 1)) = j_ := ⟨_, rfl⟩
         replace H : (if 0 ≤ (ji11) then (if (ji11) < (l0.length : Int) then ((math_Abs.f (rdOf (0 : Nat) l0 (ji11))).bind fun t113 => ((expand_low.f k1 (rdOf (0 : Nat) l0 x14_1)).bind fun t114 => (if (FloatKind.f64.format.order t113 t114 == some .gt || FloatKind.f64.format.order t113 t114 == some .eq) = true then (some false) else (expand_all.l0 k1 l0 a1 a2 l0 (l0.length : Int) (wrap64 (x14_1 + 1)))))) else (none)) else (none)) = some r := by first | (rw [hji11] at H; exact H) | (simp only [hji11] at H ⊢; exact H)
         (try rw [hji11] at A8)
         have hji11w : (IntKind.i64.wrap (x14_1 - 1)) = ji11 := (i64_w _).trans hji11
         by_cases c12 : 0 ≤ (ji11)
         ·rw [if_pos c12] at H
          have c12b0 : decide (0 ≤ (ji11)) = true := decide_eq_true c12
          clear c12
          by_cases c13 : (ji11) < (l0.length : Int)
          ·rw [if_pos c13] at H
           have c13b0 : decide ((ji11) < (l0.length : Int)) = true := decide_eq_true c13
           clear c13
           replace H := Option.bind_eq_some_iff.mp H
           obtain ⟨t113, A140, H⟩ := H
           replace H : ((expand_low.f k1 (rdOf (0 : Nat) l0 x14_1)).bind fun t114 => (if (FloatKind.f64.format.order t113 t114 == some .gt || FloatKind.f64.format.order t113 t114 == some .eq) = true then (some false) else (expand_all.l0 k1 l0 a1 a2 l0 (l0.length : Int) (wrap64 (x14_1 + 1))))) = some r := H
           have A14 := Aside0.mk A140
           clear A140
           replace H := Option.bind_eq_some_iff.mp H
           obtain ⟨t114, A150, H⟩ := H
           replace H : (if (FloatKind.f64.format.order t113 t114 == some .gt || FloatKind.f64.format.order t113 t114 == some .eq) = true then (some false) else (expand_all.l0 k1 l0 a1 a2 l0 (l0.length : Int) (wrap64 (x14_1 + 1)))) = some r := H
           have A15 := Aside0.mk A150
           clear A150
           by_cases c16 : (FloatKind.f64.format.order t113 t114 == some .gt || FloatKind.f64.format.order t113 t114 == some .eq) = true
           ·rw [if_pos c16] at H
            have c16b0 : (FloatKind.f64.format.order t113 t114 == some .gt || FloatKind.f64.format.order t113 t114 == some .eq) = true := c16
            (try (have c16b1 : decide (FloatKind.f64.format.order t113 t114 = some .gt || FloatKind.f64.format.order t113 t114 == some .eq) = true := by simpa using c16))
            (try (have c16b2 : (FloatKind.f64.format.order t113 t114 == some .gt || FloatKind.f64.format.order t113 t114 == some .eq) = true := by simpa using c16))
            clear c16
            obtain rfl := Option.some.inj H
            have p110 : 0 ≤ (x14_1 : Int) := of_decide_eq_true (by first | (with_reducible assumption) | assumption)
            have q110 : x14_1 < (l0.length : Int) := of_decide_eq_true (by first | (with_reducible assumption) | assumption)
            obtain ⟨ad110, e110, hx110_0⟩ := Kd.at_f64 HR0.out x14_1 p110 q110
            cases e110
            replace p110 := eq_true p110
            replace q110 := eq_true q110
            go_wp2_with (first | ((with_reducible refine gate_callee (f := 185) rfl ?_); refine goesL_ (some 22) rfl rfl Tryz.func185 (by kernel_rfl) rfl #[.float .f64 (rdOf (0 : Nat) l0 x14_1), .float .f64 a1, .float .f64 a2] rfl (by (try simp only [List.map_toArray, List.map_cons, List.map_nil]); first | done | rfl | (simp only [List.length_drop, List.length_take]; rfl)) ?_; (with_reducible refine (expand_within.calls (rdOf (0 : Nat) l0 x14_1) a1 a2 true _ A8.out).mono ?_); rintro e w' ⟨rfl, ⟨nd, rfl⟩⟩; refine ⟨_, rfl, ?_⟩; have p112 : 0 ≤ ((ji11) : Int) := of_decide_eq_true (by first | (with_reducible assumption) | assumption); have q112 : (ji11) < (l0.length : Int) := of_decide_eq_true (by first | (with_reducible assumption) | assumption); obtain ⟨ad112, e112, hx112_0⟩ := Kd.at_f64 HR0.out (ji11) p112 q112; obtain rfl : ad110 = ad112 := (by injection e112); replace p112 := eq_true p112; replace q112 := eq_true q112) | (go_at_call 114; (with_reducible refine (math_Abs.calls (rdOf (0 : Nat) l0 (ji11)) t113 _ A14.out).mono ?_); rintro e w' ⟨rfl, ⟨nd, rfl⟩⟩) | (go_at_call 204; (with_reducible refine (expand_low.calls k1 (rdOf (0 : Nat) l0 x14_1) t114 _ A15.out).mono ?_); rintro e w' ⟨rfl, ⟨nd, rfl⟩⟩))
            go_ret
            exact ⟨by first | rfl | (simp; done) | (simp only [← hji11] <;> (first | rfl | simp)) | (simp [*]; done), by repeat (first | exact Drawn0.refl _ | apply Drawn0.step)⟩
           ·rw [if_neg c16] at H
            have c16b0 : (FloatKind.f64.format.order t113 t114 == some .gt || FloatKind.f64.format.order t113 t114 == some .eq) = false := by simpa using c16
            (try (have c16b1 : decide (FloatKind.f64.format.order t113 t114 = some .gt || FloatKind.f64.format.order t113 t114 == some .eq) = false := by simpa using c16))
            (try (have c16b2 : (FloatKind.f64.format.order t113 t114 == some .gt || FloatKind.f64.format.order t113 t114 == some .eq) = false := by simpa using c16))
            (try (have c16b3 : ¬ (FloatKind.f64.format.order t113 t114 = some .gt || FloatKind.f64.format.order t113 t114 == some .eq) := by simpa using c16))
            clear c16
            have H' := Aside0.mk H
            clear H
            have p110 : 0 ≤ (x14_1 : Int) := of_decide_eq_true (by first | (with_reducible assumption) | assumption)
            have q110 : x14_1 < (l0.length : Int) := of_decide_eq_true (by first | (with_reducible assumption) | assumption)
            obtain ⟨ad110, e110, hx110_0⟩ := Kd.at_f64 HR0.out x14_1 p110 q110
            cases e110
            replace p110 := eq_true p110
            replace q110 := eq_true q110
            go_wp2_with (first | ((with_reducible refine gate_callee (f := 185) rfl ?_); refine goesL_ (some 22) rfl rfl Tryz.func185 (by kernel_rfl) rfl #[.float .f64 (rdOf (0 : Nat) l0 x14_1), .float .f64 a1, .float .f64 a2] rfl (by (try simp only [List.map_toArray, List.map_cons, List.map_nil]); first | done | rfl | (simp only [List.length_drop, List.length_take]; rfl)) ?_; (with_reducible refine (expand_within.calls (rdOf (0 : Nat) l0 x14_1) a1 a2 true _ A8.out).mono ?_); rintro e w' ⟨rfl, ⟨nd, rfl⟩⟩; refine ⟨_, rfl, ?_⟩; have p112 : 0 ≤ ((ji11) : Int) := of_decide_eq_true (by first | (with_reducible assumption) | assumption); have q112 : (ji11) < (l0.length : Int) := of_decide_eq_true (by first | (with_reducible assumption) | assumption); obtain ⟨ad112, e112, hx112_0⟩ := Kd.at_f64 HR0.out (ji11) p112 q112; obtain rfl : ad110 = ad112 := (by injection e112); replace p112 := eq_true p112; replace q112 := eq_true q112) | (go_at_call 114; (with_reducible refine (math_Abs.calls (rdOf (0 : Nat) l0 (ji11)) t113 _ A14.out).mono ?_); rintro e w' ⟨rfl, ⟨nd, rfl⟩⟩) | (go_at_call 204; (with_reducible refine (expand_low.calls k1 (rdOf (0 : Nat) l0 x14_1) t114 _ A15.out).mono ?_); rintro e w' ⟨rfl, ⟨nd, rfl⟩⟩))
            go_roundg k1
            case measure => have := HK1.out; omega
            case rel => exact ⟨(wrap64 (x14_1 + 1)), (by first | rfl | (simp; done) | (simp [*]; done)), H', ⟨by have := HK1.out; omega⟩, by repeat (first | exact Drawn0.refl _ | apply Drawn0.step)⟩
          ·rw [if_neg c13] at H
           exact absurd H (by simp)
         ·rw [if_neg c12] at H
          exact absurd H (by simp)
        ·rw [if_neg c10] at H
         have c10b0 : decide (0 < x14_1) = false := decide_eq_false c10
         clear c10
         have H' := Aside0.mk H
         clear H
         have p110 : 0 ≤ (x14_1 : Int) := of_decide_eq_true (by first | (with_reducible assumption) | assumption)
         have q110 : x14_1 < (l0.length : Int) := of_decide_eq_true (by first | (with_reducible assumption) | assumption)
         obtain ⟨ad110, e110, hx110_0⟩ := Kd.at_f64 HR0.out x14_1 p110 q110
         cases e110
         replace p110 := eq_true p110
         replace q110 := eq_true q110
         go_wp2_with (first | ((with_reducible refine gate_callee (f := 185) rfl ?_); refine goesL_ (some 22) rfl rfl Tryz.func185 (by kernel_rfl) rfl #[.float .f64 (rdOf (0 : Nat) l0 x14_1), .float .f64 a1, .float .f64 a2] rfl (by (try simp only [List.map_toArray, List.map_cons, List.map_nil]); first | done | rfl | (simp only [List.length_drop, List.length_take]; rfl)) ?_; (with_reducible refine (expand_within.calls (rdOf (0 : Nat) l0 x14_1) a1 a2 true _ A8.out).mono ?_); rintro e w' ⟨rfl, ⟨nd, rfl⟩⟩; refine ⟨_, rfl, ?_⟩))
         go_roundg k1
         case measure => have := HK1.out; omega
         case rel => exact ⟨(wrap64 (x14_1 + 1)), (by first | rfl | (simp; done) | (simp [*]; done)), H', ⟨by have := HK1.out; omega⟩, by repeat (first | exact Drawn0.refl _ | apply Drawn0.step)⟩
       ·replace c9 := Bool.eq_false_iff.mpr c9
        subst c9
        have H1 : (some false) = some r := by rw [if_neg (show ¬ (false = true) by decide)] at H; exact H
        clear H
        have H := H1
        clear H1
        obtain rfl := Option.some.inj H
        have p110 : 0 ≤ (x14_1 : Int) := of_decide_eq_true (by first | (with_reducible assumption) | assumption)
        have q110 : x14_1 < (l0.length : Int) := of_decide_eq_true (by first | (with_reducible assumption) | assumption)
        obtain ⟨ad110, e110, hx110_0⟩ := Kd.at_f64 HR0.out x14_1 p110 q110
        cases e110
        replace p110 := eq_true p110
        replace q110 := eq_true q110
        go_wp2_with (first | ((with_reducible refine gate_callee (f := 185) rfl ?_); refine goesL_ (some 22) rfl rfl Tryz.func185 (by kernel_rfl) rfl #[.float .f64 (rdOf (0 : Nat) l0 x14_1), .float .f64 a1, .float .f64 a2] rfl (by (try simp only [List.map_toArray, List.map_cons, List.map_nil]); first | done | rfl | (simp only [List.length_drop, List.length_take]; rfl)) ?_; (with_reducible refine (expand_within.calls (rdOf (0 : Nat) l0 x14_1) a1 a2 false _ A8.out).mono ?_); rintro e w' ⟨rfl, ⟨nd, rfl⟩⟩; refine ⟨_, rfl, ?_⟩))
        go_ret
        exact ⟨by first | rfl | (simp; done) | (simp [*]; done), by repeat (first | exact Drawn0.refl _ | apply Drawn0.step)⟩
      ·rw [if_neg c7] at H
       exact absurd H (by simp)
     ·rw [if_neg c6] at H
      exact absurd H (by simp)
    ·rw [if_neg c5] at H
     have c5b0 : decide (x14_1 < (l0.length : Int)) = false := decide_eq_false c5
     clear c5
     obtain rfl := Option.some.inj H
     go_wp2
     go_ret
     exact ⟨by first | rfl | (simp; done) | (simp [*]; done), by repeat (first | exact Drawn0.refl _ | apply Drawn0.step)⟩
def expand_Check.f (k : Nat) (l0 : List Nat) : Option (Bool) := (expand_all.f k l0 1 9065746049896808448).bind fun t115 => (some t115)
set_option maxHeartbeats 8000000 in
set_option maxRecDepth 100000 in
theorem expand_Check.calls (k : Nat) (A0 : Option Addr) (c0 : Nat) (l0 : List Nat) (r : Bool) (w : World) (hr0 : Kd.C Kd.f64 w A0 l0.length l0) (hc0 : l0.length ≤ c0) (h : expand_Check.f k l0 = some r) :
 Calls Tryz.prog 156 #[.slice A0 l0.length c0] w fun e w' => e = .returned (.bool r) ∧ Drawn0 w w' := by
 have HR0 := Aside0.mk hr0
 have HC0 := Aside0.mk hc0
 clear hr0 hc0
 have H : ((expand_all.f k l0 1 9065746049896808448).bind fun t115 => (some t115)) = some r := h
 clear h
 replace H := Option.bind_eq_some_iff.mp H
 obtain ⟨t115, A20, H⟩ := H
 replace H : (some t115) = some r := H
 have A2 := Aside0.mk A20
 clear A20
 obtain rfl := Option.some.inj H
 go_enter Tryz.func156, Tryz.ntmps156
 go_wp2_with (first | ((with_reducible refine gate_callee (f := 184) rfl ?_); refine goesL_ (some 4) rfl rfl Tryz.func184 (by kernel_rfl) rfl #[.slice A0 l0.length c0, .float .f64 1, .float .f64 9065746049896808448] rfl (by (try simp only [List.map_toArray, List.map_cons, List.map_nil]); first | done | rfl | (simp only [List.length_drop, List.length_take]; rfl)) ?_; (with_reducible refine (expand_all.calls k _ _ l0 1 9065746049896808448 t115 _ ?side1 ?side2 A2.out).mono ?_); (case side1 => repeat (first | exact HR0.out | (with_reducible refine Kd.C_alloc ?_ _) | (with_reducible refine Kd.C_drewN ?_ _) | (with_reducible refine Kd.C_drew ?_))); (case side2 => exact HC0.out); rintro e w' ⟨rfl, ⟨nd, rfl⟩⟩; refine ⟨_, rfl, ?_⟩))
 go_ret
 exact ⟨by first | rfl | (simp; done) | (simp [*]; done), by repeat (first | exact Drawn0.refl _ | apply Drawn0.step)⟩
def expand_Safe.f (k : Nat) (l0 : List Nat) : Option (Bool) := (expand_all.f k l0 2580562586483294208 6633802251116740608).bind fun t116 => (some t116)
set_option maxHeartbeats 8000000 in
set_option maxRecDepth 100000 in
theorem expand_Safe.calls (k : Nat) (A0 : Option Addr) (c0 : Nat) (l0 : List Nat) (r : Bool) (w : World) (hr0 : Kd.C Kd.f64 w A0 l0.length l0) (hc0 : l0.length ≤ c0) (h : expand_Safe.f k l0 = some r) :
 Calls Tryz.prog 153 #[.slice A0 l0.length c0] w fun e w' => e = .returned (.bool r) ∧ Drawn0 w w' := by
 have HR0 := Aside0.mk hr0
 have HC0 := Aside0.mk hc0
 clear hr0 hc0
 have H : ((expand_all.f k l0 2580562586483294208 6633802251116740608).bind fun t116 => (some t116)) = some r := h
 clear h
 replace H := Option.bind_eq_some_iff.mp H
 obtain ⟨t116, A20, H⟩ := H
 replace H : (some t116) = some r := H
 have A2 := Aside0.mk A20
 clear A20
 obtain rfl := Option.some.inj H
 go_enter Tryz.func153, Tryz.ntmps153
 go_wp2_with (first | ((with_reducible refine gate_callee (f := 184) rfl ?_); refine goesL_ (some 4) rfl rfl Tryz.func184 (by kernel_rfl) rfl #[.slice A0 l0.length c0, .float .f64 2580562586483294208, .float .f64 6633802251116740608] rfl (by (try simp only [List.map_toArray, List.map_cons, List.map_nil]); first | done | rfl | (simp only [List.length_drop, List.length_take]; rfl)) ?_; (with_reducible refine (expand_all.calls k _ _ l0 2580562586483294208 6633802251116740608 t116 _ ?side1 ?side2 A2.out).mono ?_); (case side1 => repeat (first | exact HR0.out | (with_reducible refine Kd.C_alloc ?_ _) | (with_reducible refine Kd.C_drewN ?_ _) | (with_reducible refine Kd.C_drew ?_))); (case side2 => exact HC0.out); rintro e w' ⟨rfl, ⟨nd, rfl⟩⟩; refine ⟨_, rfl, ?_⟩))
 go_ret
 exact ⟨by first | rfl | (simp; done) | (simp [*]; done), by repeat (first | exact Drawn0.refl _ | apply Drawn0.step)⟩
def expand_grow.l0 : Nat → List Nat → Nat → List Nat → Int → Int → Option (List Nat)
 | 0, _, _, _, _, _ => none
 | k + 1, x5, x6, x15, x16, x17 => if x17 < x16 then (if 0 ≤ x17 then (if x17 < (x15.length : Int) then ((eft_Sum.f x6 (rdOf (0 : Nat) x15 x17)).bind fun bt121 => (if (FloatKind.f64.format.order bt121.2 0 != some .eq) = true then (if x5.length < 17592186044416 then (expand_grow.l0 k (x5 ++ [bt121.2]) bt121.1 x15 x16 (wrap64 (x17 + 1))) else (none)) else (expand_grow.l0 k x5 bt121.1 x15 x16 (wrap64 (x17 + 1))))) else (none)) else (none)) else (if (FloatKind.f64.format.order x6 0 != some .eq) = true then (if x5.length < 17592186044416 then (some (x5 ++ [x6])) else (none)) else (some x5))
def expand_grow.f (k : Nat) (l0 : List Nat) (a1 : Nat) : Option (List Nat) := if 0 ≤ (wrap64 ((l0.length : Int) + 1)) then (if (wrap64 ((l0.length : Int) + 1) : Int).toNat ≤ 35184372088832 then (expand_grow.l0 k (([] : List Nat)) a1 l0 (l0.length : Int) 0) else (none)) else (none)
set_option maxHeartbeats 8000000 in
set_option maxRecDepth 100000 in
theorem expand_grow.calls (k : Nat) (A0 : Option Addr) (c0 : Nat) (l0 : List Nat) (a1 : Nat) (r : List Nat) (w : World) (hr0 : Kd.C Kd.f64 w A0 l0.length l0) (hc0 : l0.length ≤ c0) (h : expand_grow.f k l0 a1 = some r) :
 Calls Tryz.prog 187 #[.slice A0 l0.length c0, .float .f64 a1] w fun e w' => ∃ v0_ : Value, e = .returned (v0_) ∧ Kd.R Kd.f64 69 w' w.heap.size (fun _ => True) v0_ r ∧ Below w.heap.size w w' := by
 have HR0 := Aside0.mk hr0
 have HC0 := Aside0.mk hc0
 clear hr0 hc0
 have HB := Aside0.mk (Below.refl w.heap.size w)
 have H : (if 0 ≤ (wrap64 ((l0.length : Int) + 1)) then (if (wrap64 ((l0.length : Int) + 1) : Int).toNat ≤ 35184372088832 then (expand_grow.l0 k (([] : List Nat)) a1 l0 (l0.length : Int) 0) else (none)) else (none)) = some r := h
 clear h
 obtain ⟨ji3, hji3⟩ : ∃ j_ : Int, (wrap64 ((l0.length : Int) + 1)) = j_ := ⟨_, rfl⟩
 replace H : (if 0 ≤ (ji3) then (if (ji3 : Int).toNat ≤ 35184372088832 then (expand_grow.l0 k (([] : List Nat)) a1 l0 (l0.length : Int) 0) else (none)) else (none)) = some r := by first | (rw [hji3] at H; exact H) | (simp only [hji3] at H ⊢; exact H)
 have hji3w : (IntKind.i64.wrap ((l0.length : Int) + 1)) = ji3 := (i64_w _).trans hji3
 by_cases c4 : 0 ≤ (ji3)
 ·rw [if_pos c4] at H
  have c4b0 := eq_true c4
  have c4b1 : decide (0 ≤ (ji3)) = true := decide_eq_true c4
  clear c4
  by_cases c5 : (ji3 : Int).toNat ≤ 35184372088832
  ·rw [if_pos c5] at H
   have c5b0 := eq_true c5
   have c5b1 : decide ((ji3 : Int).toNat ≤ 35184372088832) = true := decide_eq_true c5
   clear c5
   obtain ⟨y117, hy117⟩ : ∃ y_ : List Nat, y_ = (([] : List Nat)) := ⟨_, rfl⟩
   replace H : (expand_grow.l0 k y117 a1 l0 (l0.length : Int) 0) = some r := by first | (rw [hy117]; with_reducible exact H) | (have H2_ := (Option.bind_some _ _).symm.trans H; rw [hy117]; with_reducible exact H2_) | (have H2_ := (Option.bind_some _ _).symm.trans H; with_reducible exact H2_) | with_reducible exact H | (rw [hy117]; exact H) | exact H
   have Ny117 := Aside0.mk hy117
   clear hy117
   have H' := Aside0.mk H
   clear H
   go_enter Tryz.func187, Tryz.ntmps187
   go_wp2_with (first | ((with_reducible refine gate_dst (N := 13) rfl ?_); refine Kd.R_make0 Kd.f64 _ 69 rfl (N := 13) rfl 150 _ _ rfl ji3 rfl rfl Tryz.underlying150 (.float .f64 0) 8 info69 (by omega) (ok := fun _ => True) (trivial) (of_decide_eq_true (by first | (with_reducible assumption) | assumption)) (Nat.le_trans (Nat.mul_le_mul_right _ (of_decide_eq_true (by first | (with_reducible assumption) | assumption) : ji3.toNat ≤ 35184372088832)) (by omega)) (Below.refl _ _) (Nat.le_refl _) ?_; intro v118 w6 ho7 hb hg_ hnew_; clear hg_ hnew_; (first | rw [← Ny117.out] at ho7 | (simp only [Int.reduceToNat] at ho7; rw [← Ny117.out] at ho7)); have n0_ := Aside0.mk (Kd.R_lower ho7 (below_size (by repeat (first | (with_reducible first | exact HB.out | apply below_alloc | apply pw_below_drewN | apply below_drew1) | exact HB.out)))); have n1_ := Aside0.mk (below_step (by repeat (first | (with_reducible first | exact HB.out | apply below_alloc | apply pw_below_drewN | apply below_drew1) | exact HB.out)) hb); clear HB; have HO119 := n0_; have HB := n1_; clear n0_ n1_; clear hb ho7))
   go_loopg [5, 6, 17] k (fun kq v5 v6 v17 w' => ∃ (x5_1 : List Nat) (x6_1 : Nat) (x17_1 : Int), v6 = .float .f64 x6_1 ∧ v17 = .int .i64 x17_1 ∧ Aside0 (expand_grow.l0 kq x5_1 x6_1 l0 (l0.length : Int) x17_1 = some r) ∧ Aside0 (kq ≤ k) ∧ Aside0 (Kd.R Kd.f64 69 w' w.heap.size (fun _ => True) v5 x5_1) ∧ Aside0 (Below w.heap.size w w'))
   case atStart => exact ⟨(y117), (a1), (0), (by first | rfl | (simp; done) | (simp [*]; done)), (by first | rfl | (simp; done) | (simp [*]; done)), H', ⟨Nat.le_refl _⟩, ⟨by (with_reducible repeat (first | apply Kd.R_alloc | apply Kd.R_drewN | apply Kd.R_drew)); exact HO119.out⟩, ⟨by repeat (first | (with_reducible first | exact HB.out | apply below_alloc | apply pw_below_drewN | apply below_drew1) | exact HB.out)⟩⟩
   case round =>
    clear H'
    try clear c1
    try clear p2
    try clear c4
    try clear c4b0
    try clear c4b1
    try clear c5
    try clear c5b0
    try clear c5b1
    try clear p6
    obtain ⟨x5_1, x6_1, x17_1, rfl, rfl, HA, HK1, HO_5, HB⟩ := hrel
    cases gk with
    | zero => exact absurd HA.out (by simp [expand_grow.l0])
    | succ k1 =>
     have H := HA.out
     clear HA
     simp only [expand_grow.l0] at H
     by_cases c8 : x17_1 < (l0.length : Int)
     ·rw [if_pos c8] at H
      have c8b0 : decide (x17_1 < (l0.length : Int)) = true := decide_eq_true c8
      clear c8
      by_cases c9 : 0 ≤ x17_1
      ·rw [if_pos c9] at H
       have c9b0 : decide (0 ≤ x17_1) = true := decide_eq_true c9
       clear c9
       by_cases c10 : x17_1 < (l0.length : Int)
       ·rw [if_pos c10] at H
        have c10b0 : decide (x17_1 < (l0.length : Int)) = true := decide_eq_true c10
        clear c10
        replace H := Option.bind_eq_some_iff.mp H
        obtain ⟨⟨t121, t122⟩, A110, H⟩ := H
        replace H : (if (FloatKind.f64.format.order t122 0 != some .eq) = true then (if x5_1.length < 17592186044416 then (expand_grow.l0 k1 (x5_1 ++ [t122]) t121 l0 (l0.length : Int) (wrap64 (x17_1 + 1))) else (none)) else (expand_grow.l0 k1 x5_1 t121 l0 (l0.length : Int) (wrap64 (x17_1 + 1)))) = some r := H
        have A11 := Aside0.mk A110
        clear A110
        by_cases c12 : (FloatKind.f64.format.order t122 0 != some .eq) = true
        ·rw [if_pos c12] at H
         have c12b0 : (FloatKind.f64.format.order t122 0 != some .eq) = true := c12
         (try (have c12b1 : decide (FloatKind.f64.format.order t122 0 = some .eq) = false := by simpa using c12))
         (try (have c12b2 : (FloatKind.f64.format.order t122 0 == some .eq) = false := by simpa using c12))
         (try (have c12b3 : ¬ (FloatKind.f64.format.order t122 0 = some .eq) := by simpa using c12))
         clear c12
         by_cases c13 : x5_1.length < 17592186044416
         ·rw [if_pos c13] at H
          have LMc13 := Aside0.mk c13
          clear c13
          obtain ⟨y123, hy123⟩ : ∃ y_ : List Nat, y_ = (x5_1 ++ [t122]) := ⟨_, rfl⟩
          replace H : (expand_grow.l0 k1 y123 t121 l0 (l0.length : Int) (wrap64 (x17_1 + 1))) = some r := by first | (rw [hy123]; with_reducible exact H) | (have H2_ := (Option.bind_some _ _).symm.trans H; rw [hy123]; with_reducible exact H2_) | (have H2_ := (Option.bind_some _ _).symm.trans H; with_reducible exact H2_) | with_reducible exact H | (rw [hy123]; exact H) | exact H
          have Ny123 := Aside0.mk hy123
          clear hy123
          have H' := Aside0.mk H
          clear H
          have p120 : 0 ≤ (x17_1 : Int) := of_decide_eq_true (by first | (with_reducible assumption) | assumption)
          have q120 : x17_1 < (l0.length : Int) := of_decide_eq_true (by first | (with_reducible assumption) | assumption)
          obtain ⟨ad120, e120, hx120_0⟩ := Kd.at_f64 HR0.out x17_1 p120 q120
          cases e120
          replace hx120_0 := (HB.out.cell (World.block_lt_of_cell? w _ hx120_0)).trans hx120_0
          replace p120 := eq_true p120
          replace q120 := eq_true q120
          go_wp2_with (first | ((with_reducible refine gate_callee (f := 152) rfl ?_); refine goesL_ (some 24) rfl rfl Tryz.func152 (by kernel_rfl) rfl #[.float .f64 x6_1, .float .f64 (rdOf (0 : Nat) l0 x17_1)] rfl (by (try simp only [List.map_toArray, List.map_cons, List.map_nil]); first | done | rfl | (simp only [List.length_drop, List.length_take]; rfl)) ?_; (with_reducible refine (eft_Sum.calls x6_1 (rdOf (0 : Nat) l0 x17_1) t121 t122 _ A11.out).mono ?_); rintro e w14 ⟨rfl, hb⟩; refine ⟨_, rfl, ?_⟩; have n0_ := Aside0.mk (Kd.R_below (by (with_reducible repeat (first | apply Kd.R_alloc | apply Kd.R_drewN | apply Kd.R_drew)); exact HO_5.out) hb); have n1_ := Aside0.mk (below_step (by repeat (first | (with_reducible first | exact HB.out | apply below_alloc | apply pw_below_drewN | apply below_drew1) | exact HB.out)) hb); clear HO_5; clear HB; have HO_5 := n0_; have HB := n1_; clear n0_ n1_; (try clear hb); (try clear hb2); (try clear hk); (try clear hi)) | ((with_reducible refine gate_builtin (b := .append) (xs := #[.tmp 29, .tmp 31]) rfl ?_); at_builtin; refine Kd.R_append Kd.f64 (w0 := w) w.heap.size rfl (.tmp 29) (.tmp 31) 150 69 (.float .f64 0) 8 rfl Tryz.underlying150 info69 rfl (by decide) (by omega) u5 x5_1 t122 [.float .f64 t122] (fun _ => True) (fun _ => False) rfl rfl ?aP (fun _ hk => hk.elim) ?aF ?aO ?aB ?aS ?aL ?_; (case aP => exact rfl); (case aB => exact (by repeat (first | (with_reducible first | exact HB.out | apply below_alloc | apply pw_below_drewN | apply below_drew1) | exact HB.out))); (case aF => exact (fun _ _ => trivial)); (case aO => exact (by (with_reducible repeat (first | apply Kd.R_alloc | apply Kd.R_drewN | apply Kd.R_drew)); exact HO_5.out)); (case aS => exact (below_size (by repeat (first | (with_reducible first | exact HB.out | apply below_alloc | apply pw_below_drewN | apply below_drew1) | exact HB.out)))); (case aL => have := LMc13.out; omega); intro v124 w15 ho hb hg hat; rw [← Ny123.out] at ho; have n0_ := Aside0.mk (hb); have n1_ := Aside0.mk (ho); clear HB; clear HO_5; have HB := n0_; have HO125 := n1_; clear n0_ n1_; clear ho hb hg hat))
          go_roundg k1
          case measure => have := HK1.out; omega
          case rel => exact ⟨(y123), (t121), (wrap64 (x17_1 + 1)), (by first | rfl | (simp; done) | (simp [*]; done)), (by first | rfl | (simp; done) | (simp [*]; done)), H', ⟨by have := HK1.out; omega⟩, ⟨by (with_reducible repeat (first | apply Kd.R_alloc | apply Kd.R_drewN | apply Kd.R_drew)); exact HO125.out⟩, ⟨by repeat (first | (with_reducible first | exact HB.out | apply below_alloc | apply pw_below_drewN | apply below_drew1) | exact HB.out)⟩⟩
         ·rw [if_neg c13] at H
          exact absurd H (by simp)
        ·rw [if_neg c12] at H
         have c12b0 : (FloatKind.f64.format.order t122 0 != some .eq) = false := by simpa using c12
         (try (have c12b1 : decide (FloatKind.f64.format.order t122 0 = some .eq) = true := by simpa using c12))
         (try (have c12b2 : (FloatKind.f64.format.order t122 0 == some .eq) = true := by simpa using c12))
         clear c12
         have H' := Aside0.mk H
         clear H
         have p120 : 0 ≤ (x17_1 : Int) := of_decide_eq_true (by first | (with_reducible assumption) | assumption)
         have q120 : x17_1 < (l0.length : Int) := of_decide_eq_true (by first | (with_reducible assumption) | assumption)
         obtain ⟨ad120, e120, hx120_0⟩ := Kd.at_f64 HR0.out x17_1 p120 q120
         cases e120
         replace hx120_0 := (HB.out.cell (World.block_lt_of_cell? w _ hx120_0)).trans hx120_0
         replace p120 := eq_true p120
         replace q120 := eq_true q120
         go_wp2_with (first | ((with_reducible refine gate_callee (f := 152) rfl ?_); refine goesL_ (some 24) rfl rfl Tryz.func152 (by kernel_rfl) rfl #[.float .f64 x6_1, .float .f64 (rdOf (0 : Nat) l0 x17_1)] rfl (by (try simp only [List.map_toArray, List.map_cons, List.map_nil]); first | done | rfl | (simp only [List.length_drop, List.length_take]; rfl)) ?_; (with_reducible refine (eft_Sum.calls x6_1 (rdOf (0 : Nat) l0 x17_1) t121 t122 _ A11.out).mono ?_); rintro e w16 ⟨rfl, hb⟩; refine ⟨_, rfl, ?_⟩; have n0_ := Aside0.mk (Kd.R_below (by (with_reducible repeat (first | apply Kd.R_alloc | apply Kd.R_drewN | apply Kd.R_drew)); exact HO_5.out) hb); have n1_ := Aside0.mk (below_step (by repeat (first | (with_reducible first | exact HB.out | apply below_alloc | apply pw_below_drewN | apply below_drew1) | exact HB.out)) hb); clear HO_5; clear HB; have HO_5 := n0_; have HB := n1_; clear n0_ n1_; (try clear hb); (try clear hb2); (try clear hk); (try clear hi)))
         go_roundg k1
         case measure => have := HK1.out; omega
         case rel => exact ⟨(x5_1), (t121), (wrap64 (x17_1 + 1)), (by first | rfl | (simp; done) | (simp [*]; done)), (by first | rfl | (simp; done) | (simp [*]; done)), H', ⟨by have := HK1.out; omega⟩, ⟨by (with_reducible repeat (first | apply Kd.R_alloc | apply Kd.R_drewN | apply Kd.R_drew)); exact HO_5.out⟩, ⟨by repeat (first | (with_reducible first | exact HB.out | apply below_alloc | apply pw_below_drewN | apply below_drew1) | exact HB.out)⟩⟩
       ·rw [if_neg c10] at H
        exact absurd H (by simp)
      ·rw [if_neg c9] at H
       exact absurd H (by simp)
     ·rw [if_neg c8] at H
      have c8b0 : decide (x17_1 < (l0.length : Int)) = false := decide_eq_false c8
      clear c8
      by_cases c17 : (FloatKind.f64.format.order x6_1 0 != some .eq) = true
      ·rw [if_pos c17] at H
       have c17b0 : (FloatKind.f64.format.order x6_1 0 != some .eq) = true := c17
       (try (have c17b1 : decide (FloatKind.f64.format.order x6_1 0 = some .eq) = false := by simpa using c17))
       (try (have c17b2 : (FloatKind.f64.format.order x6_1 0 == some .eq) = false := by simpa using c17))
       (try (have c17b3 : ¬ (FloatKind.f64.format.order x6_1 0 = some .eq) := by simpa using c17))
       clear c17
       by_cases c18 : x5_1.length < 17592186044416
       ·rw [if_pos c18] at H
        have LMc18 := Aside0.mk c18
        clear c18
        obtain ⟨y126, hy126⟩ : ∃ y_ : List Nat, y_ = (x5_1 ++ [x6_1]) := ⟨_, rfl⟩
        replace H : (some y126) = some r := by first | (rw [hy126]; with_reducible exact H) | (have H2_ := (Option.bind_some _ _).symm.trans H; rw [hy126]; with_reducible exact H2_) | (have H2_ := (Option.bind_some _ _).symm.trans H; with_reducible exact H2_) | with_reducible exact H | (rw [hy126]; exact H) | exact H
        have Ny126 := Aside0.mk hy126
        clear hy126
        obtain rfl := Option.some.inj H
        go_wp2_with (first | ((with_reducible refine gate_builtin (b := .append) (xs := #[.tmp 36, .tmp 38]) rfl ?_); at_builtin; refine Kd.R_append Kd.f64 (w0 := w) w.heap.size rfl (.tmp 36) (.tmp 38) 150 69 (.float .f64 0) 8 rfl Tryz.underlying150 info69 rfl (by decide) (by omega) u5 x5_1 x6_1 [.float .f64 x6_1] (fun _ => True) (fun _ => False) rfl rfl ?aP (fun _ hk => hk.elim) ?aF ?aO ?aB ?aS ?aL ?_; (case aP => exact rfl); (case aB => exact (by repeat (first | (with_reducible first | exact HB.out | apply below_alloc | apply pw_below_drewN | apply below_drew1) | exact HB.out))); (case aF => exact (fun _ _ => trivial)); (case aO => exact (by (with_reducible repeat (first | apply Kd.R_alloc | apply Kd.R_drewN | apply Kd.R_drew)); exact HO_5.out)); (case aS => exact (below_size (by repeat (first | (with_reducible first | exact HB.out | apply below_alloc | apply pw_below_drewN | apply below_drew1) | exact HB.out)))); (case aL => have := LMc18.out; omega); intro v127 w19 ho hb hg hat; rw [← Ny126.out] at ho; have n0_ := Aside0.mk (hb); have n1_ := Aside0.mk (ho); clear HB; clear HO_5; have HB := n0_; have HO128 := n1_; clear n0_ n1_; clear ho hb hg hat))
        go_ret
        exact ⟨_, by first | rfl | (simp [errW_none, errW_some] <;> rfl) | (simp only [← hji3]; first | rfl | (simp [errW_none, errW_some] <;> rfl)) | (simp [*, errW_none, errW_some] <;> rfl), by (with_reducible repeat (first | apply Kd.R_alloc | apply Kd.R_drewN | apply Kd.R_drew)); exact HO128.out, by repeat (first | (with_reducible first | exact HB.out | apply below_alloc | apply pw_below_drewN | apply below_drew1) | exact HB.out)⟩
       ·rw [if_neg c18] at H
        exact absurd H (by simp)
      ·rw [if_neg c17] at H
       have c17b0 : (FloatKind.f64.format.order x6_1 0 != some .eq) = false := by simpa using c17
       (try (have c17b1 : decide (FloatKind.f64.format.order x6_1 0 = some .eq) = true := by simpa using c17))
       (try (have c17b2 : (FloatKind.f64.format.order x6_1 0 == some .eq) = true := by simpa using c17))
       clear c17
       obtain rfl := Option.some.inj H
       go_wp2
       go_ret
       exact ⟨_, by first | rfl | (simp [errW_none, errW_some] <;> rfl) | (simp only [← hji3]; first | rfl | (simp [errW_none, errW_some] <;> rfl)) | (simp [*, errW_none, errW_some] <;> rfl), by (with_reducible repeat (first | apply Kd.R_alloc | apply Kd.R_drewN | apply Kd.R_drew)); exact HO_5.out, by repeat (first | (with_reducible first | exact HB.out | apply below_alloc | apply pw_below_drewN | apply below_drew1) | exact HB.out)⟩
  ·rw [if_neg c5] at H
   exact absurd H (by simp)
 ·rw [if_neg c4] at H
  exact absurd H (by simp)
end Go.Proofs.YtaoichlepfiliaaGreatDoor.E
