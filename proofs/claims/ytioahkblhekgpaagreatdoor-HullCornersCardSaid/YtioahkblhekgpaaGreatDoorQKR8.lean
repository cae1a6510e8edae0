/- What the proof needs of R8: only what is used is left (wip/tools/prune.py). Conditions stand in each sentence. -/
import Derived.Test.YtioahkblhekgpaaGreatDoorQKR0
import Derived.Test.YtioahkblhekgpaaGreatDoorQKR6
import Derived.Test.YtioahkblhekgpaaGreatDoorQKR7
set_option linter.unusedVariables false
set_option linter.unusedSimpArgs false
namespace Go.Proofs.YtioahkblhekgpaaGreatDoorW.PrintLast
end Go.Proofs.YtioahkblhekgpaaGreatDoorW.PrintLast
namespace Go.Proofs.YtioahkblhekgpaaGreatDoorW.PrintMore
end Go.Proofs.YtioahkblhekgpaaGreatDoorW.PrintMore
namespace Go.Proofs.YtioahkblhekgpaaGreatDoorW.PrintWords
end Go.Proofs.YtioahkblhekgpaaGreatDoorW.PrintWords
namespace Go.Proofs.YtioahkblhekgpaaGreatDoor.R
open Go.RowKit Go.Proofs.YtioahkblhekgpaaGreatDoorW.PrintWords Go.Proofs.YtioahkblhekgpaaGreatDoorW.PrintLast Go.Proofs.YtioahkblhekgpaaGreatDoorW.PrintMore
set_option linter.unusedVariables false
set_option linter.unusedSimpArgs false
set_option maxHeartbeats 8000000 in
set_option maxRecDepth 100000 in
def math_Inf.f (a0 : Int) : Option (Nat) := if a0 ≥ 0 then (some (fof 9218868437227405312)) else (some (fof 18442240474082181120))
set_option maxHeartbeats 8000000 in
set_option maxRecDepth 100000 in
theorem math_Inf.calls (a0 : Int) (r : Nat) (w : World) (h : math_Inf.f a0 = some r) :
 Calls Tryz.prog 30 #[.int .i64 a0] w fun e w' => e = .returned (.float .f64 r) ∧ Drawn0 w w' := by
 have H : (if a0 ≥ 0 then (some (fof 9218868437227405312)) else (some (fof 18442240474082181120))) = some r := h
 clear h
 by_cases c2 : a0 ≥ 0
 ·rw [if_pos c2] at H
  have c2b0 : decide (0 ≤ a0) = true := decide_eq_true c2
  clear c2
  obtain rfl := Option.some.inj H
  go_enter Tryz.func30, Tryz.ntmps30
  go_wp2
  go_ret
  exact ⟨by first | rfl | (simp; done) | (simp [*]; done), by repeat (first | exact Drawn0.refl _ | apply Drawn0.step)⟩
 ·rw [if_neg c2] at H
  have c2b0 : decide (0 ≤ a0) = false := decide_eq_false c2
  clear c2
  obtain rfl := Option.some.inj H
  go_enter Tryz.func30, Tryz.ntmps30
  go_wp2
  go_ret
  exact ⟨by first | rfl | (simp; done) | (simp [*]; done), by repeat (first | exact Drawn0.refl _ | apply Drawn0.step)⟩
def math_ldexp.f (a0 : Nat) (a1 : Int) : Option (Nat) := if (FloatKind.f64.format.order a0 0 == some .eq) = true then (some a0) else ((math_IsInf.f a0 0).bind fun t298 => (if t298 = true then (some a0) else ((math_IsNaN.f a0).bind fun t299 => (if t299 = true then (some a0) else ((math_normalize.f a0).bind fun bt300 => (if (wrap64 ((wrap64 (a1 + bt300.2)) + (wrap64 ((Go.bits .and .i64 (wrap64 ((fbits bt300.1) / 4503599627370496)) 2047) - 1023)))) < (-1075) then ((math_Copysign.f 0 bt300.1).bind fun t302 => (some t302)) else (if (wrap64 ((wrap64 (a1 + bt300.2)) + (wrap64 ((Go.bits .and .i64 (wrap64 ((fbits bt300.1) / 4503599627370496)) 2047) - 1023)))) > 1023 then (if (FloatKind.f64.format.order bt300.1 0 == some .lt) = true then ((math_Inf.f (-1)).bind fun t303 => (some t303)) else ((math_Inf.f 1).bind fun t304 => (some t304))) else (if (wrap64 ((wrap64 (a1 + bt300.2)) + (wrap64 ((Go.bits .and .i64 (wrap64 ((fbits bt300.1) / 4503599627370496)) 2047) - 1023)))) < (-1022) then ((floatBits .mul .f64 4368491638549381120 (fof (Go.bits .or .u64 (Go.bits .andNot .u64 (fbits bt300.1) 9218868437227405312) (IntKind.u64.wrap ((IntKind.u64.wrap (wrap64 ((wrap64 ((wrap64 ((wrap64 (a1 + bt300.2)) + (wrap64 ((Go.bits .and .i64 (wrap64 ((fbits bt300.1) / 4503599627370496)) 2047) - 1023)))) + 53)) + 1023))) * 4503599627370496))))).bind fun t305 => (some t305)) else ((floatBits .mul .f64 4607182418800017408 (fof (Go.bits .or .u64 (Go.bits .andNot .u64 (fbits bt300.1) 9218868437227405312) (IntKind.u64.wrap ((IntKind.u64.wrap (wrap64 ((wrap64 ((wrap64 (a1 + bt300.2)) + (wrap64 ((Go.bits .and .i64 (wrap64 ((fbits bt300.1) / 4503599627370496)) 2047) - 1023)))) + 1023))) * 4503599627370496))))).bind fun t306 => (some t306))))))))))
set_option maxHeartbeats 8000000 in
set_option maxRecDepth 100000 in
theorem math_ldexp.calls (a0 : Nat) (a1 : Int) (r : Nat) (w : World) (h : math_ldexp.f a0 a1 = some r) :
 Calls Tryz.prog 133 #[.float .f64 a0, .int .i64 a1] w fun e w' => e = .returned (.float .f64 r) ∧ Drawn0 w w' := by
 have H : (if (FloatKind.f64.format.order a0 0 == some .eq) = true then (some a0) else ((math_IsInf.f a0 0).bind fun t298 => (if t298 = true then (some a0) else ((math_IsNaN.f a0).bind fun t299 => (if t299 = true then (some a0) else ((math_normalize.f a0).bind fun bt300 => (if (wrap64 ((wrap64 (a1 + bt300.2)) + (wrap64 ((Go.bits .and .i64 (wrap64 ((fbits bt300.1) / 4503599627370496)) 2047) - 1023)))) < (-1075) then ((math_Copysign.f 0 bt300.1).bind fun t302 => (some t302)) else (if (wrap64 ((wrap64 (a1 + bt300.2)) + (wrap64 ((Go.bits .and .i64 (wrap64 ((fbits bt300.1) / 4503599627370496)) 2047) - 1023)))) > 1023 then (if (FloatKind.f64.format.order bt300.1 0 == some .lt) = true then ((math_Inf.f (-1)).bind fun t303 => (some t303)) else ((math_Inf.f 1).bind fun t304 => (some t304))) else (if (wrap64 ((wrap64 (a1 + bt300.2)) + (wrap64 ((Go.bits .and .i64 (wrap64 ((fbits bt300.1) / 4503599627370496)) 2047) - 1023)))) < (-1022) then ((floatBits .mul .f64 4368491638549381120 (fof (Go.bits .or .u64 (Go.bits .andNot .u64 (fbits bt300.1) 9218868437227405312) (IntKind.u64.wrap ((IntKind.u64.wrap (wrap64 ((wrap64 ((wrap64 ((wrap64 (a1 + bt300.2)) + (wrap64 ((Go.bits .and .i64 (wrap64 ((fbits bt300.1) / 4503599627370496)) 2047) - 1023)))) + 53)) + 1023))) * 4503599627370496))))).bind fun t305 => (some t305)) else ((floatBits .mul .f64 4607182418800017408 (fof (Go.bits .or .u64 (Go.bits .andNot .u64 (fbits bt300.1) 9218868437227405312) (IntKind.u64.wrap ((IntKind.u64.wrap (wrap64 ((wrap64 ((wrap64 (a1 + bt300.2)) + (wrap64 ((Go.bits .and .i64 (wrap64 ((fbits bt300.1) / 4503599627370496)) 2047) - 1023)))) + 1023))) * 4503599627370496))))).bind fun t306 => (some t306))))))))))) = some r := h
 clear h
 by_cases c3 : (FloatKind.f64.format.order a0 0 == some .eq) = true
 ·rw [if_pos c3] at H
  have c3b0 : (FloatKind.f64.format.order a0 0 == some .eq) = true := c3
  (try (have c3b1 : decide (FloatKind.f64.format.order a0 0 = some .eq) = true := by simpa using c3))
  (try (have c3b2 : (FloatKind.f64.format.order a0 0 == some .eq) = true := by simpa using c3))
  clear c3
  obtain rfl := Option.some.inj H
  go_enter Tryz.func133, Tryz.ntmps133
  go_wp2
  go_ret
  exact ⟨by first | rfl | (simp; done) | (simp [*]; done), by repeat (first | exact Drawn0.refl _ | apply Drawn0.step)⟩
 ·rw [if_neg c3] at H
  have c3b0 : (FloatKind.f64.format.order a0 0 == some .eq) = false := by simpa using c3
  (try (have c3b1 : decide (FloatKind.f64.format.order a0 0 = some .eq) = false := by simpa using c3))
  (try (have c3b2 : (FloatKind.f64.format.order a0 0 == some .eq) = false := by simpa using c3))
  (try (have c3b3 : ¬ (FloatKind.f64.format.order a0 0 = some .eq) := by simpa using c3))
  clear c3
  replace H := Option.bind_eq_some_iff.mp H
  obtain ⟨t298, A40, H⟩ := H
  replace H : (if t298 = true then (some a0) else ((math_IsNaN.f a0).bind fun t299 => (if t299 = true then (some a0) else ((math_normalize.f a0).bind fun bt300 => (if (wrap64 ((wrap64 (a1 + bt300.2)) + (wrap64 ((Go.bits .and .i64 (wrap64 ((fbits bt300.1) / 4503599627370496)) 2047) - 1023)))) < (-1075) then ((math_Copysign.f 0 bt300.1).bind fun t302 => (some t302)) else (if (wrap64 ((wrap64 (a1 + bt300.2)) + (wrap64 ((Go.bits .and .i64 (wrap64 ((fbits bt300.1) / 4503599627370496)) 2047) - 1023)))) > 1023 then (if (FloatKind.f64.format.order bt300.1 0 == some .lt) = true then ((math_Inf.f (-1)).bind fun t303 => (some t303)) else ((math_Inf.f 1).bind fun t304 => (some t304))) else (if (wrap64 ((wrap64 (a1 + bt300.2)) + (wrap64 ((Go.bits .and .i64 (wrap64 ((fbits bt300.1) / 4503599627370496)) 2047) - 1023)))) < (-1022) then ((floatBits .mul .f64 4368491638549381120 (fof (Go.bits .or .u64 (Go.bits .andNot .u64 (fbits bt300.1) 9218868437227405312) (IntKind.u64.wrap ((IntKind.u64.wrap (wrap64 ((wrap64 ((wrap64 ((wrap64 (a1 + bt300.2)) + (wrap64 ((Go.bits .and .i64 (wrap64 ((fbits bt300.1) / 4503599627370496)) 2047) - 1023)))) + 53)) + 1023))) * 4503599627370496))))).bind fun t305 => (some t305)) else ((floatBits .mul .f64 4607182418800017408 (fof (Go.bits .or .u64 (Go.bits .andNot .u64 (fbits bt300.1) 9218868437227405312) (IntKind.u64.wrap ((IntKind.u64.wrap (wrap64 ((wrap64 ((wrap64 (a1 + bt300.2)) + (wrap64 ((Go.bits .and .i64 (wrap64 ((fbits bt300.1) / 4503599627370496)) 2047) - 1023)))) + 1023))) * 4503599627370496))))).bind fun t306 => (some t306))))))))) = some r := H
  have A4 := Aside0.mk A40
  clear A40
  by_cases c5 : t298 = true
  ·subst c5
   have H1 : (some a0) = some r := by rw [if_pos rfl] at H; exact H
   clear H
   have H := H1
   clear H1
   obtain rfl := Option.some.inj H
   go_enter Tryz.func133, Tryz.ntmps133
   go_wp2_with (first | ((with_reducible refine gate_callee (f := 148) rfl ?_); refine goesL_ (some 14) rfl rfl Tryz.func148 (by kernel_rfl) rfl #[.float .f64 a0, .int .i64 0] rfl (by (try simp only [List.map_toArray, List.map_cons, List.map_nil]); first | done | rfl | (simp only [List.length_drop, List.length_take]; rfl)) ?_; (with_reducible refine (math_IsInf.calls a0 0 true _ A4.out).mono ?_); rintro e w' ⟨rfl, ⟨nd, rfl⟩⟩; refine ⟨_, rfl, ?_⟩))
   go_ret
   exact ⟨by first | rfl | (simp; done) | (simp [*]; done), by repeat (first | exact Drawn0.refl _ | apply Drawn0.step)⟩
  ·replace c5 := Bool.eq_false_iff.mpr c5
   subst c5
   have H1 : ((math_IsNaN.f a0).bind fun t299 => (if t299 = true then (some a0) else ((math_normalize.f a0).bind fun bt300 => (if (wrap64 ((wrap64 (a1 + bt300.2)) + (wrap64 ((Go.bits .and .i64 (wrap64 ((fbits bt300.1) / 4503599627370496)) 2047) - 1023)))) < (-1075) then ((math_Copysign.f 0 bt300.1).bind fun t302 => (some t302)) else (if (wrap64 ((wrap64 (a1 + bt300.2)) + (wrap64 ((Go.bits .and .i64 (wrap64 ((fbits bt300.1) / 4503599627370496)) 2047) - 1023)))) > 1023 then (if (FloatKind.f64.format.order bt300.1 0 == some .lt) = true then ((math_Inf.f (-1)).bind fun t303 => (some t303)) else ((math_Inf.f 1).bind fun t304 => (some t304))) else (if (wrap64 ((wrap64 (a1 + bt300.2)) + (wrap64 ((Go.bits .and .i64 (wrap64 ((fbits bt300.1) / 4503599627370496)) 2047) - 1023)))) < (-1022) then ((floatBits .mul .f64 4368491638549381120 (fof (Go.bits .or .u64 (Go.bits .andNot .u64 (fbits bt300.1) 9218868437227405312) (IntKind.u64.wrap ((IntKind.u64.wrap (wrap64 ((wrap64 ((wrap64 ((wrap64 (a1 + bt300.2)) + (wrap64 ((Go.bits .and .i64 (wrap64 ((fbits bt300.1) / 4503599627370496)) 2047) - 1023)))) + 53)) + 1023))) * 4503599627370496))))).bind fun t305 => (some t305)) else ((floatBits .mul .f64 4607182418800017408 (fof (Go.bits .or .u64 (Go.bits .andNot .u64 (fbits bt300.1) 9218868437227405312) (IntKind.u64.wrap ((IntKind.u64.wrap (wrap64 ((wrap64 ((wrap64 (a1 + bt300.2)) + (wrap64 ((Go.bits .and .i64 (wrap64 ((fbits bt300.1) / 4503599627370496)) 2047) - 1023)))) + 1023))) * 4503599627370496))))).bind fun t306 => (some t306)))))))) = some r := by rw [if_neg (show ¬ (false = true) by decide)] at H; exact H
   clear H
   have H := H1
   clear H1
   replace H := Option.bind_eq_some_iff.mp H
   obtain ⟨t299, A60, H⟩ := H
   replace H : (if t299 = true then (some a0) else ((math_normalize.f a0).bind fun bt300 => (if (wrap64 ((wrap64 (a1 + bt300.2)) + (wrap64 ((Go.bits .and .i64 (wrap64 ((fbits bt300.1) / 4503599627370496)) 2047) - 1023)))) < (-1075) then ((math_Copysign.f 0 bt300.1).bind fun t302 => (some t302)) else (if (wrap64 ((wrap64 (a1 + bt300.2)) + (wrap64 ((Go.bits .and .i64 (wrap64 ((fbits bt300.1) / 4503599627370496)) 2047) - 1023)))) > 1023 then (if (FloatKind.f64.format.order bt300.1 0 == some .lt) = true then ((math_Inf.f (-1)).bind fun t303 => (some t303)) else ((math_Inf.f 1).bind fun t304 => (some t304))) else (if (wrap64 ((wrap64 (a1 + bt300.2)) + (wrap64 ((Go.bits .and .i64 (wrap64 ((fbits bt300.1) / 4503599627370496)) 2047) - 1023)))) < (-1022) then ((floatBits .mul .f64 4368491638549381120 (fof (Go.bits .or .u64 (Go.bits .andNot .u64 (fbits bt300.1) 9218868437227405312) (IntKind.u64.wrap ((IntKind.u64.wrap (wrap64 ((wrap64 ((wrap64 ((wrap64 (a1 + bt300.2)) + (wrap64 ((Go.bits .and .i64 (wrap64 ((fbits bt300.1) / 4503599627370496)) 2047) - 1023)))) + 53)) + 1023))) * 4503599627370496))))).bind fun t305 => (some t305)) else ((floatBits .mul .f64 4607182418800017408 (fof (Go.bits .or .u64 (Go.bits .andNot .u64 (fbits bt300.1) 9218868437227405312) (IntKind.u64.wrap ((IntKind.u64.wrap (wrap64 ((wrap64 ((wrap64 (a1 + bt300.2)) + (wrap64 ((Go.bits .and .i64 (wrap64 ((fbits bt300.1) / 4503599627370496)) 2047) - 1023)))) + 1023))) * 4503599627370496))))).bind fun t306 => (some t306))))))) = some r := H
   have A6 := Aside0.mk A60
   clear A60
   by_cases c7 : t299 = true
   ·subst c7
    have H1 : (some a0) = some r := by rw [if_pos rfl] at H; exact H
    clear H
    have H := H1
    clear H1
    obtain rfl := Option.some.inj H
    go_enter Tryz.func133, Tryz.ntmps133
    go_wp2_with (first | ((with_reducible refine gate_callee (f := 148) rfl ?_); refine goesL_ (some 14) rfl rfl Tryz.func148 (by kernel_rfl) rfl #[.float .f64 a0, .int .i64 0] rfl (by (try simp only [List.map_toArray, List.map_cons, List.map_nil]); first | done | rfl | (simp only [List.length_drop, List.length_take]; rfl)) ?_; (with_reducible refine (math_IsInf.calls a0 0 false _ A4.out).mono ?_); rintro e w' ⟨rfl, ⟨nd, rfl⟩⟩; refine ⟨_, rfl, ?_⟩) | (go_at_call 62; (with_reducible refine (math_IsNaN.calls a0 true _ A6.out).mono ?_); rintro e w' ⟨rfl, ⟨nd, rfl⟩⟩))
    go_ret
    exact ⟨by first | rfl | (simp; done) | (simp [*]; done), by repeat (first | exact Drawn0.refl _ | apply Drawn0.step)⟩
   ·replace c7 := Bool.eq_false_iff.mpr c7
    subst c7
    have H1 : ((math_normalize.f a0).bind fun bt300 => (if (wrap64 ((wrap64 (a1 + bt300.2)) + (wrap64 ((Go.bits .and .i64 (wrap64 ((fbits bt300.1) / 4503599627370496)) 2047) - 1023)))) < (-1075) then ((math_Copysign.f 0 bt300.1).bind fun t302 => (some t302)) else (if (wrap64 ((wrap64 (a1 + bt300.2)) + (wrap64 ((Go.bits .and .i64 (wrap64 ((fbits bt300.1) / 4503599627370496)) 2047) - 1023)))) > 1023 then (if (FloatKind.f64.format.order bt300.1 0 == some .lt) = true then ((math_Inf.f (-1)).bind fun t303 => (some t303)) else ((math_Inf.f 1).bind fun t304 => (some t304))) else (if (wrap64 ((wrap64 (a1 + bt300.2)) + (wrap64 ((Go.bits .and .i64 (wrap64 ((fbits bt300.1) / 4503599627370496)) 2047) - 1023)))) < (-1022) then ((floatBits .mul .f64 4368491638549381120 (fof (Go.bits .or .u64 (Go.bits .andNot .u64 (fbits bt300.1) 9218868437227405312) (IntKind.u64.wrap ((IntKind.u64.wrap (wrap64 ((wrap64 ((wrap64 ((wrap64 (a1 + bt300.2)) + (wrap64 ((Go.bits .and .i64 (wrap64 ((fbits bt300.1) / 4503599627370496)) 2047) - 1023)))) + 53)) + 1023))) * 4503599627370496))))).bind fun t305 => (some t305)) else ((floatBits .mul .f64 4607182418800017408 (fof (Go.bits .or .u64 (Go.bits .andNot .u64 (fbits bt300.1) 9218868437227405312) (IntKind.u64.wrap ((IntKind.u64.wrap (wrap64 ((wrap64 ((wrap64 (a1 + bt300.2)) + (wrap64 ((Go.bits .and .i64 (wrap64 ((fbits bt300.1) / 4503599627370496)) 2047) - 1023)))) + 1023))) * 4503599627370496))))).bind fun t306 => (some t306)))))) = some r := by rw [if_neg (show ¬ (false = true) by decide)] at H; exact H
    clear H
    have H := H1
    clear H1
    replace H := Option.bind_eq_some_iff.mp H
    obtain ⟨⟨t300, t301⟩, A80, H⟩ := H
    replace H : (if (wrap64 ((wrap64 (a1 + t301)) + (wrap64 ((Go.bits .and .i64 (wrap64 ((fbits t300) / 4503599627370496)) 2047) - 1023)))) < (-1075) then ((math_Copysign.f 0 t300).bind fun t302 => (some t302)) else (if (wrap64 ((wrap64 (a1 + t301)) + (wrap64 ((Go.bits .and .i64 (wrap64 ((fbits t300) / 4503599627370496)) 2047) - 1023)))) > 1023 then (if (FloatKind.f64.format.order t300 0 == some .lt) = true then ((math_Inf.f (-1)).bind fun t303 => (some t303)) else ((math_Inf.f 1).bind fun t304 => (some t304))) else (if (wrap64 ((wrap64 (a1 + t301)) + (wrap64 ((Go.bits .and .i64 (wrap64 ((fbits t300) / 4503599627370496)) 2047) - 1023)))) < (-1022) then ((floatBits .mul .f64 4368491638549381120 (fof (Go.bits .or .u64 (Go.bits .andNot .u64 (fbits t300) 9218868437227405312) (IntKind.u64.wrap ((IntKind.u64.wrap (wrap64 ((wrap64 ((wrap64 ((wrap64 (a1 + t301)) + (wrap64 ((Go.bits .and .i64 (wrap64 ((fbits t300) / 4503599627370496)) 2047) - 1023)))) + 53)) + 1023))) * 4503599627370496))))).bind fun t305 => (some t305)) else ((floatBits .mul .f64 4607182418800017408 (fof (Go.bits .or .u64 (Go.bits .andNot .u64 (fbits t300) 9218868437227405312) (IntKind.u64.wrap ((IntKind.u64.wrap (wrap64 ((wrap64 ((wrap64 (a1 + t301)) + (wrap64 ((Go.bits .and .i64 (wrap64 ((fbits t300) / 4503599627370496)) 2047) - 1023)))) + 1023))) * 4503599627370496))))).bind fun t306 => (some t306))))) = some r := H
    have A8 := Aside0.mk A80
    clear A80
    by_cases c9 : (wrap64 ((wrap64 (a1 + t301)) + (wrap64 ((Go.bits .and .i64 (wrap64 ((fbits t300) / 4503599627370496)) 2047) - 1023)))) < (-1075)
    ·rw [if_pos c9] at H
     have c9b0 : decide ((wrap64 ((wrap64 (a1 + t301)) + (wrap64 ((Go.bits .and .i64 (wrap64 ((fbits t300) / 4503599627370496)) 2047) - 1023)))) < (-1075)) = true := decide_eq_true c9
     clear c9
     replace H := Option.bind_eq_some_iff.mp H
     obtain ⟨t302, A100, H⟩ := H
     replace H : (some t302) = some r := H
     have A10 := Aside0.mk A100
     clear A100
     obtain rfl := Option.some.inj H
     go_enter Tryz.func133, Tryz.ntmps133
     go_wp2_with (first | ((with_reducible refine gate_callee (f := 148) rfl ?_); refine goesL_ (some 14) rfl rfl Tryz.func148 (by kernel_rfl) rfl #[.float .f64 a0, .int .i64 0] rfl (by (try simp only [List.map_toArray, List.map_cons, List.map_nil]); first | done | rfl | (simp only [List.length_drop, List.length_take]; rfl)) ?_; (with_reducible refine (math_IsInf.calls a0 0 false _ A4.out).mono ?_); rintro e w' ⟨rfl, ⟨nd, rfl⟩⟩; refine ⟨_, rfl, ?_⟩) | (go_at_call 62; (with_reducible refine (math_IsNaN.calls a0 false _ A6.out).mono ?_); rintro e w' ⟨rfl, ⟨nd, rfl⟩⟩) | ((with_reducible refine gate_callee (f := 149) rfl ?_); refine goesL_ (some 22) rfl rfl Tryz.func149 (by kernel_rfl) rfl #[.float .f64 a0] rfl (by (try simp only [List.map_toArray, List.map_cons, List.map_nil]); first | done | rfl | (simp only [List.length_drop, List.length_take]; rfl)) ?_; (with_reducible refine (math_normalize.calls a0 t300 t301 _ A8.out).mono ?_); rintro e w' ⟨rfl, ⟨nd, rfl⟩⟩; refine ⟨_, rfl, ?_⟩) | ((with_reducible refine gate_callee (f := 27) rfl ?_); refine goesL_ (some 40) rfl rfl Tryz.func27 (by kernel_rfl) rfl #[.float .f64 0, .float .f64 t300] rfl (by (try simp only [List.map_toArray, List.map_cons, List.map_nil]); first | done | rfl | (simp only [List.length_drop, List.length_take]; rfl)) ?_; (with_reducible refine (math_Copysign.calls 0 t300 t302 _ A10.out).mono ?_); rintro e w' ⟨rfl, ⟨nd, rfl⟩⟩; refine ⟨_, rfl, ?_⟩))
     go_ret
     exact ⟨by first | rfl | (simp; done) | (simp [*]; done), by repeat (first | exact Drawn0.refl _ | apply Drawn0.step)⟩
    ·rw [if_neg c9] at H
     have c9b0 : decide ((wrap64 ((wrap64 (a1 + t301)) + (wrap64 ((Go.bits .and .i64 (wrap64 ((fbits t300) / 4503599627370496)) 2047) - 1023)))) < (-1075)) = false := decide_eq_false c9
     clear c9
     by_cases c11 : (wrap64 ((wrap64 (a1 + t301)) + (wrap64 ((Go.bits .and .i64 (wrap64 ((fbits t300) / 4503599627370496)) 2047) - 1023)))) > 1023
     ·rw [if_pos c11] at H
      have c11b0 : decide (1023 < (wrap64 ((wrap64 (a1 + t301)) + (wrap64 ((Go.bits .and .i64 (wrap64 ((fbits t300) / 4503599627370496)) 2047) - 1023))))) = true := decide_eq_true c11
      clear c11
      by_cases c12 : (FloatKind.f64.format.order t300 0 == some .lt) = true
      ·rw [if_pos c12] at H
       have c12b0 : (FloatKind.f64.format.order t300 0 == some .lt) = true := c12
       (try (have c12b1 : decide (FloatKind.f64.format.order t300 0 = some .lt) = true := by simpa using c12))
       (try (have c12b2 : (FloatKind.f64.format.order t300 0 == some .lt) = true := by simpa using c12))
       clear c12
       replace H := Option.bind_eq_some_iff.mp H
       obtain ⟨t303, A130, H⟩ := H
       replace H : (some t303) = some r := H
       have A13 := Aside0.mk A130
       clear A130
       obtain rfl := Option.some.inj H
       go_enter Tryz.func133, Tryz.ntmps133
       go_wp2_with (first | ((with_reducible refine gate_callee (f := 148) rfl ?_); refine goesL_ (some 14) rfl rfl Tryz.func148 (by kernel_rfl) rfl #[.float .f64 a0, .int .i64 0] rfl (by (try simp only [List.map_toArray, List.map_cons, List.map_nil]); first | done | rfl | (simp only [List.length_drop, List.length_take]; rfl)) ?_; (with_reducible refine (math_IsInf.calls a0 0 false _ A4.out).mono ?_); rintro e w' ⟨rfl, ⟨nd, rfl⟩⟩; refine ⟨_, rfl, ?_⟩) | (go_at_call 62; (with_reducible refine (math_IsNaN.calls a0 false _ A6.out).mono ?_); rintro e w' ⟨rfl, ⟨nd, rfl⟩⟩) | ((with_reducible refine gate_callee (f := 149) rfl ?_); refine goesL_ (some 22) rfl rfl Tryz.func149 (by kernel_rfl) rfl #[.float .f64 a0] rfl (by (try simp only [List.map_toArray, List.map_cons, List.map_nil]); first | done | rfl | (simp only [List.length_drop, List.length_take]; rfl)) ?_; (with_reducible refine (math_normalize.calls a0 t300 t301 _ A8.out).mono ?_); rintro e w' ⟨rfl, ⟨nd, rfl⟩⟩; refine ⟨_, rfl, ?_⟩) | ((with_reducible refine gate_callee (f := 30) rfl ?_); refine goesL_ (some 45) rfl rfl Tryz.func30 (by kernel_rfl) rfl #[.int .i64 (-1)] rfl (by (try simp only [List.map_toArray, List.map_cons, List.map_nil]); first | done | rfl | (simp only [List.length_drop, List.length_take]; rfl)) ?_; (with_reducible refine (math_Inf.calls (-1) t303 _ A13.out).mono ?_); rintro e w' ⟨rfl, ⟨nd, rfl⟩⟩; refine ⟨_, rfl, ?_⟩))
       go_ret
       exact ⟨by first | rfl | (simp; done) | (simp [*]; done), by repeat (first | exact Drawn0.refl _ | apply Drawn0.step)⟩
      ·rw [if_neg c12] at H
       have c12b0 : (FloatKind.f64.format.order t300 0 == some .lt) = false := by simpa using c12
       (try (have c12b1 : decide (FloatKind.f64.format.order t300 0 = some .lt) = false := by simpa using c12))
       (try (have c12b2 : (FloatKind.f64.format.order t300 0 == some .lt) = false := by simpa using c12))
       (try (have c12b3 : ¬ (FloatKind.f64.format.order t300 0 = some .lt) := by simpa using c12))
       clear c12
       replace H := Option.bind_eq_some_iff.mp H
       obtain ⟨t304, A140, H⟩ := H
       replace H : (some t304) = some r := H
       have A14 := Aside0.mk A140
       clear A140
       obtain rfl := Option.some.inj H
       go_enter Tryz.func133, Tryz.ntmps133
       go_wp2_with (first | ((with_reducible refine gate_callee (f := 148) rfl ?_); refine goesL_ (some 14) rfl rfl Tryz.func148 (by kernel_rfl) rfl #[.float .f64 a0, .int .i64 0] rfl (by (try simp only [List.map_toArray, List.map_cons, List.map_nil]); first | done | rfl | (simp only [List.length_drop, List.length_take]; rfl)) ?_; (with_reducible refine (math_IsInf.calls a0 0 false _ A4.out).mono ?_); rintro e w' ⟨rfl, ⟨nd, rfl⟩⟩; refine ⟨_, rfl, ?_⟩) | (go_at_call 62; (with_reducible refine (math_IsNaN.calls a0 false _ A6.out).mono ?_); rintro e w' ⟨rfl, ⟨nd, rfl⟩⟩) | ((with_reducible refine gate_callee (f := 149) rfl ?_); refine goesL_ (some 22) rfl rfl Tryz.func149 (by kernel_rfl) rfl #[.float .f64 a0] rfl (by (try simp only [List.map_toArray, List.map_cons, List.map_nil]); first | done | rfl | (simp only [List.length_drop, List.length_take]; rfl)) ?_; (with_reducible refine (math_normalize.calls a0 t300 t301 _ A8.out).mono ?_); rintro e w' ⟨rfl, ⟨nd, rfl⟩⟩; refine ⟨_, rfl, ?_⟩) | ((with_reducible refine gate_callee (f := 30) rfl ?_); refine goesL_ (some 46) rfl rfl Tryz.func30 (by kernel_rfl) rfl #[.int .i64 1] rfl (by (try simp only [List.map_toArray, List.map_cons, List.map_nil]); first | done | rfl | (simp only [List.length_drop, List.length_take]; rfl)) ?_; (with_reducible refine (math_Inf.calls 1 t304 _ A14.out).mono ?_); rintro e w' ⟨rfl, ⟨nd, rfl⟩⟩; refine ⟨_, rfl, ?_⟩))
       go_ret
       exact ⟨by first | rfl | (simp; done) | (simp [*]; done), by repeat (first | exact Drawn0.refl _ | apply Drawn0.step)⟩
     ·rw [if_neg c11] at H
      have c11b0 : decide (1023 < (wrap64 ((wrap64 (a1 + t301)) + (wrap64 ((Go.bits .and .i64 (wrap64 ((fbits t300) / 4503599627370496)) 2047) - 1023))))) = false := decide_eq_false c11
      clear c11
      by_cases c15 : (wrap64 ((wrap64 (a1 + t301)) + (wrap64 ((Go.bits .and .i64 (wrap64 ((fbits t300) / 4503599627370496)) 2047) - 1023)))) < (-1022)
      ·rw [if_pos c15] at H
       have c15b0 : decide ((wrap64 ((wrap64 (a1 + t301)) + (wrap64 ((Go.bits .and .i64 (wrap64 ((fbits t300) / 4503599627370496)) 2047) - 1023)))) < (-1022)) = true := decide_eq_true c15
       clear c15
       replace H := Option.bind_eq_some_iff.mp H
       obtain ⟨t305, hfop_, H⟩ := H
       replace H : (some t305) = some r := H
       have hfw16 := fun w_ => run_float_arith (P := Tryz.prog) w_ .mul 30 .f64 4368491638549381120 (fof (Go.bits .or .u64 (Go.bits .andNot .u64 (fbits t300) 9218868437227405312) (IntKind.u64.wrap ((IntKind.u64.wrap (wrap64 ((wrap64 ((wrap64 ((wrap64 (a1 + t301)) + (wrap64 ((Go.bits .and .i64 (wrap64 ((fbits t300) / 4503599627370496)) 2047) - 1023)))) + 53)) + 1023))) * 4503599627370496)))) t305 hfop_
       clear hfop_
       obtain rfl := Option.some.inj H
       go_enter Tryz.func133, Tryz.ntmps133
       go_wp2_with (first | ((with_reducible refine gate_callee (f := 148) rfl ?_); refine goesL_ (some 14) rfl rfl Tryz.func148 (by kernel_rfl) rfl #[.float .f64 a0, .int .i64 0] rfl (by (try simp only [List.map_toArray, List.map_cons, List.map_nil]); first | done | rfl | (simp only [List.length_drop, List.length_take]; rfl)) ?_; (with_reducible refine (math_IsInf.calls a0 0 false _ A4.out).mono ?_); rintro e w' ⟨rfl, ⟨nd, rfl⟩⟩; refine ⟨_, rfl, ?_⟩) | (go_at_call 62; (with_reducible refine (math_IsNaN.calls a0 false _ A6.out).mono ?_); rintro e w' ⟨rfl, ⟨nd, rfl⟩⟩) | ((with_reducible refine gate_callee (f := 149) rfl ?_); refine goesL_ (some 22) rfl rfl Tryz.func149 (by kernel_rfl) rfl #[.float .f64 a0] rfl (by (try simp only [List.map_toArray, List.map_cons, List.map_nil]); first | done | rfl | (simp only [List.length_drop, List.length_take]; rfl)) ?_; (with_reducible refine (math_normalize.calls a0 t300 t301 _ A8.out).mono ?_); rintro e w' ⟨rfl, ⟨nd, rfl⟩⟩; refine ⟨_, rfl, ?_⟩))
       go_ret
       exact ⟨by first | rfl | (simp; done) | (simp [*]; done), by repeat (first | exact Drawn0.refl _ | apply Drawn0.step)⟩
      ·rw [if_neg c15] at H
       have c15b0 : decide ((wrap64 ((wrap64 (a1 + t301)) + (wrap64 ((Go.bits .and .i64 (wrap64 ((fbits t300) / 4503599627370496)) 2047) - 1023)))) < (-1022)) = false := decide_eq_false c15
       clear c15
       replace H := Option.bind_eq_some_iff.mp H
       obtain ⟨t306, hfop_, H⟩ := H
       replace H : (some t306) = some r := H
       have hfw17 := fun w_ => run_float_arith (P := Tryz.prog) w_ .mul 30 .f64 4607182418800017408 (fof (Go.bits .or .u64 (Go.bits .andNot .u64 (fbits t300) 9218868437227405312) (IntKind.u64.wrap ((IntKind.u64.wrap (wrap64 ((wrap64 ((wrap64 (a1 + t301)) + (wrap64 ((Go.bits .and .i64 (wrap64 ((fbits t300) / 4503599627370496)) 2047) - 1023)))) + 1023))) * 4503599627370496)))) t306 hfop_
       clear hfop_
       obtain rfl := Option.some.inj H
       go_enter Tryz.func133, Tryz.ntmps133
       go_wp2_with (first | ((with_reducible refine gate_callee (f := 148) rfl ?_); refine goesL_ (some 14) rfl rfl Tryz.func148 (by kernel_rfl) rfl #[.float .f64 a0, .int .i64 0] rfl (by (try simp only [List.map_toArray, List.map_cons, List.map_nil]); first | done | rfl | (simp only [List.length_drop, List.length_take]; rfl)) ?_; (with_reducible refine (math_IsInf.calls a0 0 false _ A4.out).mono ?_); rintro e w' ⟨rfl, ⟨nd, rfl⟩⟩; refine ⟨_, rfl, ?_⟩) | (go_at_call 62; (with_reducible refine (math_IsNaN.calls a0 false _ A6.out).mono ?_); rintro e w' ⟨rfl, ⟨nd, rfl⟩⟩) | ((with_reducible refine gate_callee (f := 149) rfl ?_); refine goesL_ (some 22) rfl rfl Tryz.func149 (by kernel_rfl) rfl #[.float .f64 a0] rfl (by (try simp only [List.map_toArray, List.map_cons, List.map_nil]); first | done | rfl | (simp only [List.length_drop, List.length_take]; rfl)) ?_; (with_reducible refine (math_normalize.calls a0 t300 t301 _ A8.out).mono ?_); rintro e w' ⟨rfl, ⟨nd, rfl⟩⟩; refine ⟨_, rfl, ?_⟩))
       go_ret
       exact ⟨by first | rfl | (simp; done) | (simp [*]; done), by repeat (first | exact Drawn0.refl _ | apply Drawn0.step)⟩
def math_Ldexp.f (a0 : Nat) (a1 : Int) : Option (Nat) := (math_ldexp.f a0 a1).bind fun t307 => (some t307)
set_option maxHeartbeats 8000000 in
set_option maxRecDepth 100000 in
theorem math_Ldexp.calls (a0 : Nat) (a1 : Int) (r : Nat) (w : World) (h : math_Ldexp.f a0 a1 = some r) :
 Calls Tryz.prog 112 #[.float .f64 a0, .int .i64 a1] w fun e w' => e = .returned (.float .f64 r) ∧ Drawn0 w w' := by
 have H : ((math_ldexp.f a0 a1).bind fun t307 => (some t307)) = some r := h
 clear h
 replace H := Option.bind_eq_some_iff.mp H
 obtain ⟨t307, A30, H⟩ := H
 replace H : (some t307) = some r := H
 have A3 := Aside0.mk A30
 clear A30
 obtain rfl := Option.some.inj H
 go_enter Tryz.func112, Tryz.ntmps112
 go_wp2_with (first | ((with_reducible refine gate_callee (f := 133) rfl ?_); refine goesL_ (some 10) rfl rfl Tryz.func133 (by kernel_rfl) rfl #[.float .f64 a0, .int .i64 a1] rfl (by (try simp only [List.map_toArray, List.map_cons, List.map_nil]); first | done | rfl | (simp only [List.length_drop, List.length_take]; rfl)) ?_; (with_reducible refine (math_ldexp.calls a0 a1 t307 _ A3.out).mono ?_); rintro e w' ⟨rfl, ⟨nd, rfl⟩⟩; refine ⟨_, rfl, ?_⟩))
 go_ret
 exact ⟨by first | rfl | (simp; done) | (simp [*]; done), by repeat (first | exact Drawn0.refl _ | apply Drawn0.step)⟩
end Go.Proofs.YtioahkblhekgpaaGreatDoor.R
