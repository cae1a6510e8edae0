/- What the proof needs of R7: only what is used is left (wip/tools/prune.py). Conditions stand in each sentence. -/
import Derived.Test.YtjiolfpahollkaaGreatDoorQNWFootNe
import Derived.Test.YtjiolfpahollkaaGreatDoorQNR6
set_option linter.unusedVariables false
set_option linter.unusedSimpArgs false
namespace Go.Proofs.YtjiolfpahollkaaGreatDoorW.PrintLast
end Go.Proofs.YtjiolfpahollkaaGreatDoorW.PrintLast
namespace Go.Proofs.YtjiolfpahollkaaGreatDoorW.PrintMore
end Go.Proofs.YtjiolfpahollkaaGreatDoorW.PrintMore
namespace Go.Proofs.YtjiolfpahollkaaGreatDoorW.PrintWords
end Go.Proofs.YtjiolfpahollkaaGreatDoorW.PrintWords
namespace Go.Proofs.YtjiolfpahollkaaGreatDoor.R
open Go.RowKit Go.Proofs.YtjiolfpahollkaaGreatDoorW.PrintWords Go.Proofs.YtjiolfpahollkaaGreatDoorW.PrintLast Go.Proofs.YtjiolfpahollkaaGreatDoorW.PrintMore
set_option linter.unusedVariables false
set_option linter.unusedSimpArgs false
set_option maxHeartbeats 8000000 in
set_option maxRecDepth 100000 in
def math_Copysign.f (a0 : Nat) (a1 : Nat) : Option (Nat) := some (fof (Go.bits .or .u64 (Go.bits .andNot .u64 (fbits a0) 9223372036854775808) (Go.bits .and .u64 (fbits a1) 9223372036854775808)))
set_option maxHeartbeats 8000000 in
set_option maxRecDepth 100000 in
theorem math_Copysign.calls (a0 : Nat) (a1 : Nat) (r : Nat) (w : World) (h : math_Copysign.f a0 a1 = some r) :
    Calls Tryz.prog 281 #[.float .f64 a0, .float .f64 a1] w fun e w' => e = .returned (.float .f64 r) ∧ Drawn0 w w' := by
  have H : (some (fof (Go.bits .or .u64 (Go.bits .andNot .u64 (fbits a0) 9223372036854775808) (Go.bits .and .u64 (fbits a1) 9223372036854775808)))) = some r := h
  clear h
  obtain rfl := Option.some.inj H
  go_enter Tryz.func281, Tryz.ntmps281
  go_wp2
  go_ret
  exact ⟨by first | rfl | (simp; done) | (simp [*]; done), by repeat (first | exact Drawn0.refl _ | apply Drawn0.step)⟩
set_option maxHeartbeats 8000000 in
set_option maxRecDepth 100000 in
def math_Trunc.f (a0 : Nat) : Option (Nat) := (ftrunc a0).bind fun t273 => (some t273)
set_option maxHeartbeats 8000000 in
set_option maxRecDepth 100000 in
theorem math_Trunc.calls (a0 : Nat) (r : Nat) (w : World) (h : math_Trunc.f a0 = some r) :
    Calls Tryz.prog 207 #[.float .f64 a0] w fun e w' => e = .returned (.float .f64 r) ∧ Drawn0 w w' := by
  have H : ((ftrunc a0).bind fun t273 => (some t273)) = some r := h
  clear h
  replace H := Option.bind_eq_some_iff.mp H
  obtain ⟨t273, hfop_, H⟩ := H
  replace H : (some t273) = some r := H
  have hfw2 := fun w_ => call_ftrunc a0 t273 w_ hfop_
  clear hfop_
  obtain rfl := Option.some.inj H
  go_enter Tryz.func207, Tryz.ntmps207
  go_wp2
  go_ret
  exact ⟨by first | rfl | (simp; done) | (simp [*]; done), by repeat (first | exact Drawn0.refl _ | apply Drawn0.step)⟩
def admit_coordinate.f (a0 : Nat) : Option (Bool) := (math_Abs.f a0).bind fun t274 => (if ((FloatKind.f64.format.order t274 5057542381537067008 == some .lt || FloatKind.f64.format.order t274 5057542381537067008 == some .eq) = true) then ((floatBits .mul .f64 a0 5057542381537067008).bind fun t275 => ((math_Trunc.f t275).bind fun t276 => (some (FloatKind.f64.format.order t275 t276 == some .eq)))) else (some false))
set_option maxHeartbeats 8000000 in
set_option maxRecDepth 100000 in
theorem admit_coordinate.calls (a0 : Nat) (r : Bool) (w : World) (h : admit_coordinate.f a0 = some r) :
    Calls Tryz.prog 172 #[.float .f64 a0] w fun e w' => e = .returned (.bool r) ∧ Drawn0 w w' := by
  have H : ((math_Abs.f a0).bind fun t274 => (if ((FloatKind.f64.format.order t274 5057542381537067008 == some .lt || FloatKind.f64.format.order t274 5057542381537067008 == some .eq) = true) then ((floatBits .mul .f64 a0 5057542381537067008).bind fun t275 => ((math_Trunc.f t275).bind fun t276 => (some (FloatKind.f64.format.order t275 t276 == some .eq)))) else (some false))) = some r := h
  clear h
  replace H := Option.bind_eq_some_iff.mp H
  obtain ⟨t274, A20, H⟩ := H
  replace H : (if ((FloatKind.f64.format.order t274 5057542381537067008 == some .lt || FloatKind.f64.format.order t274 5057542381537067008 == some .eq) = true) then ((floatBits .mul .f64 a0 5057542381537067008).bind fun t275 => ((math_Trunc.f t275).bind fun t276 => (some (FloatKind.f64.format.order t275 t276 == some .eq)))) else (some false)) = some r := H
  have A2 := Aside0.mk A20
  clear A20
  by_cases c3 : ((FloatKind.f64.format.order t274 5057542381537067008 == some .lt || FloatKind.f64.format.order t274 5057542381537067008 == some .eq) = true)
  · rw [if_pos c3] at H
    have c3b0 : (FloatKind.f64.format.order t274 5057542381537067008 == some .lt || FloatKind.f64.format.order t274 5057542381537067008 == some .eq) = true := c3
    (try (have c3b1 : decide (FloatKind.f64.format.order t274 5057542381537067008 = some .lt || FloatKind.f64.format.order t274 5057542381537067008 == some .eq) = true := by simpa using c3))
    (try (have c3b2 : (FloatKind.f64.format.order t274 5057542381537067008 == some .lt || FloatKind.f64.format.order t274 5057542381537067008 == some .eq) = true := by simpa using c3))
    clear c3
    replace H := Option.bind_eq_some_iff.mp H
    obtain ⟨t275, hfop_, H⟩ := H
    replace H : ((math_Trunc.f t275).bind fun t276 => (some (FloatKind.f64.format.order t275 t276 == some .eq))) = some r := H
    have hfw4 := fun w_ => run_float_arith (P := Tryz.prog) w_ .mul 66 .f64 a0 5057542381537067008 t275 hfop_
    clear hfop_
    replace H := Option.bind_eq_some_iff.mp H
    obtain ⟨t276, A50, H⟩ := H
    replace H : (some (FloatKind.f64.format.order t275 t276 == some .eq)) = some r := H
    have A5 := Aside0.mk A50
    clear A50
    obtain rfl := Option.some.inj H
    go_enter Tryz.func172, Tryz.ntmps172
    go_wp2_with (first | ((with_reducible refine gate_callee (f := 199) rfl ?_); refine goesL_ (some 5) rfl rfl Tryz.func199 (by kernel_rfl) rfl #[.float .f64 a0] rfl (by (try simp only [List.map_toArray, List.map_cons, List.map_nil]); first | done | rfl | (simp only [List.length_drop, List.length_take]; rfl)) ?_; (with_reducible refine (math_Abs.calls a0 t274 _ A2.out).mono ?_); rintro e w' ⟨rfl, ⟨nd, rfl⟩⟩; refine ⟨_, rfl, ?_⟩) | ((with_reducible refine gate_callee (f := 207) rfl ?_); refine goesL_ (some 12) rfl rfl Tryz.func207 (by kernel_rfl) rfl #[.float .f64 t275] rfl (by (try simp only [List.map_toArray, List.map_cons, List.map_nil]); first | done | rfl | (simp only [List.length_drop, List.length_take]; rfl)) ?_; (with_reducible refine (math_Trunc.calls t275 t276 _ A5.out).mono ?_); rintro e w' ⟨rfl, ⟨nd, rfl⟩⟩; refine ⟨_, rfl, ?_⟩))
    go_ret
    exact ⟨by first | rfl | (simp; done) | (simp [*]; done), by repeat (first | exact Drawn0.refl _ | apply Drawn0.step)⟩
  · rw [if_neg c3] at H
    have c3b0 : (FloatKind.f64.format.order t274 5057542381537067008 == some .lt || FloatKind.f64.format.order t274 5057542381537067008 == some .eq) = false := by simpa using c3
    (try (have c3b1 : decide (FloatKind.f64.format.order t274 5057542381537067008 = some .lt || FloatKind.f64.format.order t274 5057542381537067008 == some .eq) = false := by simpa using c3))
    (try (have c3b2 : (FloatKind.f64.format.order t274 5057542381537067008 == some .lt || FloatKind.f64.format.order t274 5057542381537067008 == some .eq) = false := by simpa using c3))
    (try (have c3b3 : ¬ (FloatKind.f64.format.order t274 5057542381537067008 = some .lt || FloatKind.f64.format.order t274 5057542381537067008 == some .eq) := by simpa using c3))
    clear c3
    obtain rfl := Option.some.inj H
    go_enter Tryz.func172, Tryz.ntmps172
    go_wp2_with (first | ((with_reducible refine gate_callee (f := 199) rfl ?_); refine goesL_ (some 5) rfl rfl Tryz.func199 (by kernel_rfl) rfl #[.float .f64 a0] rfl (by (try simp only [List.map_toArray, List.map_cons, List.map_nil]); first | done | rfl | (simp only [List.length_drop, List.length_take]; rfl)) ?_; (with_reducible refine (math_Abs.calls a0 t274 _ A2.out).mono ?_); rintro e w' ⟨rfl, ⟨nd, rfl⟩⟩; refine ⟨_, rfl, ?_⟩))
    go_ret
    exact ⟨by first | rfl | (simp; done) | (simp [*]; done), by repeat (first | exact Drawn0.refl _ | apply Drawn0.step)⟩
def admit_May.f (a0_0 : Nat) (a0_1 : Nat) : Option (Bool) := (admit_coordinate.f a0_0).bind fun t278 => (if t278 = true then ((admit_coordinate.f a0_1).bind fun t279 => (some t279)) else (some false))
set_option maxHeartbeats 8000000 in
set_option maxRecDepth 100000 in
theorem admit_May.calls (a0_0 : Nat) (a0_1 : Nat) (r : Bool) (w : World) (h : admit_May.f a0_0 a0_1 = some r) :
    Calls Tryz.prog 124 #[.agg #[.float .f64 a0_0, .float .f64 a0_1]] w fun e w' => e = .returned (.bool r) ∧ Below w.heap.size w w' := by
  have hu68 := Tryz.underlying68
  have HB := Aside0.mk (Below.refl w.heap.size w)
  have H : ((admit_coordinate.f a0_0).bind fun t278 => (if t278 = true then ((admit_coordinate.f a0_1).bind fun t279 => (some t279)) else (some false))) = some r := h
  clear h
  replace H := Option.bind_eq_some_iff.mp H
  obtain ⟨t278, A20, H⟩ := H
  replace H : (if t278 = true then ((admit_coordinate.f a0_1).bind fun t279 => (some t279)) else (some false)) = some r := H
  have A2 := Aside0.mk A20
  clear A20
  by_cases c3 : t278 = true
  · subst c3
    have H1 : ((admit_coordinate.f a0_1).bind fun t279 => (some t279)) = some r := by rw [if_pos rfl] at H; exact H
    clear H
    have H := H1
    clear H1
    replace H := Option.bind_eq_some_iff.mp H
    obtain ⟨t279, A40, H⟩ := H
    replace H : (some t279) = some r := H
    have A4 := Aside0.mk A40
    clear A40
    obtain rfl := Option.some.inj H
    go_enter Tryz.func124, Tryz.ntmps124
    go_wp2_with (first | ((with_reducible refine gate_dst (N := 1) rfl ?_); refine box_event ?hg (N := 1) ?hd (cs := #[.float .f64 a0_0, .float .f64 a0_1]) (t := 68) ?hr ?_; (case hd => rfl); (case hg => rfl); (case hr => first | (go_simp; done) | (go_simp; rfl)); intro gb277 hg w5 hbox hb; have n0_ := Aside0.mk (below_step (by repeat (first | (with_reducible first | exact HB.out | apply below_alloc | apply pw_below_drewN | apply below_drew1) | exact HB.out)) hb); have n1_ := Aside0.mk (hbox); have n2_ := Aside0.mk ((by rw [hg]; exact (below_size (by repeat (first | (with_reducible first | exact HB.out | apply below_alloc | apply pw_below_drewN | apply below_drew1) | exact HB.out))) : w.heap.size ≤ gb277)); have n3_ := Aside0.mk ((by rw [hg]; exact (below_size (by repeat (first | (with_reducible first | exact HB.out | apply below_alloc | apply pw_below_drewN | apply below_drew1) | exact HB.out))) : w.heap.size ≤ gb277)); clear HB; have HB := n0_; have BK277 := n1_; have GW277 := n2_; have GE277 := n3_; clear n0_ n1_ n2_ n3_; clear hb hbox hg; have hcz6_0 : w5.cell? ⟨gb277, 0, none⟩ = some (.float .f64 a0_0) := (blk_cell BK277.out 0).trans rfl; have hcz6_1 : w5.cell? ⟨gb277, 1, none⟩ = some (.float .f64 a0_1) := (blk_cell BK277.out 1).trans rfl; have hfz6_0 := blk_frozen BK277.out 0; have hfz6_1 := blk_frozen BK277.out 1) | ((with_reducible refine gate_callee (f := 172) rfl ?_); refine goesL_ (some 5) rfl rfl Tryz.func172 (by kernel_rfl) rfl #[.float .f64 a0_0] rfl (by (try simp only [List.map_toArray, List.map_cons, List.map_nil]); first | done | rfl | (simp only [List.length_drop, List.length_take]; rfl)) ?_; (with_reducible refine (admit_coordinate.calls a0_0 true _ A2.out).mono ?_); rintro e w' ⟨rfl, ⟨nd, rfl⟩⟩; refine ⟨_, rfl, ?_⟩) | (go_at_call 172; (with_reducible refine (admit_coordinate.calls a0_1 t279 _ A4.out).mono ?_); rintro e w' ⟨rfl, ⟨nd, rfl⟩⟩))
    go_ret
    exact ⟨by first | rfl | (simp [errW_none, errW_some] <;> rfl) | (simp [*, errW_none, errW_some] <;> rfl), by repeat (first | (with_reducible first | exact HB.out | apply below_alloc | apply pw_below_drewN | apply below_drew1 | refine below_set ?_ GE277.out) | exact HB.out)⟩
  · replace c3 := Bool.eq_false_iff.mpr c3
    subst c3
    have H1 : (some false) = some r := by rw [if_neg (show ¬ (false = true) by decide)] at H; exact H
    clear H
    have H := H1
    clear H1
    obtain rfl := Option.some.inj H
    go_enter Tryz.func124, Tryz.ntmps124
    go_wp2_with (first | ((with_reducible refine gate_dst (N := 1) rfl ?_); refine box_event ?hg (N := 1) ?hd (cs := #[.float .f64 a0_0, .float .f64 a0_1]) (t := 68) ?hr ?_; (case hd => rfl); (case hg => rfl); (case hr => first | (go_simp; done) | (go_simp; rfl)); intro gb277 hg w7 hbox hb; have n0_ := Aside0.mk (below_step (by repeat (first | (with_reducible first | exact HB.out | apply below_alloc | apply pw_below_drewN | apply below_drew1) | exact HB.out)) hb); have n1_ := Aside0.mk (hbox); have n2_ := Aside0.mk ((by rw [hg]; exact (below_size (by repeat (first | (with_reducible first | exact HB.out | apply below_alloc | apply pw_below_drewN | apply below_drew1) | exact HB.out))) : w.heap.size ≤ gb277)); have n3_ := Aside0.mk ((by rw [hg]; exact (below_size (by repeat (first | (with_reducible first | exact HB.out | apply below_alloc | apply pw_below_drewN | apply below_drew1) | exact HB.out))) : w.heap.size ≤ gb277)); clear HB; have HB := n0_; have BK277 := n1_; have GW277 := n2_; have GE277 := n3_; clear n0_ n1_ n2_ n3_; clear hb hbox hg; have hcz8_0 : w7.cell? ⟨gb277, 0, none⟩ = some (.float .f64 a0_0) := (blk_cell BK277.out 0).trans rfl; have hcz8_1 : w7.cell? ⟨gb277, 1, none⟩ = some (.float .f64 a0_1) := (blk_cell BK277.out 1).trans rfl; have hfz8_0 := blk_frozen BK277.out 0; have hfz8_1 := blk_frozen BK277.out 1) | ((with_reducible refine gate_callee (f := 172) rfl ?_); refine goesL_ (some 5) rfl rfl Tryz.func172 (by kernel_rfl) rfl #[.float .f64 a0_0] rfl (by (try simp only [List.map_toArray, List.map_cons, List.map_nil]); first | done | rfl | (simp only [List.length_drop, List.length_take]; rfl)) ?_; (with_reducible refine (admit_coordinate.calls a0_0 false _ A2.out).mono ?_); rintro e w' ⟨rfl, ⟨nd, rfl⟩⟩; refine ⟨_, rfl, ?_⟩))
    go_ret
    exact ⟨by first | rfl | (simp [errW_none, errW_some] <;> rfl) | (simp [*, errW_none, errW_some] <;> rfl), by repeat (first | (with_reducible first | exact HB.out | apply below_alloc | apply pw_below_drewN | apply below_drew1 | refine below_set ?_ GE277.out) | exact HB.out)⟩
def math_Inf.f (a0 : Int) : Option (Nat) := if a0 ≥ 0 then (some (fof 9218868437227405312)) else (some (fof 18442240474082181120))
set_option maxHeartbeats 8000000 in
set_option maxRecDepth 100000 in
theorem math_Inf.calls (a0 : Int) (r : Nat) (w : World) (h : math_Inf.f a0 = some r) :
    Calls Tryz.prog 287 #[.int .i64 a0] w fun e w' => e = .returned (.float .f64 r) ∧ Drawn0 w w' := by
  have H : (if a0 ≥ 0 then (some (fof 9218868437227405312)) else (some (fof 18442240474082181120))) = some r := h
  clear h
  by_cases c2 : a0 ≥ 0
  · rw [if_pos c2] at H
    have c2b0 : decide (0 ≤ a0) = true := decide_eq_true c2
    clear c2
    obtain rfl := Option.some.inj H
    go_enter Tryz.func287, Tryz.ntmps287
    go_wp2
    go_ret
    exact ⟨by first | rfl | (simp; done) | (simp [*]; done), by repeat (first | exact Drawn0.refl _ | apply Drawn0.step)⟩
  · rw [if_neg c2] at H
    have c2b0 : decide (0 ≤ a0) = false := decide_eq_false c2
    clear c2
    obtain rfl := Option.some.inj H
    go_enter Tryz.func287, Tryz.ntmps287
    go_wp2
    go_ret
    exact ⟨by first | rfl | (simp; done) | (simp [*]; done), by repeat (first | exact Drawn0.refl _ | apply Drawn0.step)⟩
def math_ldexp.f (a0 : Nat) (a1 : Int) : Option (Nat) := if (FloatKind.f64.format.order a0 0 == some .eq) = true then (some a0) else ((math_IsInf.f a0 0).bind fun t280 => (if t280 = true then (some a0) else ((math_IsNaN.f a0).bind fun t281 => (if t281 = true then (some a0) else ((math_normalize.f a0).bind fun bt282 => (if (wrap64 ((wrap64 (a1 + bt282.2)) + (wrap64 ((Go.bits .and .i64 (wrap64 ((fbits bt282.1) / 4503599627370496)) 2047) - 1023)))) < (-1075) then ((math_Copysign.f 0 bt282.1).bind fun t284 => (some t284)) else (if (wrap64 ((wrap64 (a1 + bt282.2)) + (wrap64 ((Go.bits .and .i64 (wrap64 ((fbits bt282.1) / 4503599627370496)) 2047) - 1023)))) > 1023 then (if (FloatKind.f64.format.order bt282.1 0 == some .lt) = true then ((math_Inf.f (-1)).bind fun t285 => (some t285)) else ((math_Inf.f 1).bind fun t286 => (some t286))) else (if (wrap64 ((wrap64 (a1 + bt282.2)) + (wrap64 ((Go.bits .and .i64 (wrap64 ((fbits bt282.1) / 4503599627370496)) 2047) - 1023)))) < (-1022) then ((floatBits .mul .f64 4368491638549381120 (fof (Go.bits .or .u64 (Go.bits .andNot .u64 (fbits bt282.1) 9218868437227405312) (IntKind.u64.wrap ((IntKind.u64.wrap (wrap64 ((wrap64 ((wrap64 ((wrap64 (a1 + bt282.2)) + (wrap64 ((Go.bits .and .i64 (wrap64 ((fbits bt282.1) / 4503599627370496)) 2047) - 1023)))) + 53)) + 1023))) * 4503599627370496))))).bind fun t287 => (some t287)) else ((floatBits .mul .f64 4607182418800017408 (fof (Go.bits .or .u64 (Go.bits .andNot .u64 (fbits bt282.1) 9218868437227405312) (IntKind.u64.wrap ((IntKind.u64.wrap (wrap64 ((wrap64 ((wrap64 (a1 + bt282.2)) + (wrap64 ((Go.bits .and .i64 (wrap64 ((fbits bt282.1) / 4503599627370496)) 2047) - 1023)))) + 1023))) * 4503599627370496))))).bind fun t288 => (some t288))))))))))
set_option maxHeartbeats 8000000 in
set_option maxRecDepth 100000 in
theorem math_ldexp.calls (a0 : Nat) (a1 : Int) (r : Nat) (w : World) (h : math_ldexp.f a0 a1 = some r) :
    Calls Tryz.prog 271 #[.float .f64 a0, .int .i64 a1] w fun e w' => e = .returned (.float .f64 r) ∧ Drawn0 w w' := by
  have H : (if (FloatKind.f64.format.order a0 0 == some .eq) = true then (some a0) else ((math_IsInf.f a0 0).bind fun t280 => (if t280 = true then (some a0) else ((math_IsNaN.f a0).bind fun t281 => (if t281 = true then (some a0) else ((math_normalize.f a0).bind fun bt282 => (if (wrap64 ((wrap64 (a1 + bt282.2)) + (wrap64 ((Go.bits .and .i64 (wrap64 ((fbits bt282.1) / 4503599627370496)) 2047) - 1023)))) < (-1075) then ((math_Copysign.f 0 bt282.1).bind fun t284 => (some t284)) else (if (wrap64 ((wrap64 (a1 + bt282.2)) + (wrap64 ((Go.bits .and .i64 (wrap64 ((fbits bt282.1) / 4503599627370496)) 2047) - 1023)))) > 1023 then (if (FloatKind.f64.format.order bt282.1 0 == some .lt) = true then ((math_Inf.f (-1)).bind fun t285 => (some t285)) else ((math_Inf.f 1).bind fun t286 => (some t286))) else (if (wrap64 ((wrap64 (a1 + bt282.2)) + (wrap64 ((Go.bits .and .i64 (wrap64 ((fbits bt282.1) / 4503599627370496)) 2047) - 1023)))) < (-1022) then ((floatBits .mul .f64 4368491638549381120 (fof (Go.bits .or .u64 (Go.bits .andNot .u64 (fbits bt282.1) 9218868437227405312) (IntKind.u64.wrap ((IntKind.u64.wrap (wrap64 ((wrap64 ((wrap64 ((wrap64 (a1 + bt282.2)) + (wrap64 ((Go.bits .and .i64 (wrap64 ((fbits bt282.1) / 4503599627370496)) 2047) - 1023)))) + 53)) + 1023))) * 4503599627370496))))).bind fun t287 => (some t287)) else ((floatBits .mul .f64 4607182418800017408 (fof (Go.bits .or .u64 (Go.bits .andNot .u64 (fbits bt282.1) 9218868437227405312) (IntKind.u64.wrap ((IntKind.u64.wrap (wrap64 ((wrap64 ((wrap64 (a1 + bt282.2)) + (wrap64 ((Go.bits .and .i64 (wrap64 ((fbits bt282.1) / 4503599627370496)) 2047) - 1023)))) + 1023))) * 4503599627370496))))).bind fun t288 => (some t288))))))))))) = some r := h
  clear h
  by_cases c3 : (FloatKind.f64.format.order a0 0 == some .eq) = true
  · rw [if_pos c3] at H
    have c3b0 : (FloatKind.f64.format.order a0 0 == some .eq) = true := c3
    (try (have c3b1 : decide (FloatKind.f64.format.order a0 0 = some .eq) = true := by simpa using c3))
    (try (have c3b2 : (FloatKind.f64.format.order a0 0 == some .eq) = true := by simpa using c3))
    clear c3
    obtain rfl := Option.some.inj H
    go_enter Tryz.func271, Tryz.ntmps271
    go_wp2
    go_ret
    exact ⟨by first | rfl | (simp; done) | (simp [*]; done), by repeat (first | exact Drawn0.refl _ | apply Drawn0.step)⟩
  · rw [if_neg c3] at H
    have c3b0 : (FloatKind.f64.format.order a0 0 == some .eq) = false := by simpa using c3
    (try (have c3b1 : decide (FloatKind.f64.format.order a0 0 = some .eq) = false := by simpa using c3))
    (try (have c3b2 : (FloatKind.f64.format.order a0 0 == some .eq) = false := by simpa using c3))
    (try (have c3b3 : ¬ (FloatKind.f64.format.order a0 0 = some .eq) := by simpa using c3))
    clear c3
    replace H := Option.bind_eq_some_iff.mp H
    obtain ⟨t280, A40, H⟩ := H
    replace H : (if t280 = true then (some a0) else ((math_IsNaN.f a0).bind fun t281 => (if t281 = true then (some a0) else ((math_normalize.f a0).bind fun bt282 => (if (wrap64 ((wrap64 (a1 + bt282.2)) + (wrap64 ((Go.bits .and .i64 (wrap64 ((fbits bt282.1) / 4503599627370496)) 2047) - 1023)))) < (-1075) then ((math_Copysign.f 0 bt282.1).bind fun t284 => (some t284)) else (if (wrap64 ((wrap64 (a1 + bt282.2)) + (wrap64 ((Go.bits .and .i64 (wrap64 ((fbits bt282.1) / 4503599627370496)) 2047) - 1023)))) > 1023 then (if (FloatKind.f64.format.order bt282.1 0 == some .lt) = true then ((math_Inf.f (-1)).bind fun t285 => (some t285)) else ((math_Inf.f 1).bind fun t286 => (some t286))) else (if (wrap64 ((wrap64 (a1 + bt282.2)) + (wrap64 ((Go.bits .and .i64 (wrap64 ((fbits bt282.1) / 4503599627370496)) 2047) - 1023)))) < (-1022) then ((floatBits .mul .f64 4368491638549381120 (fof (Go.bits .or .u64 (Go.bits .andNot .u64 (fbits bt282.1) 9218868437227405312) (IntKind.u64.wrap ((IntKind.u64.wrap (wrap64 ((wrap64 ((wrap64 ((wrap64 (a1 + bt282.2)) + (wrap64 ((Go.bits .and .i64 (wrap64 ((fbits bt282.1) / 4503599627370496)) 2047) - 1023)))) + 53)) + 1023))) * 4503599627370496))))).bind fun t287 => (some t287)) else ((floatBits .mul .f64 4607182418800017408 (fof (Go.bits .or .u64 (Go.bits .andNot .u64 (fbits bt282.1) 9218868437227405312) (IntKind.u64.wrap ((IntKind.u64.wrap (wrap64 ((wrap64 ((wrap64 (a1 + bt282.2)) + (wrap64 ((Go.bits .and .i64 (wrap64 ((fbits bt282.1) / 4503599627370496)) 2047) - 1023)))) + 1023))) * 4503599627370496))))).bind fun t288 => (some t288))))))))) = some r := H
    have A4 := Aside0.mk A40
    clear A40
    by_cases c5 : t280 = true
    · subst c5
      have H1 : (some a0) = some r := by rw [if_pos rfl] at H; exact H
      clear H
      have H := H1
      clear H1
      obtain rfl := Option.some.inj H
      go_enter Tryz.func271, Tryz.ntmps271
      go_wp2_with (first | ((with_reducible refine gate_callee (f := 263) rfl ?_); refine goesL_ (some 14) rfl rfl Tryz.func263 (by kernel_rfl) rfl #[.float .f64 a0, .int .i64 0] rfl (by (try simp only [List.map_toArray, List.map_cons, List.map_nil]); first | done | rfl | (simp only [List.length_drop, List.length_take]; rfl)) ?_; (with_reducible refine (math_IsInf.calls a0 0 true _ A4.out).mono ?_); rintro e w' ⟨rfl, ⟨nd, rfl⟩⟩; refine ⟨_, rfl, ?_⟩))
      go_ret
      exact ⟨by first | rfl | (simp; done) | (simp [*]; done), by repeat (first | exact Drawn0.refl _ | apply Drawn0.step)⟩
    · replace c5 := Bool.eq_false_iff.mpr c5
      subst c5
      have H1 : ((math_IsNaN.f a0).bind fun t281 => (if t281 = true then (some a0) else ((math_normalize.f a0).bind fun bt282 => (if (wrap64 ((wrap64 (a1 + bt282.2)) + (wrap64 ((Go.bits .and .i64 (wrap64 ((fbits bt282.1) / 4503599627370496)) 2047) - 1023)))) < (-1075) then ((math_Copysign.f 0 bt282.1).bind fun t284 => (some t284)) else (if (wrap64 ((wrap64 (a1 + bt282.2)) + (wrap64 ((Go.bits .and .i64 (wrap64 ((fbits bt282.1) / 4503599627370496)) 2047) - 1023)))) > 1023 then (if (FloatKind.f64.format.order bt282.1 0 == some .lt) = true then ((math_Inf.f (-1)).bind fun t285 => (some t285)) else ((math_Inf.f 1).bind fun t286 => (some t286))) else (if (wrap64 ((wrap64 (a1 + bt282.2)) + (wrap64 ((Go.bits .and .i64 (wrap64 ((fbits bt282.1) / 4503599627370496)) 2047) - 1023)))) < (-1022) then ((floatBits .mul .f64 4368491638549381120 (fof (Go.bits .or .u64 (Go.bits .andNot .u64 (fbits bt282.1) 9218868437227405312) (IntKind.u64.wrap ((IntKind.u64.wrap (wrap64 ((wrap64 ((wrap64 ((wrap64 (a1 + bt282.2)) + (wrap64 ((Go.bits .and .i64 (wrap64 ((fbits bt282.1) / 4503599627370496)) 2047) - 1023)))) + 53)) + 1023))) * 4503599627370496))))).bind fun t287 => (some t287)) else ((floatBits .mul .f64 4607182418800017408 (fof (Go.bits .or .u64 (Go.bits .andNot .u64 (fbits bt282.1) 9218868437227405312) (IntKind.u64.wrap ((IntKind.u64.wrap (wrap64 ((wrap64 ((wrap64 (a1 + bt282.2)) + (wrap64 ((Go.bits .and .i64 (wrap64 ((fbits bt282.1) / 4503599627370496)) 2047) - 1023)))) + 1023))) * 4503599627370496))))).bind fun t288 => (some t288)))))))) = some r := by rw [if_neg (show ¬ (false = true) by decide)] at H; exact H
      clear H
      have H := H1
      clear H1
      replace H := Option.bind_eq_some_iff.mp H
      obtain ⟨t281, A60, H⟩ := H
      replace H : (if t281 = true then (some a0) else ((math_normalize.f a0).bind fun bt282 => (if (wrap64 ((wrap64 (a1 + bt282.2)) + (wrap64 ((Go.bits .and .i64 (wrap64 ((fbits bt282.1) / 4503599627370496)) 2047) - 1023)))) < (-1075) then ((math_Copysign.f 0 bt282.1).bind fun t284 => (some t284)) else (if (wrap64 ((wrap64 (a1 + bt282.2)) + (wrap64 ((Go.bits .and .i64 (wrap64 ((fbits bt282.1) / 4503599627370496)) 2047) - 1023)))) > 1023 then (if (FloatKind.f64.format.order bt282.1 0 == some .lt) = true then ((math_Inf.f (-1)).bind fun t285 => (some t285)) else ((math_Inf.f 1).bind fun t286 => (some t286))) else (if (wrap64 ((wrap64 (a1 + bt282.2)) + (wrap64 ((Go.bits .and .i64 (wrap64 ((fbits bt282.1) / 4503599627370496)) 2047) - 1023)))) < (-1022) then ((floatBits .mul .f64 4368491638549381120 (fof (Go.bits .or .u64 (Go.bits .andNot .u64 (fbits bt282.1) 9218868437227405312) (IntKind.u64.wrap ((IntKind.u64.wrap (wrap64 ((wrap64 ((wrap64 ((wrap64 (a1 + bt282.2)) + (wrap64 ((Go.bits .and .i64 (wrap64 ((fbits bt282.1) / 4503599627370496)) 2047) - 1023)))) + 53)) + 1023))) * 4503599627370496))))).bind fun t287 => (some t287)) else ((floatBits .mul .f64 4607182418800017408 (fof (Go.bits .or .u64 (Go.bits .andNot .u64 (fbits bt282.1) 9218868437227405312) (IntKind.u64.wrap ((IntKind.u64.wrap (wrap64 ((wrap64 ((wrap64 (a1 + bt282.2)) + (wrap64 ((Go.bits .and .i64 (wrap64 ((fbits bt282.1) / 4503599627370496)) 2047) - 1023)))) + 1023))) * 4503599627370496))))).bind fun t288 => (some t288))))))) = some r := H
      have A6 := Aside0.mk A60
      clear A60
      by_cases c7 : t281 = true
      · subst c7
        have H1 : (some a0) = some r := by rw [if_pos rfl] at H; exact H
        clear H
        have H := H1
        clear H1
        obtain rfl := Option.some.inj H
        go_enter Tryz.func271, Tryz.ntmps271
        go_wp2_with (first | ((with_reducible refine gate_callee (f := 263) rfl ?_); refine goesL_ (some 14) rfl rfl Tryz.func263 (by kernel_rfl) rfl #[.float .f64 a0, .int .i64 0] rfl (by (try simp only [List.map_toArray, List.map_cons, List.map_nil]); first | done | rfl | (simp only [List.length_drop, List.length_take]; rfl)) ?_; (with_reducible refine (math_IsInf.calls a0 0 false _ A4.out).mono ?_); rintro e w' ⟨rfl, ⟨nd, rfl⟩⟩; refine ⟨_, rfl, ?_⟩) | (go_at_call 264; (with_reducible refine (math_IsNaN.calls a0 true _ A6.out).mono ?_); rintro e w' ⟨rfl, ⟨nd, rfl⟩⟩))
        go_ret
        exact ⟨by first | rfl | (simp; done) | (simp [*]; done), by repeat (first | exact Drawn0.refl _ | apply Drawn0.step)⟩
      · replace c7 := Bool.eq_false_iff.mpr c7
        subst c7
        have H1 : ((math_normalize.f a0).bind fun bt282 => (if (wrap64 ((wrap64 (a1 + bt282.2)) + (wrap64 ((Go.bits .and .i64 (wrap64 ((fbits bt282.1) / 4503599627370496)) 2047) - 1023)))) < (-1075) then ((math_Copysign.f 0 bt282.1).bind fun t284 => (some t284)) else (if (wrap64 ((wrap64 (a1 + bt282.2)) + (wrap64 ((Go.bits .and .i64 (wrap64 ((fbits bt282.1) / 4503599627370496)) 2047) - 1023)))) > 1023 then (if (FloatKind.f64.format.order bt282.1 0 == some .lt) = true then ((math_Inf.f (-1)).bind fun t285 => (some t285)) else ((math_Inf.f 1).bind fun t286 => (some t286))) else (if (wrap64 ((wrap64 (a1 + bt282.2)) + (wrap64 ((Go.bits .and .i64 (wrap64 ((fbits bt282.1) / 4503599627370496)) 2047) - 1023)))) < (-1022) then ((floatBits .mul .f64 4368491638549381120 (fof (Go.bits .or .u64 (Go.bits .andNot .u64 (fbits bt282.1) 9218868437227405312) (IntKind.u64.wrap ((IntKind.u64.wrap (wrap64 ((wrap64 ((wrap64 ((wrap64 (a1 + bt282.2)) + (wrap64 ((Go.bits .and .i64 (wrap64 ((fbits bt282.1) / 4503599627370496)) 2047) - 1023)))) + 53)) + 1023))) * 4503599627370496))))).bind fun t287 => (some t287)) else ((floatBits .mul .f64 4607182418800017408 (fof (Go.bits .or .u64 (Go.bits .andNot .u64 (fbits bt282.1) 9218868437227405312) (IntKind.u64.wrap ((IntKind.u64.wrap (wrap64 ((wrap64 ((wrap64 (a1 + bt282.2)) + (wrap64 ((Go.bits .and .i64 (wrap64 ((fbits bt282.1) / 4503599627370496)) 2047) - 1023)))) + 1023))) * 4503599627370496))))).bind fun t288 => (some t288)))))) = some r := by rw [if_neg (show ¬ (false = true) by decide)] at H; exact H
        clear H
        have H := H1
        clear H1
        replace H := Option.bind_eq_some_iff.mp H
        obtain ⟨⟨t282, t283⟩, A80, H⟩ := H
        replace H : (if (wrap64 ((wrap64 (a1 + t283)) + (wrap64 ((Go.bits .and .i64 (wrap64 ((fbits t282) / 4503599627370496)) 2047) - 1023)))) < (-1075) then ((math_Copysign.f 0 t282).bind fun t284 => (some t284)) else (if (wrap64 ((wrap64 (a1 + t283)) + (wrap64 ((Go.bits .and .i64 (wrap64 ((fbits t282) / 4503599627370496)) 2047) - 1023)))) > 1023 then (if (FloatKind.f64.format.order t282 0 == some .lt) = true then ((math_Inf.f (-1)).bind fun t285 => (some t285)) else ((math_Inf.f 1).bind fun t286 => (some t286))) else (if (wrap64 ((wrap64 (a1 + t283)) + (wrap64 ((Go.bits .and .i64 (wrap64 ((fbits t282) / 4503599627370496)) 2047) - 1023)))) < (-1022) then ((floatBits .mul .f64 4368491638549381120 (fof (Go.bits .or .u64 (Go.bits .andNot .u64 (fbits t282) 9218868437227405312) (IntKind.u64.wrap ((IntKind.u64.wrap (wrap64 ((wrap64 ((wrap64 ((wrap64 (a1 + t283)) + (wrap64 ((Go.bits .and .i64 (wrap64 ((fbits t282) / 4503599627370496)) 2047) - 1023)))) + 53)) + 1023))) * 4503599627370496))))).bind fun t287 => (some t287)) else ((floatBits .mul .f64 4607182418800017408 (fof (Go.bits .or .u64 (Go.bits .andNot .u64 (fbits t282) 9218868437227405312) (IntKind.u64.wrap ((IntKind.u64.wrap (wrap64 ((wrap64 ((wrap64 (a1 + t283)) + (wrap64 ((Go.bits .and .i64 (wrap64 ((fbits t282) / 4503599627370496)) 2047) - 1023)))) + 1023))) * 4503599627370496))))).bind fun t288 => (some t288))))) = some r := H
        have A8 := Aside0.mk A80
        clear A80
        by_cases c9 : (wrap64 ((wrap64 (a1 + t283)) + (wrap64 ((Go.bits .and .i64 (wrap64 ((fbits t282) / 4503599627370496)) 2047) - 1023)))) < (-1075)
        · rw [if_pos c9] at H
          have c9b0 : decide ((wrap64 ((wrap64 (a1 + t283)) + (wrap64 ((Go.bits .and .i64 (wrap64 ((fbits t282) / 4503599627370496)) 2047) - 1023)))) < (-1075)) = true := decide_eq_true c9
          clear c9
          replace H := Option.bind_eq_some_iff.mp H
          obtain ⟨t284, A100, H⟩ := H
          replace H : (some t284) = some r := H
          have A10 := Aside0.mk A100
          clear A100
          obtain rfl := Option.some.inj H
          go_enter Tryz.func271, Tryz.ntmps271
          go_wp2_with (first | ((with_reducible refine gate_callee (f := 263) rfl ?_); refine goesL_ (some 14) rfl rfl Tryz.func263 (by kernel_rfl) rfl #[.float .f64 a0, .int .i64 0] rfl (by (try simp only [List.map_toArray, List.map_cons, List.map_nil]); first | done | rfl | (simp only [List.length_drop, List.length_take]; rfl)) ?_; (with_reducible refine (math_IsInf.calls a0 0 false _ A4.out).mono ?_); rintro e w' ⟨rfl, ⟨nd, rfl⟩⟩; refine ⟨_, rfl, ?_⟩) | (go_at_call 264; (with_reducible refine (math_IsNaN.calls a0 false _ A6.out).mono ?_); rintro e w' ⟨rfl, ⟨nd, rfl⟩⟩) | ((with_reducible refine gate_callee (f := 265) rfl ?_); refine goesL_ (some 22) rfl rfl Tryz.func265 (by kernel_rfl) rfl #[.float .f64 a0] rfl (by (try simp only [List.map_toArray, List.map_cons, List.map_nil]); first | done | rfl | (simp only [List.length_drop, List.length_take]; rfl)) ?_; (with_reducible refine (math_normalize.calls a0 t282 t283 _ A8.out).mono ?_); rintro e w' ⟨rfl, ⟨nd, rfl⟩⟩; refine ⟨_, rfl, ?_⟩) | ((with_reducible refine gate_callee (f := 281) rfl ?_); refine goesL_ (some 40) rfl rfl Tryz.func281 (by kernel_rfl) rfl #[.float .f64 0, .float .f64 t282] rfl (by (try simp only [List.map_toArray, List.map_cons, List.map_nil]); first | done | rfl | (simp only [List.length_drop, List.length_take]; rfl)) ?_; (with_reducible refine (math_Copysign.calls 0 t282 t284 _ A10.out).mono ?_); rintro e w' ⟨rfl, ⟨nd, rfl⟩⟩; refine ⟨_, rfl, ?_⟩))
          go_ret
          exact ⟨by first | rfl | (simp; done) | (simp [*]; done), by repeat (first | exact Drawn0.refl _ | apply Drawn0.step)⟩
        · rw [if_neg c9] at H
          have c9b0 : decide ((wrap64 ((wrap64 (a1 + t283)) + (wrap64 ((Go.bits .and .i64 (wrap64 ((fbits t282) / 4503599627370496)) 2047) - 1023)))) < (-1075)) = false := decide_eq_false c9
          clear c9
          by_cases c11 : (wrap64 ((wrap64 (a1 + t283)) + (wrap64 ((Go.bits .and .i64 (wrap64 ((fbits t282) / 4503599627370496)) 2047) - 1023)))) > 1023
          · rw [if_pos c11] at H
            have c11b0 : decide (1023 < (wrap64 ((wrap64 (a1 + t283)) + (wrap64 ((Go.bits .and .i64 (wrap64 ((fbits t282) / 4503599627370496)) 2047) - 1023))))) = true := decide_eq_true c11
            clear c11
            by_cases c12 : (FloatKind.f64.format.order t282 0 == some .lt) = true
            · rw [if_pos c12] at H
              have c12b0 : (FloatKind.f64.format.order t282 0 == some .lt) = true := c12
              (try (have c12b1 : decide (FloatKind.f64.format.order t282 0 = some .lt) = true := by simpa using c12))
              (try (have c12b2 : (FloatKind.f64.format.order t282 0 == some .lt) = true := by simpa using c12))
              clear c12
              replace H := Option.bind_eq_some_iff.mp H
              obtain ⟨t285, A130, H⟩ := H
              replace H : (some t285) = some r := H
              have A13 := Aside0.mk A130
              clear A130
              obtain rfl := Option.some.inj H
              go_enter Tryz.func271, Tryz.ntmps271
              go_wp2_with (first | ((with_reducible refine gate_callee (f := 263) rfl ?_); refine goesL_ (some 14) rfl rfl Tryz.func263 (by kernel_rfl) rfl #[.float .f64 a0, .int .i64 0] rfl (by (try simp only [List.map_toArray, List.map_cons, List.map_nil]); first | done | rfl | (simp only [List.length_drop, List.length_take]; rfl)) ?_; (with_reducible refine (math_IsInf.calls a0 0 false _ A4.out).mono ?_); rintro e w' ⟨rfl, ⟨nd, rfl⟩⟩; refine ⟨_, rfl, ?_⟩) | (go_at_call 264; (with_reducible refine (math_IsNaN.calls a0 false _ A6.out).mono ?_); rintro e w' ⟨rfl, ⟨nd, rfl⟩⟩) | ((with_reducible refine gate_callee (f := 265) rfl ?_); refine goesL_ (some 22) rfl rfl Tryz.func265 (by kernel_rfl) rfl #[.float .f64 a0] rfl (by (try simp only [List.map_toArray, List.map_cons, List.map_nil]); first | done | rfl | (simp only [List.length_drop, List.length_take]; rfl)) ?_; (with_reducible refine (math_normalize.calls a0 t282 t283 _ A8.out).mono ?_); rintro e w' ⟨rfl, ⟨nd, rfl⟩⟩; refine ⟨_, rfl, ?_⟩) | ((with_reducible refine gate_callee (f := 287) rfl ?_); refine goesL_ (some 45) rfl rfl Tryz.func287 (by kernel_rfl) rfl #[.int .i64 (-1)] rfl (by (try simp only [List.map_toArray, List.map_cons, List.map_nil]); first | done | rfl | (simp only [List.length_drop, List.length_take]; rfl)) ?_; (with_reducible refine (math_Inf.calls (-1) t285 _ A13.out).mono ?_); rintro e w' ⟨rfl, ⟨nd, rfl⟩⟩; refine ⟨_, rfl, ?_⟩))
              go_ret
              exact ⟨by first | rfl | (simp; done) | (simp [*]; done), by repeat (first | exact Drawn0.refl _ | apply Drawn0.step)⟩
            · rw [if_neg c12] at H
              have c12b0 : (FloatKind.f64.format.order t282 0 == some .lt) = false := by simpa using c12
              (try (have c12b1 : decide (FloatKind.f64.format.order t282 0 = some .lt) = false := by simpa using c12))
              (try (have c12b2 : (FloatKind.f64.format.order t282 0 == some .lt) = false := by simpa using c12))
              (try (have c12b3 : ¬ (FloatKind.f64.format.order t282 0 = some .lt) := by simpa using c12))
              clear c12
              replace H := Option.bind_eq_some_iff.mp H
              obtain ⟨t286, A140, H⟩ := H
              replace H : (some t286) = some r := H
              have A14 := Aside0.mk A140
              clear A140
              obtain rfl := Option.some.inj H
              go_enter Tryz.func271, Tryz.ntmps271
              go_wp2_with (first | ((with_reducible refine gate_callee (f := 263) rfl ?_); refine goesL_ (some 14) rfl rfl Tryz.func263 (by kernel_rfl) rfl #[.float .f64 a0, .int .i64 0] rfl (by (try simp only [List.map_toArray, List.map_cons, List.map_nil]); first | done | rfl | (simp only [List.length_drop, List.length_take]; rfl)) ?_; (with_reducible refine (math_IsInf.calls a0 0 false _ A4.out).mono ?_); rintro e w' ⟨rfl, ⟨nd, rfl⟩⟩; refine ⟨_, rfl, ?_⟩) | (go_at_call 264; (with_reducible refine (math_IsNaN.calls a0 false _ A6.out).mono ?_); rintro e w' ⟨rfl, ⟨nd, rfl⟩⟩) | ((with_reducible refine gate_callee (f := 265) rfl ?_); refine goesL_ (some 22) rfl rfl Tryz.func265 (by kernel_rfl) rfl #[.float .f64 a0] rfl (by (try simp only [List.map_toArray, List.map_cons, List.map_nil]); first | done | rfl | (simp only [List.length_drop, List.length_take]; rfl)) ?_; (with_reducible refine (math_normalize.calls a0 t282 t283 _ A8.out).mono ?_); rintro e w' ⟨rfl, ⟨nd, rfl⟩⟩; refine ⟨_, rfl, ?_⟩) | ((with_reducible refine gate_callee (f := 287) rfl ?_); refine goesL_ (some 46) rfl rfl Tryz.func287 (by kernel_rfl) rfl #[.int .i64 1] rfl (by (try simp only [List.map_toArray, List.map_cons, List.map_nil]); first | done | rfl | (simp only [List.length_drop, List.length_take]; rfl)) ?_; (with_reducible refine (math_Inf.calls 1 t286 _ A14.out).mono ?_); rintro e w' ⟨rfl, ⟨nd, rfl⟩⟩; refine ⟨_, rfl, ?_⟩))
              go_ret
              exact ⟨by first | rfl | (simp; done) | (simp [*]; done), by repeat (first | exact Drawn0.refl _ | apply Drawn0.step)⟩
          · rw [if_neg c11] at H
            have c11b0 : decide (1023 < (wrap64 ((wrap64 (a1 + t283)) + (wrap64 ((Go.bits .and .i64 (wrap64 ((fbits t282) / 4503599627370496)) 2047) - 1023))))) = false := decide_eq_false c11
            clear c11
            by_cases c15 : (wrap64 ((wrap64 (a1 + t283)) + (wrap64 ((Go.bits .and .i64 (wrap64 ((fbits t282) / 4503599627370496)) 2047) - 1023)))) < (-1022)
            · rw [if_pos c15] at H
              have c15b0 : decide ((wrap64 ((wrap64 (a1 + t283)) + (wrap64 ((Go.bits .and .i64 (wrap64 ((fbits t282) / 4503599627370496)) 2047) - 1023)))) < (-1022)) = true := decide_eq_true c15
              clear c15
              replace H := Option.bind_eq_some_iff.mp H
              obtain ⟨t287, hfop_, H⟩ := H
              replace H : (some t287) = some r := H
              have hfw16 := fun w_ => run_float_arith (P := Tryz.prog) w_ .mul 66 .f64 4368491638549381120 (fof (Go.bits .or .u64 (Go.bits .andNot .u64 (fbits t282) 9218868437227405312) (IntKind.u64.wrap ((IntKind.u64.wrap (wrap64 ((wrap64 ((wrap64 ((wrap64 (a1 + t283)) + (wrap64 ((Go.bits .and .i64 (wrap64 ((fbits t282) / 4503599627370496)) 2047) - 1023)))) + 53)) + 1023))) * 4503599627370496)))) t287 hfop_
              clear hfop_
              obtain rfl := Option.some.inj H
              go_enter Tryz.func271, Tryz.ntmps271
              go_wp2_with (first | ((with_reducible refine gate_callee (f := 263) rfl ?_); refine goesL_ (some 14) rfl rfl Tryz.func263 (by kernel_rfl) rfl #[.float .f64 a0, .int .i64 0] rfl (by (try simp only [List.map_toArray, List.map_cons, List.map_nil]); first | done | rfl | (simp only [List.length_drop, List.length_take]; rfl)) ?_; (with_reducible refine (math_IsInf.calls a0 0 false _ A4.out).mono ?_); rintro e w' ⟨rfl, ⟨nd, rfl⟩⟩; refine ⟨_, rfl, ?_⟩) | (go_at_call 264; (with_reducible refine (math_IsNaN.calls a0 false _ A6.out).mono ?_); rintro e w' ⟨rfl, ⟨nd, rfl⟩⟩) | ((with_reducible refine gate_callee (f := 265) rfl ?_); refine goesL_ (some 22) rfl rfl Tryz.func265 (by kernel_rfl) rfl #[.float .f64 a0] rfl (by (try simp only [List.map_toArray, List.map_cons, List.map_nil]); first | done | rfl | (simp only [List.length_drop, List.length_take]; rfl)) ?_; (with_reducible refine (math_normalize.calls a0 t282 t283 _ A8.out).mono ?_); rintro e w' ⟨rfl, ⟨nd, rfl⟩⟩; refine ⟨_, rfl, ?_⟩))
              go_ret
              exact ⟨by first | rfl | (simp; done) | (simp [*]; done), by repeat (first | exact Drawn0.refl _ | apply Drawn0.step)⟩
            · rw [if_neg c15] at H
              have c15b0 : decide ((wrap64 ((wrap64 (a1 + t283)) + (wrap64 ((Go.bits .and .i64 (wrap64 ((fbits t282) / 4503599627370496)) 2047) - 1023)))) < (-1022)) = false := decide_eq_false c15
              clear c15
              replace H := Option.bind_eq_some_iff.mp H
              obtain ⟨t288, hfop_, H⟩ := H
              replace H : (some t288) = some r := H
              have hfw17 := fun w_ => run_float_arith (P := Tryz.prog) w_ .mul 66 .f64 4607182418800017408 (fof (Go.bits .or .u64 (Go.bits .andNot .u64 (fbits t282) 9218868437227405312) (IntKind.u64.wrap ((IntKind.u64.wrap (wrap64 ((wrap64 ((wrap64 (a1 + t283)) + (wrap64 ((Go.bits .and .i64 (wrap64 ((fbits t282) / 4503599627370496)) 2047) - 1023)))) + 1023))) * 4503599627370496)))) t288 hfop_
              clear hfop_
              obtain rfl := Option.some.inj H
              go_enter Tryz.func271, Tryz.ntmps271
              go_wp2_with (first | ((with_reducible refine gate_callee (f := 263) rfl ?_); refine goesL_ (some 14) rfl rfl Tryz.func263 (by kernel_rfl) rfl #[.float .f64 a0, .int .i64 0] rfl (by (try simp only [List.map_toArray, List.map_cons, List.map_nil]); first | done | rfl | (simp only [List.length_drop, List.length_take]; rfl)) ?_; (with_reducible refine (math_IsInf.calls a0 0 false _ A4.out).mono ?_); rintro e w' ⟨rfl, ⟨nd, rfl⟩⟩; refine ⟨_, rfl, ?_⟩) | (go_at_call 264; (with_reducible refine (math_IsNaN.calls a0 false _ A6.out).mono ?_); rintro e w' ⟨rfl, ⟨nd, rfl⟩⟩) | ((with_reducible refine gate_callee (f := 265) rfl ?_); refine goesL_ (some 22) rfl rfl Tryz.func265 (by kernel_rfl) rfl #[.float .f64 a0] rfl (by (try simp only [List.map_toArray, List.map_cons, List.map_nil]); first | done | rfl | (simp only [List.length_drop, List.length_take]; rfl)) ?_; (with_reducible refine (math_normalize.calls a0 t282 t283 _ A8.out).mono ?_); rintro e w' ⟨rfl, ⟨nd, rfl⟩⟩; refine ⟨_, rfl, ?_⟩))
              go_ret
              exact ⟨by first | rfl | (simp; done) | (simp [*]; done), by repeat (first | exact Drawn0.refl _ | apply Drawn0.step)⟩
def math_Ldexp.f (a0 : Nat) (a1 : Int) : Option (Nat) := (math_ldexp.f a0 a1).bind fun t289 => (some t289)
set_option maxHeartbeats 8000000 in
set_option maxRecDepth 100000 in
theorem math_Ldexp.calls (a0 : Nat) (a1 : Int) (r : Nat) (w : World) (h : math_Ldexp.f a0 a1 = some r) :
    Calls Tryz.prog 237 #[.float .f64 a0, .int .i64 a1] w fun e w' => e = .returned (.float .f64 r) ∧ Drawn0 w w' := by
  have H : ((math_ldexp.f a0 a1).bind fun t289 => (some t289)) = some r := h
  clear h
  replace H := Option.bind_eq_some_iff.mp H
  obtain ⟨t289, A30, H⟩ := H
  replace H : (some t289) = some r := H
  have A3 := Aside0.mk A30
  clear A30
  obtain rfl := Option.some.inj H
  go_enter Tryz.func237, Tryz.ntmps237
  go_wp2_with (first | ((with_reducible refine gate_callee (f := 271) rfl ?_); refine goesL_ (some 10) rfl rfl Tryz.func271 (by kernel_rfl) rfl #[.float .f64 a0, .int .i64 a1] rfl (by (try simp only [List.map_toArray, List.map_cons, List.map_nil]); first | done | rfl | (simp only [List.length_drop, List.length_take]; rfl)) ?_; (with_reducible refine (math_ldexp.calls a0 a1 t289 _ A3.out).mono ?_); rintro e w' ⟨rfl, ⟨nd, rfl⟩⟩; refine ⟨_, rfl, ?_⟩))
  go_ret
  exact ⟨by first | rfl | (simp; done) | (simp [*]; done), by repeat (first | exact Drawn0.refl _ | apply Drawn0.step)⟩
end Go.Proofs.YtjiolfpahollkaaGreatDoor.R
