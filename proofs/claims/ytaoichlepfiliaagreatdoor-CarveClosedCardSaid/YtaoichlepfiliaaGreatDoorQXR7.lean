/- Lemmas of R7. Conditions stand in each. -/
import Derived.Test.YtaoichlepfiliaaGreatDoorQXWFootNe
import Derived.Test.YtaoichlepfiliaaGreatDoorQXR6
set_option linter.unusedSimpArgs false
set_option linter.unusedVariables false
namespace Go.Proofs.YtaoichlepfiliaaGreatDoor.R
open Go.RowKit Go.Proofs.YtaoichlepfiliaaGreatDoorW.PrintWords Go.Proofs.YtaoichlepfiliaaGreatDoorW.PrintLast
def admit_May.f (a0_0 : Nat) (a0_1 : Nat) : Option (Bool) := (admit_coordinate.f a0_0).bind fun t258 => (if t258 = true then ((admit_coordinate.f a0_1).bind fun t259 => (some t259)) else (some false))
set_option maxHeartbeats 8000000 in
set_option maxRecDepth 100000 in
theorem admit_May.calls (a0_0 : Nat) (a0_1 : Nat) (r : Bool) (w : World) (h : admit_May.f a0_0 a0_1 = some r) :
 Calls Tryz.prog 78 #[.agg #[.float .f64 a0_0, .float .f64 a0_1]] w fun e w' => e = .returned (.bool r) ∧ Below w.heap.size w w' := by
 have hu71 := Tryz.underlying71
 have HB := Aside0.mk (Below.refl w.heap.size w)
 have H : ((admit_coordinate.f a0_0).bind fun t258 => (if t258 = true then ((admit_coordinate.f a0_1).bind fun t259 => (some t259)) else (some false))) = some r := h
 clear h
 replace H := Option.bind_eq_some_iff.mp H
 obtain ⟨t258, A20, H⟩ := H
 replace H : (if t258 = true then ((admit_coordinate.f a0_1).bind fun t259 => (some t259)) else (some false)) = some r := H
 have A2 := Aside0.mk A20
 clear A20
 by_cases c3 : t258 = true
 ·subst c3
  have H1 : ((admit_coordinate.f a0_1).bind fun t259 => (some t259)) = some r := by rw [if_pos rfl] at H; exact H
  clear H
  have H := H1
  clear H1
  replace H := Option.bind_eq_some_iff.mp H
  obtain ⟨t259, A40, H⟩ := H
  replace H : (some t259) = some r := H
  have A4 := Aside0.mk A40
  clear A40
  obtain rfl := Option.some.inj H
  go_enter Tryz.func78, Tryz.ntmps78
  go_wp2_with (first | ((with_reducible refine gate_dst (N := 1) rfl ?_); refine box_event ?hg (N := 1) ?hd (cs := #[.float .f64 a0_0, .float .f64 a0_1]) (t := 71) ?hr ?_; (case hd => rfl); (case hg => rfl); (case hr => first | (go_simp; done) | (go_simp; rfl)); intro gb257 hg w5 hbox hb; have n0_ := Aside0.mk (below_step (by repeat (first | (with_reducible first | exact HB.out | apply below_alloc | apply pw_below_drewN | apply below_drew1) | exact HB.out)) hb); have n1_ := Aside0.mk (hbox); have n2_ := Aside0.mk ((by rw [hg]; exact (below_size (by repeat (first | (with_reducible first | exact HB.out | apply below_alloc | apply pw_below_drewN | apply below_drew1) | exact HB.out))) : w.heap.size ≤ gb257)); have n3_ := Aside0.mk ((by rw [hg]; exact (below_size (by repeat (first | (with_reducible first | exact HB.out | apply below_alloc | apply pw_below_drewN | apply below_drew1) | exact HB.out))) : w.heap.size ≤ gb257)); clear HB; have HB := n0_; have BK257 := n1_; have GW257 := n2_; have GE257 := n3_; clear n0_ n1_ n2_ n3_; clear hb hbox hg; have hcz6_0 : w5.cell? ⟨gb257, 0, none⟩ = some (.float .f64 a0_0) := (blk_cell BK257.out 0).trans rfl; have hcz6_1 : w5.cell? ⟨gb257, 1, none⟩ = some (.float .f64 a0_1) := (blk_cell BK257.out 1).trans rfl; have hfz6_0 := blk_frozen BK257.out 0; have hfz6_1 := blk_frozen BK257.out 1) | ((with_reducible refine gate_callee (f := 102) rfl ?_); refine goesL_ (some 5) rfl rfl Tryz.func102 (by kernel_rfl) rfl #[.float .f64 a0_0] rfl (by (try simp only [List.map_toArray, List.map_cons, List.map_nil]); first | done | rfl | (simp only [List.length_drop, List.length_take]; rfl)) ?_; (with_reducible refine (admit_coordinate.calls a0_0 true _ A2.out).mono ?_); rintro e w' ⟨rfl, ⟨nd, rfl⟩⟩; refine ⟨_, rfl, ?_⟩) | (go_at_call 102; (with_reducible refine (admit_coordinate.calls a0_1 t259 _ A4.out).mono ?_); rintro e w' ⟨rfl, ⟨nd, rfl⟩⟩))
  go_ret
  exact ⟨by first | rfl | (simp [errW_none, errW_some] <;> rfl) | (simp [*, errW_none, errW_some] <;> rfl), by repeat (first | (with_reducible first | exact HB.out | apply below_alloc | apply pw_below_drewN | apply below_drew1 | refine below_set ?_ GE257.out) | exact HB.out)⟩
 ·replace c3 := Bool.eq_false_iff.mpr c3
  subst c3
  have H1 : (some false) = some r := by rw [if_neg (show ¬ (false = true) by decide)] at H; exact H
  clear H
  have H := H1
  clear H1
  obtain rfl := Option.some.inj H
  go_enter Tryz.func78, Tryz.ntmps78
  go_wp2_with (first | ((with_reducible refine gate_dst (N := 1) rfl ?_); refine box_event ?hg (N := 1) ?hd (cs := #[.float .f64 a0_0, .float .f64 a0_1]) (t := 71) ?hr ?_; (case hd => rfl); (case hg => rfl); (case hr => first | (go_simp; done) | (go_simp; rfl)); intro gb257 hg w7 hbox hb; have n0_ := Aside0.mk (below_step (by repeat (first | (with_reducible first | exact HB.out | apply below_alloc | apply pw_below_drewN | apply below_drew1) | exact HB.out)) hb); have n1_ := Aside0.mk (hbox); have n2_ := Aside0.mk ((by rw [hg]; exact (below_size (by repeat (first | (with_reducible first | exact HB.out | apply below_alloc | apply pw_below_drewN | apply below_drew1) | exact HB.out))) : w.heap.size ≤ gb257)); have n3_ := Aside0.mk ((by rw [hg]; exact (below_size (by repeat (first | (with_reducible first | exact HB.out | apply below_alloc | apply pw_below_drewN | apply below_drew1) | exact HB.out))) : w.heap.size ≤ gb257)); clear HB; have HB := n0_; have BK257 := n1_; have GW257 := n2_; have GE257 := n3_; clear n0_ n1_ n2_ n3_; clear hb hbox hg; have hcz8_0 : w7.cell? ⟨gb257, 0, none⟩ = some (.float .f64 a0_0) := (blk_cell BK257.out 0).trans rfl; have hcz8_1 : w7.cell? ⟨gb257, 1, none⟩ = some (.float .f64 a0_1) := (blk_cell BK257.out 1).trans rfl; have hfz8_0 := blk_frozen BK257.out 0; have hfz8_1 := blk_frozen BK257.out 1) | ((with_reducible refine gate_callee (f := 102) rfl ?_); refine goesL_ (some 5) rfl rfl Tryz.func102 (by kernel_rfl) rfl #[.float .f64 a0_0] rfl (by (try simp only [List.map_toArray, List.map_cons, List.map_nil]); first | done | rfl | (simp only [List.length_drop, List.length_take]; rfl)) ?_; (with_reducible refine (admit_coordinate.calls a0_0 false _ A2.out).mono ?_); rintro e w' ⟨rfl, ⟨nd, rfl⟩⟩; refine ⟨_, rfl, ?_⟩))
  go_ret
  exact ⟨by first | rfl | (simp [errW_none, errW_some] <;> rfl) | (simp [*, errW_none, errW_some] <;> rfl), by repeat (first | (with_reducible first | exact HB.out | apply below_alloc | apply pw_below_drewN | apply below_drew1 | refine below_set ?_ GE257.out) | exact HB.out)⟩
def math_Inf.f (a0 : Int) : Option (Nat) := if a0 ≥ 0 then (some (fof 9218868437227405312)) else (some (fof 18442240474082181120))
set_option maxHeartbeats 8000000 in
set_option maxRecDepth 100000 in
theorem math_Inf.calls (a0 : Int) (r : Nat) (w : World) (h : math_Inf.f a0 = some r) :
 Calls Tryz.prog 202 #[.int .i64 a0] w fun e w' => e = .returned (.float .f64 r) ∧ Drawn0 w w' := by
 have H : (if a0 ≥ 0 then (some (fof 9218868437227405312)) else (some (fof 18442240474082181120))) = some r := h
 clear h
 by_cases c2 : a0 ≥ 0
 ·rw [if_pos c2] at H
  have c2b0 : decide (0 ≤ a0) = true := decide_eq_true c2
  clear c2
  obtain rfl := Option.some.inj H
  go_enter Tryz.func202, Tryz.ntmps202
  go_wp2
  go_ret
  exact ⟨by first | rfl | (simp; done) | (simp [*]; done), by repeat (first | exact Drawn0.refl _ | apply Drawn0.step)⟩
 ·rw [if_neg c2] at H
  have c2b0 : decide (0 ≤ a0) = false := decide_eq_false c2
  clear c2
  obtain rfl := Option.some.inj H
  go_enter Tryz.func202, Tryz.ntmps202
  go_wp2
  go_ret
  exact ⟨by first | rfl | (simp; done) | (simp [*]; done), by repeat (first | exact Drawn0.refl _ | apply Drawn0.step)⟩
def math_ldexp.f (a0 : Nat) (a1 : Int) : Option (Nat) := if (FloatKind.f64.format.order a0 0 == some .eq) = true then (some a0) else ((math_IsInf.f a0 0).bind fun t260 => (if t260 = true then (some a0) else ((math_IsNaN.f a0).bind fun t261 => (if t261 = true then (some a0) else ((math_normalize.f a0).bind fun bt262 => (if (wrap64 ((wrap64 (a1 + bt262.2)) + (wrap64 ((Go.bits .and .i64 (wrap64 ((fbits bt262.1) / 4503599627370496)) 2047) - 1023)))) < (-1075) then ((math_Copysign.f 0 bt262.1).bind fun t264 => (some t264)) else (if (wrap64 ((wrap64 (a1 + bt262.2)) + (wrap64 ((Go.bits .and .i64 (wrap64 ((fbits bt262.1) / 4503599627370496)) 2047) - 1023)))) > 1023 then (if (FloatKind.f64.format.order bt262.1 0 == some .lt) = true then ((math_Inf.f (-1)).bind fun t265 => (some t265)) else ((math_Inf.f 1).bind fun t266 => (some t266))) else (if (wrap64 ((wrap64 (a1 + bt262.2)) + (wrap64 ((Go.bits .and .i64 (wrap64 ((fbits bt262.1) / 4503599627370496)) 2047) - 1023)))) < (-1022) then ((floatBits .mul .f64 4368491638549381120 (fof (Go.bits .or .u64 (Go.bits .andNot .u64 (fbits bt262.1) 9218868437227405312) (IntKind.u64.wrap ((IntKind.u64.wrap (wrap64 ((wrap64 ((wrap64 ((wrap64 (a1 + bt262.2)) + (wrap64 ((Go.bits .and .i64 (wrap64 ((fbits bt262.1) / 4503599627370496)) 2047) - 1023)))) + 53)) + 1023))) * 4503599627370496))))).bind fun t267 => (some t267)) else ((floatBits .mul .f64 4607182418800017408 (fof (Go.bits .or .u64 (Go.bits .andNot .u64 (fbits bt262.1) 9218868437227405312) (IntKind.u64.wrap ((IntKind.u64.wrap (wrap64 ((wrap64 ((wrap64 (a1 + bt262.2)) + (wrap64 ((Go.bits .and .i64 (wrap64 ((fbits bt262.1) / 4503599627370496)) 2047) - 1023)))) + 1023))) * 4503599627370496))))).bind fun t268 => (some t268))))))))))
set_option maxHeartbeats 8000000 in
set_option maxRecDepth 100000 in
theorem math_ldexp.calls (a0 : Nat) (a1 : Int) (r : Nat) (w : World) (h : math_ldexp.f a0 a1 = some r) :
 Calls Tryz.prog 181 #[.float .f64 a0, .int .i64 a1] w fun e w' => e = .returned (.float .f64 r) ∧ Drawn0 w w' := by
 have H : (if (FloatKind.f64.format.order a0 0 == some .eq) = true then (some a0) else ((math_IsInf.f a0 0).bind fun t260 => (if t260 = true then (some a0) else ((math_IsNaN.f a0).bind fun t261 => (if t261 = true then (some a0) else ((math_normalize.f a0).bind fun bt262 => (if (wrap64 ((wrap64 (a1 + bt262.2)) + (wrap64 ((Go.bits .and .i64 (wrap64 ((fbits bt262.1) / 4503599627370496)) 2047) - 1023)))) < (-1075) then ((math_Copysign.f 0 bt262.1).bind fun t264 => (some t264)) else (if (wrap64 ((wrap64 (a1 + bt262.2)) + (wrap64 ((Go.bits .and .i64 (wrap64 ((fbits bt262.1) / 4503599627370496)) 2047) - 1023)))) > 1023 then (if (FloatKind.f64.format.order bt262.1 0 == some .lt) = true then ((math_Inf.f (-1)).bind fun t265 => (some t265)) else ((math_Inf.f 1).bind fun t266 => (some t266))) else (if (wrap64 ((wrap64 (a1 + bt262.2)) + (wrap64 ((Go.bits .and .i64 (wrap64 ((fbits bt262.1) / 4503599627370496)) 2047) - 1023)))) < (-1022) then ((floatBits .mul .f64 4368491638549381120 (fof (Go.bits .or .u64 (Go.bits .andNot .u64 (fbits bt262.1) 9218868437227405312) (IntKind.u64.wrap ((IntKind.u64.wrap (wrap64 ((wrap64 ((wrap64 ((wrap64 (a1 + bt262.2)) + (wrap64 ((Go.bits .and .i64 (wrap64 ((fbits bt262.1) / 4503599627370496)) 2047) - 1023)))) + 53)) + 1023))) * 4503599627370496))))).bind fun t267 => (some t267)) else ((floatBits .mul .f64 4607182418800017408 (fof (Go.bits .or .u64 (Go.bits .andNot .u64 (fbits bt262.1) 9218868437227405312) (IntKind.u64.wrap ((IntKind.u64.wrap (wrap64 ((wrap64 ((wrap64 (a1 + bt262.2)) + (wrap64 ((Go.bits .and .i64 (wrap64 ((fbits bt262.1) / 4503599627370496)) 2047) - 1023)))) + 1023))) * 4503599627370496))))).bind fun t268 => (some t268))))))))))) = some r := h
 clear h
 by_cases c3 : (FloatKind.f64.format.order a0 0 == some .eq) = true
 ·rw [if_pos c3] at H
  have c3b0 : (FloatKind.f64.format.order a0 0 == some .eq) = true := c3
  (try (have c3b1 : decide (FloatKind.f64.format.order a0 0 = some .eq) = true := by simpa using c3))
  (try (have c3b2 : (FloatKind.f64.format.order a0 0 == some .eq) = true := by simpa using c3))
  clear c3
  obtain rfl := Option.some.inj H
  go_enter Tryz.func181, Tryz.ntmps181
  go_wp2
  go_ret
  exact ⟨by first | rfl | (simp; done) | (simp [*]; done), by repeat (first | exact Drawn0.refl _ | apply Drawn0.step)⟩
 ·rw [if_neg c3] at H
  have c3b0 : (FloatKind.f64.format.order a0 0 == some .eq) = false := by simpa using c3
  (try (have c3b1 : decide (FloatKind.f64.format.order a0 0 = some .eq) = false := by simpa using c3))
  (try (have c3b2 : (FloatKind.f64.format.order a0 0 == some .eq) = false := by simpa using c3))
  (try (have c3b3 : ¬ (FloatKind.f64.format.order a0 0 = some .eq) := by simpa using c3))
  clear c3
  replace H := Option.bind_eq_some_iff.mp H
  obtain ⟨t260, A40, H⟩ := H
  replace H : (if t260 = true then (some a0) else ((math_IsNaN.f a0).bind fun t261 => (if t261 = true then (some a0) else ((math_normalize.f a0).bind fun bt262 => (if (wrap64 ((wrap64 (a1 + bt262.2)) + (wrap64 ((Go.bits .and .i64 (wrap64 ((fbits bt262.1) / 4503599627370496)) 2047) - 1023)))) < (-1075) then ((math_Copysign.f 0 bt262.1).bind fun t264 => (some t264)) else (if (wrap64 ((wrap64 (a1 + bt262.2)) + (wrap64 ((Go.bits .and .i64 (wrap64 ((fbits bt262.1) / 4503599627370496)) 2047) - 1023)))) > 1023 then (if (FloatKind.f64.format.order bt262.1 0 == some .lt) = true then ((math_Inf.f (-1)).bind fun t265 => (some t265)) else ((math_Inf.f 1).bind fun t266 => (some t266))) else (if (wrap64 ((wrap64 (a1 + bt262.2)) + (wrap64 ((Go.bits .and .i64 (wrap64 ((fbits bt262.1) / 4503599627370496)) 2047) - 1023)))) < (-1022) then ((floatBits .mul .f64 4368491638549381120 (fof (Go.bits .or .u64 (Go.bits .andNot .u64 (fbits bt262.1) 9218868437227405312) (IntKind.u64.wrap ((IntKind.u64.wrap (wrap64 ((wrap64 ((wrap64 ((wrap64 (a1 + bt262.2)) + (wrap64 ((Go.bits .and .i64 (wrap64 ((fbits bt262.1) / 4503599627370496)) 2047) - 1023)))) + 53)) + 1023))) * 4503599627370496))))).bind fun t267 => (some t267)) else ((floatBits .mul .f64 4607182418800017408 (fof (Go.bits .or .u64 (Go.bits .andNot .u64 (fbits bt262.1) 9218868437227405312) (IntKind.u64.wrap ((IntKind.u64.wrap (wrap64 ((wrap64 ((wrap64 (a1 + bt262.2)) + (wrap64 ((Go.bits .and .i64 (wrap64 ((fbits bt262.1) / 4503599627370496)) 2047) - 1023)))) + 1023))) * 4503599627370496))))).bind fun t268 => (some t268))))))))) = some r := H
  have A4 := Aside0.mk A40
  clear A40
  by_cases c5 : t260 = true
  ·subst c5
   have H1 : (some a0) = some r := by rw [if_pos rfl] at H; exact H
   clear H
   have H := H1
   clear H1
   obtain rfl := Option.some.inj H
   go_enter Tryz.func181, Tryz.ntmps181
   go_wp2_with (first | ((with_reducible refine gate_callee (f := 194) rfl ?_); refine goesL_ (some 14) rfl rfl Tryz.func194 (by kernel_rfl) rfl #[.float .f64 a0, .int .i64 0] rfl (by (try simp only [List.map_toArray, List.map_cons, List.map_nil]); first | done | rfl | (simp only [List.length_drop, List.length_take]; rfl)) ?_; (with_reducible refine (math_IsInf.calls a0 0 true _ A4.out).mono ?_); rintro e w' ⟨rfl, ⟨nd, rfl⟩⟩; refine ⟨_, rfl, ?_⟩))
   go_ret
   exact ⟨by first | rfl | (simp; done) | (simp [*]; done), by repeat (first | exact Drawn0.refl _ | apply Drawn0.step)⟩
  ·replace c5 := Bool.eq_false_iff.mpr c5
   subst c5
   have H1 : ((math_IsNaN.f a0).bind fun t261 => (if t261 = true then (some a0) else ((math_normalize.f a0).bind fun bt262 => (if (wrap64 ((wrap64 (a1 + bt262.2)) + (wrap64 ((Go.bits .and .i64 (wrap64 ((fbits bt262.1) / 4503599627370496)) 2047) - 1023)))) < (-1075) then ((math_Copysign.f 0 bt262.1).bind fun t264 => (some t264)) else (if (wrap64 ((wrap64 (a1 + bt262.2)) + (wrap64 ((Go.bits .and .i64 (wrap64 ((fbits bt262.1) / 4503599627370496)) 2047) - 1023)))) > 1023 then (if (FloatKind.f64.format.order bt262.1 0 == some .lt) = true then ((math_Inf.f (-1)).bind fun t265 => (some t265)) else ((math_Inf.f 1).bind fun t266 => (some t266))) else (if (wrap64 ((wrap64 (a1 + bt262.2)) + (wrap64 ((Go.bits .and .i64 (wrap64 ((fbits bt262.1) / 4503599627370496)) 2047) - 1023)))) < (-1022) then ((floatBits .mul .f64 4368491638549381120 (fof (Go.bits .or .u64 (Go.bits .andNot .u64 (fbits bt262.1) 9218868437227405312) (IntKind.u64.wrap ((IntKind.u64.wrap (wrap64 ((wrap64 ((wrap64 ((wrap64 (a1 + bt262.2)) + (wrap64 ((Go.bits .and .i64 (wrap64 ((fbits bt262.1) / 4503599627370496)) 2047) - 1023)))) + 53)) + 1023))) * 4503599627370496))))).bind fun t267 => (some t267)) else ((floatBits .mul .f64 4607182418800017408 (fof (Go.bits .or .u64 (Go.bits .andNot .u64 (fbits bt262.1) 9218868437227405312) (IntKind.u64.wrap ((IntKind.u64.wrap (wrap64 ((wrap64 ((wrap64 (a1 + bt262.2)) + (wrap64 ((Go.bits .and .i64 (wrap64 ((fbits bt262.1) / 4503599627370496)) 2047) - 1023)))) + 1023))) * 4503599627370496))))).bind fun t268 => (some t268)))))))) = some r := by rw [if_neg (show ¬ (false = true) by decide)] at H; exact H
   clear H
   have H := H1
   clear H1
   replace H := Option.bind_eq_some_iff.mp H
   obtain ⟨t261, A60, H⟩ := H
   replace H : (if t261 = true then (some a0) else ((math_normalize.f a0).bind fun bt262 => (if (wrap64 ((wrap64 (a1 + bt262.2)) + (wrap64 ((Go.bits .and .i64 (wrap64 ((fbits bt262.1) / 4503599627370496)) 2047) - 1023)))) < (-1075) then ((math_Copysign.f 0 bt262.1).bind fun t264 => (some t264)) else (if (wrap64 ((wrap64 (a1 + bt262.2)) + (wrap64 ((Go.bits .and .i64 (wrap64 ((fbits bt262.1) / 4503599627370496)) 2047) - 1023)))) > 1023 then (if (FloatKind.f64.format.order bt262.1 0 == some .lt) = true then ((math_Inf.f (-1)).bind fun t265 => (some t265)) else ((math_Inf.f 1).bind fun t266 => (some t266))) else (if (wrap64 ((wrap64 (a1 + bt262.2)) + (wrap64 ((Go.bits .and .i64 (wrap64 ((fbits bt262.1) / 4503599627370496)) 2047) - 1023)))) < (-1022) then ((floatBits .mul .f64 4368491638549381120 (fof (Go.bits .or .u64 (Go.bits .andNot .u64 (fbits bt262.1) 9218868437227405312) (IntKind.u64.wrap ((IntKind.u64.wrap (wrap64 ((wrap64 ((wrap64 ((wrap64 (a1 + bt262.2)) + (wrap64 ((Go.bits .and .i64 (wrap64 ((fbits bt262.1) / 4503599627370496)) 2047) - 1023)))) + 53)) + 1023))) * 4503599627370496))))).bind fun t267 => (some t267)) else ((floatBits .mul .f64 4607182418800017408 (fof (Go.bits .or .u64 (Go.bits .andNot .u64 (fbits bt262.1) 9218868437227405312) (IntKind.u64.wrap ((IntKind.u64.wrap (wrap64 ((wrap64 ((wrap64 (a1 + bt262.2)) + (wrap64 ((Go.bits .and .i64 (wrap64 ((fbits bt262.1) / 4503599627370496)) 2047) - 1023)))) + 1023))) * 4503599627370496))))).bind fun t268 => (some t268))))))) = some r := H
   have A6 := Aside0.mk A60
   clear A60
   by_cases c7 : t261 = true
   ·subst c7
    have H1 : (some a0) = some r := by rw [if_pos rfl] at H; exact H
    clear H
    have H := H1
    clear H1
    obtain rfl := Option.some.inj H
    go_enter Tryz.func181, Tryz.ntmps181
    go_wp2_with (first | ((with_reducible refine gate_callee (f := 194) rfl ?_); refine goesL_ (some 14) rfl rfl Tryz.func194 (by kernel_rfl) rfl #[.float .f64 a0, .int .i64 0] rfl (by (try simp only [List.map_toArray, List.map_cons, List.map_nil]); first | done | rfl | (simp only [List.length_drop, List.length_take]; rfl)) ?_; (with_reducible refine (math_IsInf.calls a0 0 false _ A4.out).mono ?_); rintro e w' ⟨rfl, ⟨nd, rfl⟩⟩; refine ⟨_, rfl, ?_⟩) | (go_at_call 195; (with_reducible refine (math_IsNaN.calls a0 true _ A6.out).mono ?_); rintro e w' ⟨rfl, ⟨nd, rfl⟩⟩))
    go_ret
    exact ⟨by first | rfl | (simp; done) | (simp [*]; done), by repeat (first | exact Drawn0.refl _ | apply Drawn0.step)⟩
   ·replace c7 := Bool.eq_false_iff.mpr c7
    subst c7
    have H1 : ((math_normalize.f a0).bind fun bt262 => (if (wrap64 ((wrap64 (a1 + bt262.2)) + (wrap64 ((Go.bits .and .i64 (wrap64 ((fbits bt262.1) / 4503599627370496)) 2047) - 1023)))) < (-1075) then ((math_Copysign.f 0 bt262.1).bind fun t264 => (some t264)) else (if (wrap64 ((wrap64 (a1 + bt262.2)) + (wrap64 ((Go.bits .and .i64 (wrap64 ((fbits bt262.1) / 4503599627370496)) 2047) - 1023)))) > 1023 then (if (FloatKind.f64.format.order bt262.1 0 == some .lt) = true then ((math_Inf.f (-1)).bind fun t265 => (some t265)) else ((math_Inf.f 1).bind fun t266 => (some t266))) else (if (wrap64 ((wrap64 (a1 + bt262.2)) + (wrap64 ((Go.bits .and .i64 (wrap64 ((fbits bt262.1) / 4503599627370496)) 2047) - 1023)))) < (-1022) then ((floatBits .mul .f64 4368491638549381120 (fof (Go.bits .or .u64 (Go.bits .andNot .u64 (fbits bt262.1) 9218868437227405312) (IntKind.u64.wrap ((IntKind.u64.wrap (wrap64 ((wrap64 ((wrap64 ((wrap64 (a1 + bt262.2)) + (wrap64 ((Go.bits .and .i64 (wrap64 ((fbits bt262.1) / 4503599627370496)) 2047) - 1023)))) + 53)) + 1023))) * 4503599627370496))))).bind fun t267 => (some t267)) else ((floatBits .mul .f64 4607182418800017408 (fof (Go.bits .or .u64 (Go.bits .andNot .u64 (fbits bt262.1) 9218868437227405312) (IntKind.u64.wrap ((IntKind.u64.wrap (wrap64 ((wrap64 ((wrap64 (a1 + bt262.2)) + (wrap64 ((Go.bits .and .i64 (wrap64 ((fbits bt262.1) / 4503599627370496)) 2047) - 1023)))) + 1023))) * 4503599627370496))))).bind fun t268 => (some t268)))))) = some r := by rw [if_neg (show ¬ (false = true) by decide)] at H; exact H
    clear H
    have H := H1
    clear H1
    replace H := Option.bind_eq_some_iff.mp H
    obtain ⟨⟨t262, t263⟩, A80, H⟩ := H
    replace H : (if (wrap64 ((wrap64 (a1 + t263)) + (wrap64 ((Go.bits .and .i64 (wrap64 ((fbits t262) / 4503599627370496)) 2047) - 1023)))) < (-1075) then ((math_Copysign.f 0 t262).bind fun t264 => (some t264)) else (if (wrap64 ((wrap64 (a1 + t263)) + (wrap64 ((Go.bits .and .i64 (wrap64 ((fbits t262) / 4503599627370496)) 2047) - 1023)))) > 1023 then (if (FloatKind.f64.format.order t262 0 == some .lt) = true then ((math_Inf.f (-1)).bind fun t265 => (some t265)) else ((math_Inf.f 1).bind fun t266 => (some t266))) else (if (wrap64 ((wrap64 (a1 + t263)) + (wrap64 ((Go.bits .and .i64 (wrap64 ((fbits t262) / 4503599627370496)) 2047) - 1023)))) < (-1022) then ((floatBits .mul .f64 4368491638549381120 (fof (Go.bits .or .u64 (Go.bits .andNot .u64 (fbits t262) 9218868437227405312) (IntKind.u64.wrap ((IntKind.u64.wrap (wrap64 ((wrap64 ((wrap64 ((wrap64 (a1 + t263)) + (wrap64 ((Go.bits .and .i64 (wrap64 ((fbits t262) / 4503599627370496)) 2047) - 1023)))) + 53)) + 1023))) * 4503599627370496))))).bind fun t267 => (some t267)) else ((floatBits .mul .f64 4607182418800017408 (fof (Go.bits .or .u64 (Go.bits .andNot .u64 (fbits t262) 9218868437227405312) (IntKind.u64.wrap ((IntKind.u64.wrap (wrap64 ((wrap64 ((wrap64 (a1 + t263)) + (wrap64 ((Go.bits .and .i64 (wrap64 ((fbits t262) / 4503599627370496)) 2047) - 1023)))) + 1023))) * 4503599627370496))))).bind fun t268 => (some t268))))) = some r := H
    have A8 := Aside0.mk A80
    clear A80
    by_cases c9 : (wrap64 ((wrap64 (a1 + t263)) + (wrap64 ((Go.bits .and .i64 (wrap64 ((fbits t262) / 4503599627370496)) 2047) - 1023)))) < (-1075)
    ·rw [if_pos c9] at H
     have c9b0 : decide ((wrap64 ((wrap64 (a1 + t263)) + (wrap64 ((Go.bits .and .i64 (wrap64 ((fbits t262) / 4503599627370496)) 2047) - 1023)))) < (-1075)) = true := decide_eq_true c9
     clear c9
     replace H := Option.bind_eq_some_iff.mp H
     obtain ⟨t264, A100, H⟩ := H
     replace H : (some t264) = some r := H
     have A10 := Aside0.mk A100
     clear A100
     obtain rfl := Option.some.inj H
     go_enter Tryz.func181, Tryz.ntmps181
     go_wp2_with (first | ((with_reducible refine gate_callee (f := 194) rfl ?_); refine goesL_ (some 14) rfl rfl Tryz.func194 (by kernel_rfl) rfl #[.float .f64 a0, .int .i64 0] rfl (by (try simp only [List.map_toArray, List.map_cons, List.map_nil]); first | done | rfl | (simp only [List.length_drop, List.length_take]; rfl)) ?_; (with_reducible refine (math_IsInf.calls a0 0 false _ A4.out).mono ?_); rintro e w' ⟨rfl, ⟨nd, rfl⟩⟩; refine ⟨_, rfl, ?_⟩) | (go_at_call 195; (with_reducible refine (math_IsNaN.calls a0 false _ A6.out).mono ?_); rintro e w' ⟨rfl, ⟨nd, rfl⟩⟩) | ((with_reducible refine gate_callee (f := 196) rfl ?_); refine goesL_ (some 22) rfl rfl Tryz.func196 (by kernel_rfl) rfl #[.float .f64 a0] rfl (by (try simp only [List.map_toArray, List.map_cons, List.map_nil]); first | done | rfl | (simp only [List.length_drop, List.length_take]; rfl)) ?_; (with_reducible refine (math_normalize.calls a0 t262 t263 _ A8.out).mono ?_); rintro e w' ⟨rfl, ⟨nd, rfl⟩⟩; refine ⟨_, rfl, ?_⟩) | ((with_reducible refine gate_callee (f := 193) rfl ?_); refine goesL_ (some 40) rfl rfl Tryz.func193 (by kernel_rfl) rfl #[.float .f64 0, .float .f64 t262] rfl (by (try simp only [List.map_toArray, List.map_cons, List.map_nil]); first | done | rfl | (simp only [List.length_drop, List.length_take]; rfl)) ?_; (with_reducible refine (math_Copysign.calls 0 t262 t264 _ A10.out).mono ?_); rintro e w' ⟨rfl, ⟨nd, rfl⟩⟩; refine ⟨_, rfl, ?_⟩))
     go_ret
     exact ⟨by first | rfl | (simp; done) | (simp [*]; done), by repeat (first | exact Drawn0.refl _ | apply Drawn0.step)⟩
    ·rw [if_neg c9] at H
     have c9b0 : decide ((wrap64 ((wrap64 (a1 + t263)) + (wrap64 ((Go.bits .and .i64 (wrap64 ((fbits t262) / 4503599627370496)) 2047) - 1023)))) < (-1075)) = false := decide_eq_false c9
     clear c9
     by_cases c11 : (wrap64 ((wrap64 (a1 + t263)) + (wrap64 ((Go.bits .and .i64 (wrap64 ((fbits t262) / 4503599627370496)) 2047) - 1023)))) > 1023
     ·rw [if_pos c11] at H
      have c11b0 : decide (1023 < (wrap64 ((wrap64 (a1 + t263)) + (wrap64 ((Go.bits .and .i64 (wrap64 ((fbits t262) / 4503599627370496)) 2047) - 1023))))) = true := decide_eq_true c11
      clear c11
      by_cases c12 : (FloatKind.f64.format.order t262 0 == some .lt) = true
      ·rw [if_pos c12] at H
       have c12b0 : (FloatKind.f64.format.order t262 0 == some .lt) = true := c12
       (try (have c12b1 : decide (FloatKind.f64.format.order t262 0 = some .lt) = true := by simpa using c12))
       (try (have c12b2 : (FloatKind.f64.format.order t262 0 == some .lt) = true := by simpa using c12))
       clear c12
       replace H := Option.bind_eq_some_iff.mp H
       obtain ⟨t265, A130, H⟩ := H
       replace H : (some t265) = some r := H
       have A13 := Aside0.mk A130
       clear A130
       obtain rfl := Option.some.inj H
       go_enter Tryz.func181, Tryz.ntmps181
       go_wp2_with (first | ((with_reducible refine gate_callee (f := 194) rfl ?_); refine goesL_ (some 14) rfl rfl Tryz.func194 (by kernel_rfl) rfl #[.float .f64 a0, .int .i64 0] rfl (by (try simp only [List.map_toArray, List.map_cons, List.map_nil]); first | done | rfl | (simp only [List.length_drop, List.length_take]; rfl)) ?_; (with_reducible refine (math_IsInf.calls a0 0 false _ A4.out).mono ?_); rintro e w' ⟨rfl, ⟨nd, rfl⟩⟩; refine ⟨_, rfl, ?_⟩) | (go_at_call 195; (with_reducible refine (math_IsNaN.calls a0 false _ A6.out).mono ?_); rintro e w' ⟨rfl, ⟨nd, rfl⟩⟩) | ((with_reducible refine gate_callee (f := 196) rfl ?_); refine goesL_ (some 22) rfl rfl Tryz.func196 (by kernel_rfl) rfl #[.float .f64 a0] rfl (by (try simp only [List.map_toArray, List.map_cons, List.map_nil]); first | done | rfl | (simp only [List.length_drop, List.length_take]; rfl)) ?_; (with_reducible refine (math_normalize.calls a0 t262 t263 _ A8.out).mono ?_); rintro e w' ⟨rfl, ⟨nd, rfl⟩⟩; refine ⟨_, rfl, ?_⟩) | ((with_reducible refine gate_callee (f := 202) rfl ?_); refine goesL_ (some 45) rfl rfl Tryz.func202 (by kernel_rfl) rfl #[.int .i64 (-1)] rfl (by (try simp only [List.map_toArray, List.map_cons, List.map_nil]); first | done | rfl | (simp only [List.length_drop, List.length_take]; rfl)) ?_; (with_reducible refine (math_Inf.calls (-1) t265 _ A13.out).mono ?_); rintro e w' ⟨rfl, ⟨nd, rfl⟩⟩; refine ⟨_, rfl, ?_⟩))
       go_ret
       exact ⟨by first | rfl | (simp; done) | (simp [*]; done), by repeat (first | exact Drawn0.refl _ | apply Drawn0.step)⟩
      ·rw [if_neg c12] at H
       have c12b0 : (FloatKind.f64.format.order t262 0 == some .lt) = false := by simpa using c12
       (try (have c12b1 : decide (FloatKind.f64.format.order t262 0 = some .lt) = false := by simpa using c12))
       (try (have c12b2 : (FloatKind.f64.format.order t262 0 == some .lt) = false := by simpa using c12))
       (try (have c12b3 : ¬ (FloatKind.f64.format.order t262 0 = some .lt) := by simpa using c12))
       clear c12
       replace H := Option.bind_eq_some_iff.mp H
       obtain ⟨t266, A140, H⟩ := H
       replace H : (some t266) = some r := H
       have A14 := Aside0.mk A140
       clear A140
       obtain rfl := Option.some.inj H
       go_enter Tryz.func181, Tryz.ntmps181
       go_wp2_with (first | ((with_reducible refine gate_callee (f := 194) rfl ?_); refine goesL_ (some 14) rfl rfl Tryz.func194 (by kernel_rfl) rfl #[.float .f64 a0, .int .i64 0] rfl (by (try simp only [List.map_toArray, List.map_cons, List.map_nil]); first | done | rfl | (simp only [List.length_drop, List.length_take]; rfl)) ?_; (with_reducible refine (math_IsInf.calls a0 0 false _ A4.out).mono ?_); rintro e w' ⟨rfl, ⟨nd, rfl⟩⟩; refine ⟨_, rfl, ?_⟩) | (go_at_call 195; (with_reducible refine (math_IsNaN.calls a0 false _ A6.out).mono ?_); rintro e w' ⟨rfl, ⟨nd, rfl⟩⟩) | ((with_reducible refine gate_callee (f := 196) rfl ?_); refine goesL_ (some 22) rfl rfl Tryz.func196 (by kernel_rfl) rfl #[.float .f64 a0] rfl (by (try simp only [List.map_toArray, List.map_cons, List.map_nil]); first | done | rfl | (simp only [List.length_drop, List.length_take]; rfl)) ?_; (with_reducible refine (math_normalize.calls a0 t262 t263 _ A8.out).mono ?_); rintro e w' ⟨rfl, ⟨nd, rfl⟩⟩; refine ⟨_, rfl, ?_⟩) | ((with_reducible refine gate_callee (f := 202) rfl ?_); refine goesL_ (some 46) rfl rfl Tryz.func202 (by kernel_rfl) rfl #[.int .i64 1] rfl (by (try simp only [List.map_toArray, List.map_cons, List.map_nil]); first | done | rfl | (simp only [List.length_drop, List.length_take]; rfl)) ?_; (with_reducible refine (math_Inf.calls 1 t266 _ A14.out).mono ?_); rintro e w' ⟨rfl, ⟨nd, rfl⟩⟩; refine ⟨_, rfl, ?_⟩))
       go_ret
       exact ⟨by first | rfl | (simp; done) | (simp [*]; done), by repeat (first | exact Drawn0.refl _ | apply Drawn0.step)⟩
     ·rw [if_neg c11] at H
      have c11b0 : decide (1023 < (wrap64 ((wrap64 (a1 + t263)) + (wrap64 ((Go.bits .and .i64 (wrap64 ((fbits t262) / 4503599627370496)) 2047) - 1023))))) = false := decide_eq_false c11
      clear c11
      by_cases c15 : (wrap64 ((wrap64 (a1 + t263)) + (wrap64 ((Go.bits .and .i64 (wrap64 ((fbits t262) / 4503599627370496)) 2047) - 1023)))) < (-1022)
      ·rw [if_pos c15] at H
       have c15b0 : decide ((wrap64 ((wrap64 (a1 + t263)) + (wrap64 ((Go.bits .and .i64 (wrap64 ((fbits t262) / 4503599627370496)) 2047) - 1023)))) < (-1022)) = true := decide_eq_true c15
       clear c15
       replace H := Option.bind_eq_some_iff.mp H
       obtain ⟨t267, hfop_, H⟩ := H
       replace H : (some t267) = some r := H
       have hfw16 := fun w_ => run_float_arith (P := Tryz.prog) w_ .mul 69 .f64 4368491638549381120 (fof (Go.bits .or .u64 (Go.bits .andNot .u64 (fbits t262) 9218868437227405312) (IntKind.u64.wrap ((IntKind.u64.wrap (wrap64 ((wrap64 ((wrap64 ((wrap64 (a1 + t263)) + (wrap64 ((Go.bits .and .i64 (wrap64 ((fbits t262) / 4503599627370496)) 2047) - 1023)))) + 53)) + 1023))) * 4503599627370496)))) t267 hfop_
       clear hfop_
       obtain rfl := Option.some.inj H
       go_enter Tryz.func181, Tryz.ntmps181
       go_wp2_with (first | ((with_reducible refine gate_callee (f := 194) rfl ?_); refine goesL_ (some 14) rfl rfl Tryz.func194 (by kernel_rfl) rfl #[.float .f64 a0, .int .i64 0] rfl (by (try simp only [List.map_toArray, List.map_cons, List.map_nil]); first | done | rfl | (simp only [List.length_drop, List.length_take]; rfl)) ?_; (with_reducible refine (math_IsInf.calls a0 0 false _ A4.out).mono ?_); rintro e w' ⟨rfl, ⟨nd, rfl⟩⟩; refine ⟨_, rfl, ?_⟩) | (go_at_call 195; (with_reducible refine (math_IsNaN.calls a0 false _ A6.out).mono ?_); rintro e w' ⟨rfl, ⟨nd, rfl⟩⟩) | ((with_reducible refine gate_callee (f := 196) rfl ?_); refine goesL_ (some 22) rfl rfl Tryz.func196 (by kernel_rfl) rfl #[.float .f64 a0] rfl (by (try simp only [List.map_toArray, List.map_cons, List.map_nil]); first | done | rfl | (simp only [List.length_drop, List.length_take]; rfl)) ?_; (with_reducible refine (math_normalize.calls a0 t262 t263 _ A8.out).mono ?_); rintro e w' ⟨rfl, ⟨nd, rfl⟩⟩; refine ⟨_, rfl, ?_⟩))
       go_ret
       exact ⟨by first | rfl | (simp; done) | (simp [*]; done), by repeat (first | exact Drawn0.refl _ | apply Drawn0.step)⟩
      ·rw [if_neg c15] at H
       have c15b0 : decide ((wrap64 ((wrap64 (a1 + t263)) + (wrap64 ((Go.bits .and .i64 (wrap64 ((fbits t262) / 4503599627370496)) 2047) - 1023)))) < (-1022)) = false := decide_eq_false c15
       clear c15
       replace H := Option.bind_eq_some_iff.mp H
       obtain ⟨t268, hfop_, H⟩ := H
       replace H : (some t268) = some r := H
       have hfw17 := fun w_ => run_float_arith (P := Tryz.prog) w_ .mul 69 .f64 4607182418800017408 (fof (Go.bits .or .u64 (Go.bits .andNot .u64 (fbits t262) 9218868437227405312) (IntKind.u64.wrap ((IntKind.u64.wrap (wrap64 ((wrap64 ((wrap64 (a1 + t263)) + (wrap64 ((Go.bits .and .i64 (wrap64 ((fbits t262) / 4503599627370496)) 2047) - 1023)))) + 1023))) * 4503599627370496)))) t268 hfop_
       clear hfop_
       obtain rfl := Option.some.inj H
       go_enter Tryz.func181, Tryz.ntmps181
       go_wp2_with (first | ((with_reducible refine gate_callee (f := 194) rfl ?_); refine goesL_ (some 14) rfl rfl Tryz.func194 (by kernel_rfl) rfl #[.float .f64 a0, .int .i64 0] rfl (by (try simp only [List.map_toArray, List.map_cons, List.map_nil]); first | done | rfl | (simp only [List.length_drop, List.length_take]; rfl)) ?_; (with_reducible refine (math_IsInf.calls a0 0 false _ A4.out).mono ?_); rintro e w' ⟨rfl, ⟨nd, rfl⟩⟩; refine ⟨_, rfl, ?_⟩) | (go_at_call 195; (with_reducible refine (math_IsNaN.calls a0 false _ A6.out).mono ?_); rintro e w' ⟨rfl, ⟨nd, rfl⟩⟩) | ((with_reducible refine gate_callee (f := 196) rfl ?_); refine goesL_ (some 22) rfl rfl Tryz.func196 (by kernel_rfl) rfl #[.float .f64 a0] rfl (by (try simp only [List.map_toArray, List.map_cons, List.map_nil]); first | done | rfl | (simp only [List.length_drop, List.length_take]; rfl)) ?_; (with_reducible refine (math_normalize.calls a0 t262 t263 _ A8.out).mono ?_); rintro e w' ⟨rfl, ⟨nd, rfl⟩⟩; refine ⟨_, rfl, ?_⟩))
       go_ret
       exact ⟨by first | rfl | (simp; done) | (simp [*]; done), by repeat (first | exact Drawn0.refl _ | apply Drawn0.step)⟩
def math_Ldexp.f (a0 : Nat) (a1 : Int) : Option (Nat) := (math_ldexp.f a0 a1).bind fun t269 => (some t269)
set_option maxHeartbeats 8000000 in
set_option maxRecDepth 100000 in
theorem math_Ldexp.calls (a0 : Nat) (a1 : Int) (r : Nat) (w : World) (h : math_Ldexp.f a0 a1 = some r) :
 Calls Tryz.prog 151 #[.float .f64 a0, .int .i64 a1] w fun e w' => e = .returned (.float .f64 r) ∧ Drawn0 w w' := by
 have H : ((math_ldexp.f a0 a1).bind fun t269 => (some t269)) = some r := h
 clear h
 replace H := Option.bind_eq_some_iff.mp H
 obtain ⟨t269, A30, H⟩ := H
 replace H : (some t269) = some r := H
 have A3 := Aside0.mk A30
 clear A30
 obtain rfl := Option.some.inj H
 go_enter Tryz.func151, Tryz.ntmps151
 go_wp2_with (first | ((with_reducible refine gate_callee (f := 181) rfl ?_); refine goesL_ (some 10) rfl rfl Tryz.func181 (by kernel_rfl) rfl #[.float .f64 a0, .int .i64 a1] rfl (by (try simp only [List.map_toArray, List.map_cons, List.map_nil]); first | done | rfl | (simp only [List.length_drop, List.length_take]; rfl)) ?_; (with_reducible refine (math_ldexp.calls a0 a1 t269 _ A3.out).mono ?_); rintro e w' ⟨rfl, ⟨nd, rfl⟩⟩; refine ⟨_, rfl, ?_⟩))
 go_ret
 exact ⟨by first | rfl | (simp; done) | (simp [*]; done), by repeat (first | exact Drawn0.refl _ | apply Drawn0.step)⟩
end Go.Proofs.YtaoichlepfiliaaGreatDoor.R
