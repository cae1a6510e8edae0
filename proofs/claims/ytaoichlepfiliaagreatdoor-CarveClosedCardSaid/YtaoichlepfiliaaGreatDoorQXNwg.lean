/- Lemmas of Nwg. Conditions stand in each. -/
import Derived.Test.YtaoichlepfiliaaGreatDoorQXNwe
import Derived.Test.YtaoichlepfiliaaGreatDoorQXMdH
import Derived.Test.YtaoichlepfiliaaGreatDoorQXMdx
set_option linter.unusedSimpArgs false
set_option linter.unusedVariables false
section
namespace Go.Proofs.YtaoichlepfiliaaGreatDoor.Nw
set_option exponentiation.threshold 4000
open Go.RowKit Go.Proofs.YtaoichlepfiliaaGreatDoor.FltP Go.Proofs.YtaoichlepfiliaaGreatDoor.R Go.Proofs.YtaoichlepfiliaaGreatDoor.E Go.Proofs.YtaoichlepfiliaaGreatDoor.O Go.Proofs.YtaoichlepfiliaaGreatDoorW.PrintWords Go.Proofs.YtaoichlepfiliaaGreatDoorW.PrintLast
open Go.Proofs.YtaoichlepfiliaaGreatDoor.NumP Go.Proofs.YtaoichlepfiliaaGreatDoor.Adm
theorem zero_fin : Fini 0 := ⟨by decide, by decide⟩
theorem zero_val : fval 0 = 0 := by decide
theorem two53 : Fini 4845873199050653696 ∧ fsig 4845873199050653696 = 2 ^ 52 ∧ fpl 4845873199050653696 = 1075 ∧ fsgn 4845873199050653696 = false := ⟨⟨by decide, by decide⟩, by decide, by decide, by decide⟩
theorem of_parts (y : Nat) (hy : Fini y) (hp : y < 2 ^ 63) (hne : fmag y ≠ 0) : ∃ (s f m : Nat) (e : Int), Ev (fun k => math_Frexp.f k y) (f, e) ∧ floatBits .mul .f64 f 4845873199050653696 = some m ∧ floatToIntVal .f64 m .u64 = some (s : Int) ∧ -1073 ≤ e ∧ e ≤ 1024 ∧ s < 2 ^ 53 ∧ (fmag y : Int) * 2 ^ 54 = (s : Int) * 2 ^ (24 * ((47 : Nat) : Int) + (e - 53)).toNat := by
 obtain ⟨s, e, s1, s2, e1, e2, hv, hev⟩ := frexp_ev hy hp hne
 obtain ⟨g1, g2, g3, g4⟩ := half_fin s s1 s2
 obtain ⟨t1, t2, t3, t4⟩ := two53
 have hex : fsig (s - 2 ^ 52 + 1022 * 2 ^ 52) * fsig 4845873199050653696 * 2 ^ (fpl (s - 2 ^ 52 + 1022 * 2 ^ 52) + fpl 4845873199050653696 - 1074) = s * 2 ^ 1074 := by
  rw [g2, g3, t2, t3, Nat.mul_assoc, ← Nat.pow_add]
 have hrn : rnd (s * 2 ^ 1074) = s * 2 ^ 1074 := rnd_exact rfl s2
 obtain ⟨r, r1, r2, r3, r4⟩ := mul_val g1 t1 (.inl (by rw [g3, t3]; omega)) (by
  rw [hex, hrn]
  have := Nat.mul_lt_mul_of_pos_right s2 (Nat.two_pow_pos 1074)
  rw [← Nat.pow_add] at this
  exact Nat.lt_of_lt_of_le this (Nat.pow_le_pow_right (by decide) (by omega)))
 rw [hex, hrn] at r3
 rw [g4, t4] at r4
 refine ⟨s, _, r, e, hev, r1, ?_, e1, e2, s2, ?_⟩
 ·unfold floatToIntVal
  rw [toInt_val r2, r4, r3, Nat.mul_div_cancel _ (Nat.two_pow_pos _)]
  simp only [Bool.xor_self, Bool.false_eq_true, if_false]
  rw [if_pos]
  have hmin : IntKind.u64.min = 0 := rfl
  have hmax : IntKind.u64.max = 18446744073709551615 := rfl
  rw [hmin, hmax]; omega
 ·have h1 : ((fmag y * 2 ^ 52 : Nat) : Int) = ((s * 2 ^ (e + 1073).toNat : Nat) : Int) := by rw [hv]
  simp only [Int.natCast_mul, Int.natCast_pow] at h1
  rw [show (24 * ((47 : Nat) : Int) + (e - 53)).toNat = (e + 1073).toNat + 2 from by omega, Int.pow_add, ← Int.mul_assoc]
  rw [show (54 : Nat) = 52 + 2 from rfl, Int.pow_add, ← Int.mul_assoc]
  exact congrArg (· * (2 : Int) ^ 2) h1
theorem two53_lt {s : Nat} (h : s < 2 ^ 53) : (s : Int) < 18446744073709551616 := by
 have : (2 : Nat) ^ 53 = 9007199254740992 := by decide
 omega
theorem of_steps {y : Nat} (hy : Fini y) (hp : y < 2 ^ 63) (hne : fmag y ≠ 0) : ∃ (s f m : Nat) (e : Int), (∀ w : World, Calls Tryz.prog 126 #[.float .f64 y] w fun e_ w' => e_ = .returned (.tuple #[.float .f64 f, .int .i64 e]) ∧ Drawn0 w w') ∧ floatBits .mul .f64 f 4845873199050653696 = some m ∧ floatToIntVal .f64 m .u64 = some (s : Int) ∧ IntKind.i64.wrap (e - 53) = e - 53 ∧
 (∀ w : World, Calls Tryz.prog 106 #[.int .u64 (s : Int), .int .i64 (e - 53)] w fun e w' => ∃ v, e = .returned v ∧ NumAt w' v 47 1010 ((fmag y : Int) * 2 ^ 54) ∧ Below w.heap.size w w') := by
 obtain ⟨s, f, m, e, h1, h2, h3, h4, h5, h6, h7⟩ := of_parts y hy hp hne
 obtain ⟨k, hk⟩ := h1.rounds
 refine ⟨s, f, m, e, fun w => math_Frexp.calls k y f e w hk, h2, h3, wrapI _ (by omega) (by omega), fun w => ?_⟩
 rw [h7]
 exact power_call s (e - 53) w (by omega) (two53_lt h6) (by omega) (by omega) 47 (by omega)
theorem below_drawn {w w' : World} (h : Drawn0 w w') : Below w.heap.size w w' := by
 obtain ⟨n, rfl⟩ := h.out
 exact pw_below_drewN (Below.refl _ _) n
theorem neg_bits {x : Nat} (hx : Fini x) (hneg : fval x < 0) : Fini (fneg x) ∧ fneg x < 2 ^ 63 ∧ (fmag (fneg x) : Int) = -fval x ∧ fmag (fneg x) ≠ 0 := by
 have hy := hx.neg
 have hyv := fval_neg hx
 have hyp : fneg x < 2 ^ 63 := by
  apply Classical.byContradiction
  intro hge
  have := hy.2
  have : fsgn (fneg x) = true := by unfold fsgn; rw [show fneg x / 2 ^ 63 % 2 = 1 from by omega]; rfl
  have hv2 : fval (fneg x) = -(fmag (fneg x) : Int) := by unfold fval; rw [this]; rfl
  omega
 have hmv : (fmag (fneg x) : Int) = -fval x := by rw [← fval_nonneg hyp, hyv]
 exact ⟨hy, hyp, hmv, by omega⟩
theorem pos_bits {x : Nat} (hx : Fini x) (h0 : fval x ≠ 0) (hneg : ¬ fval x < 0) : x < 2 ^ 63 ∧ (fmag x : Int) = fval x ∧ fmag x ≠ 0 := by
 have hxp : x < 2 ^ 63 := by
  apply Classical.byContradiction
  intro hge
  have := hx.2
  have hs : fsgn x = true := by unfold fsgn; rw [show x / 2 ^ 63 % 2 = 1 from by omega]; rfl
  have hv2 : fval x = -(fmag x : Int) := by unfold fval; rw [hs]; rfl
  omega
 have hmv : (fmag x : Int) = fval x := (fval_nonneg hxp).symm
 exact ⟨hxp, hmv, by omega⟩
set_option maxRecDepth 100000 in
set_option maxHeartbeats 4000000 in
theorem of_call {x : Nat} (hx : Fini x) (w : World) :
 Calls Tryz.prog 103 #[.float .f64 x] w fun e w' => ∃ v, e = .returned v ∧ NumAt w' v 47 1010 (fval x * 2 ^ 54) ∧ Below w.heap.size w w' := by
 have hu := Tryz.underlying131
 have n1 : (FloatKind.f64.format.order x x != some .eq) = false := by rw [bne, eq_fin hx hx]; simp
 have n2 : (FloatKind.f64.format.order 0 0 != some .eq) = false := by rw [bne, eq_fin zero_fin zero_fin]; simp
 have hsub := fun w_ => run_float_arith (P := Tryz.prog) w_ .sub 69 .f64 x x 0 (sub_self hx)
 have hout := blk_new w (.cells #[.int .i64 0, .slice none 0 0, .int .i64 0] 131)
 have hB0 := below_alloc (Below.refl w.heap.size w) (.cells #[.int .i64 0, .slice none 0 0, .int .i64 0] 131)
 by_cases h0 : fval x = 0
 ·have e0 : (FloatKind.f64.format.order x 0 == some .eq) = true := by rw [eq_fin hx zero_fin, zero_val]; simpa using h0
  have HR := Aside0.mk (show fval x * 2 ^ 54 = 0 by rw [h0, Int.zero_mul])
  have HB := Aside0.mk (And.intro hout hB0)
  clear h0 hout hB0
  go_enter Tryz.func103, Tryz.ntmps103
  go_wp2
  refine bodyPost_ret (results_cell_row rfl _ _ w.heap.size 131 #[.int .i64 0, .slice none 0 0, .int .i64 0] (0, 0) _ rfl HB.out.1 Tryz.underlying131 rfl (by kernel_rfl)) rfl ⟨_, rfl, ?_, HB.out.2⟩
  rw [HR.out]
  exact NumAt.zero _ _ _
 ·have e0 : (FloatKind.f64.format.order x 0 == some .eq) = false := by rw [eq_fin hx zero_fin, zero_val]; simpa using h0
  by_cases hneg : fval x < 0
  ·obtain ⟨hy, hyp, hmv, hne⟩ := neg_bits hx hneg
   have l0 : (FloatKind.f64.format.order x 0 == some .lt) = true := by rw [lt_fin hx zero_fin, zero_val]; simpa using hneg
   obtain ⟨s, f, m, e, q1, q2, q3, q4, q5⟩ := of_steps hy hyp hne
   rw [hmv] at q5
   have hmul := fun w_ => run_float_arith (P := Tryz.prog) w_ .mul 69 .f64 f 4845873199050653696 m q2
   have hcv := fun w_ => run_convert_float_int (P := Tryz.prog) w_ 69 139 .f64 .u64 m s (by rw [Tryz.underlying69]; rfl) Tryz.underlying139 q3
   have HN := Aside0.mk (And.intro hneg hout)
   clear q2 q3 hy hyp hmv hne hneg hx hout h0
   go_enter Tryz.func103, Tryz.ntmps103
   go_wp2_with (first
    | (go_at_call 126; (with_reducible refine (q1 _).mono ?_); rintro u w3 ⟨rfl, hd3⟩; have hB3 := hB0.trans ((below_drawn hd3).mono hB0.size); have hN3 := blk_below HN.out.2 (below_drawn hd3); have HN3 := Aside0.mk hN3; clear hd3 hN3)
    | (go_at_call 106; (with_reducible refine (q5 _).mono ?_); rintro u w5 ⟨v5, rfl, hN5, hb5⟩; have hB5 := hB3.trans (hb5.mono hB3.size); have hN5' := blk_below HN3.out hb5; obtain ⟨S5, D5, E5, A5, c5, rfl, hC5, hc5, hW5⟩ := hN5; obtain ⟨r0, r1, r2, r3, r4, r5⟩ := num_cells hN5'; have HN5 := Aside0.mk hN5'; have HW5 := Aside0.mk hW5; have hlt := blk_lt hN5'; clear hb5 hN5' hW5))
   have hr6 := num_put (y0 := .int .i64 (-1)) (y1 := .slice A5 D5.length c5) (y2 := .int .i64 E5) HN5.out
   have hp6 := below_put (y0 := .int .i64 (-1)) (y1 := .slice A5 D5.length c5) (y2 := .int .i64 E5) hB5 (Nat.le_refl _)
   have hd6 := dig_put (y0 := .int .i64 (-1)) (y1 := .slice A5 D5.length c5) (y2 := .int .i64 E5) hC5 HN5.out
   refine bodyPost_ret (results_cell_row rfl _ _ w.heap.size 131 #[.int .i64 (-1), .slice A5 D5.length c5, .int .i64 E5] (0, 0) _ rfl (blk_alloc hr6 _) Tryz.underlying131 rfl (by kernel_rfl)) rfl ⟨_, rfl, ?_, below_alloc hp6 _⟩
   have hS5 : S5 = 1 := by
    rw [HW5.out.sign]
    exact Int.sign_eq_one_of_pos (Int.mul_pos (by have := HN.out.1; omega) (Int.pow_pos (by omega)))
   have hneg := HW5.out.neg
   rw [hS5] at hneg
   rw [show fval x * 2 ^ 54 = -(-fval x * 2 ^ 54) from by grind]
   exact ⟨-1, D5, E5, A5, c5, rfl, hd6.below (below_alloc (Below.refl _ _) _), hc5, hneg⟩
  ·obtain ⟨hxp, hmv, hne⟩ := pos_bits hx h0 hneg
   have l0 : (FloatKind.f64.format.order x 0 == some .lt) = false := by rw [lt_fin hx zero_fin, zero_val]; simpa using hneg
   obtain ⟨s, f, m, e, q1, q2, q3, q4, q5⟩ := of_steps hx hxp hne
   rw [hmv] at q5
   have hmul := fun w_ => run_float_arith (P := Tryz.prog) w_ .mul 69 .f64 f 4845873199050653696 m q2
   have hcv := fun w_ => run_convert_float_int (P := Tryz.prog) w_ 69 139 .f64 .u64 m s (by rw [Tryz.underlying69]; rfl) Tryz.underlying139 q3
   have HN := Aside0.mk (And.intro hneg hout)
   clear q2 q3 hxp hmv hne hneg hx hout h0
   go_enter Tryz.func103, Tryz.ntmps103
   go_wp2_with (first
    | (go_at_call 126; (with_reducible refine (q1 _).mono ?_); rintro u w3 ⟨rfl, hd3⟩; have hB3 := hB0.trans ((below_drawn hd3).mono hB0.size); have hN3 := blk_below HN.out.2 (below_drawn hd3); have HN3 := Aside0.mk hN3; clear hd3 hN3)
    | (go_at_call 106; (with_reducible refine (q5 _).mono ?_); rintro u w5 ⟨v5, rfl, hN5, hb5⟩; have hB5 := hB3.trans (hb5.mono hB3.size); have hN5' := blk_below HN3.out hb5; obtain ⟨S5, D5, E5, A5, c5, rfl, hC5, hc5, hW5⟩ := hN5; obtain ⟨r0, r1, r2, r3, r4, r5⟩ := num_cells hN5'; have HN5 := Aside0.mk hN5'; have HW5 := Aside0.mk hW5; have hlt := blk_lt hN5'; clear hb5 hN5' hW5))
   have hr6 := num_put (y0 := .int .i64 S5) (y1 := .slice A5 D5.length c5) (y2 := .int .i64 E5) HN5.out
   have hp6 := below_put (y0 := .int .i64 S5) (y1 := .slice A5 D5.length c5) (y2 := .int .i64 E5) hB5 (Nat.le_refl _)
   have hd6 := dig_put (y0 := .int .i64 S5) (y1 := .slice A5 D5.length c5) (y2 := .int .i64 E5) hC5 HN5.out
   refine bodyPost_ret (results_cell_row rfl _ _ w.heap.size 131 #[.int .i64 S5, .slice A5 D5.length c5, .int .i64 E5] (0, 0) _ rfl (blk_alloc hr6 _) Tryz.underlying131 rfl (by kernel_rfl)) rfl ⟨_, rfl, ?_, below_alloc hp6 _⟩
   exact ⟨S5, D5, E5, A5, c5, rfl, hd6.below (below_alloc (Below.refl _ _) _), hc5, HW5.out⟩
end Go.Proofs.YtaoichlepfiliaaGreatDoor.Nw
end
section
namespace Go.Proofs.YtaoichlepfiliaaGreatDoor.Nw
set_option exponentiation.threshold 4000
open Go.RowKit Go.Proofs.YtaoichlepfiliaaGreatDoor.FltP Go.Proofs.YtaoichlepfiliaaGreatDoor.R Go.Proofs.YtaoichlepfiliaaGreatDoor.E Go.Proofs.YtaoichlepfiliaaGreatDoor.O Go.Proofs.YtaoichlepfiliaaGreatDoorW.PrintWords Go.Proofs.YtaoichlepfiliaaGreatDoorW.PrintLast
open Go.Proofs.YtaoichlepfiliaaGreatDoor.NumP Go.Proofs.YtaoichlepfiliaaGreatDoor.Adm
theorem order_inf_inf {x : Nat} (h : x % 2 ^ 63 = 2047 * 2 ^ 52) : FloatKind.f64.format.order x x = some .eq := by
 rw [fmt_eq]; unfold Ieee.Format.order; rw [read_inf h]; simp only [Ieee.Datum.order]; cases fsgn x <;> rfl
theorem sub_inf {P : Program} {x : Nat} (h : x % 2 ^ 63 = 2047 * 2 ^ 52) : ∃ b : World → Nat, (∀ w, 2047 * 2 ^ 52 < b w % 2 ^ 63) ∧ ∀ t w, (binOp .sub t (.float .f64 x) (.float .f64 x)).run P w = .ok (.float .f64 (b w)) w.drew := by
 have h0 : FloatKind.f64.format.sub x x = none := by
  rw [fmt_eq]; unfold Ieee.Format.sub; rw [read_inf h]; cases fsgn x <;> rfl
 refine ⟨fun w => (Question.nanBits .f64 x x).cut (w.tape w.drawn (.nanBits .f64 x x)), fun w => ?_, fun t w => ?_⟩
 ·simp only [Question.cut]
  generalize w.tape w.drawn (.nanBits .f64 x x) = n
  have h1 : n / 2 % (2 ^ 52 - 1) < 2 ^ 52 - 1 := Nat.mod_lt _ (by decide)
  have h2 : n % 2 < 2 := Nat.mod_lt _ (by decide)
  generalize n / 2 % (2 ^ 52 - 1) = u at *
  generalize n % 2 = v at *
  omega
 ·simp [binOp, Op.floatArith, h0, Question.forced]
theorem nan_none {x : Nat} (h : 2047 * 2 ^ 52 < x % 2 ^ 63) : goodB x = false := decide_eq_false (fun hg : GoodF x => by have := hg.1.1; omega)
theorem inf_none {x : Nat} (h : x % 2 ^ 63 = 2047 * 2 ^ 52) : goodB x = false := decide_eq_false (fun hg : GoodF x => by have := hg.1.1; omega)
theorem fit_top (x : Nat) : ((((fval x * 2 ^ 54).natAbs : Nat) : Int) - 1 * 2 ^ (24 * ((47 : Nat) : Int) + 100).toNat).sign ≤ 0 ↔ fmag x ≤ 2 ^ 1174 := by
 have hp54 : (0 : Int) < 2 ^ 54 := Int.pow_pos (by omega)
 rw [Int.one_mul, Int.natAbs_mul, natAbs_fval, show (2 ^ 54 : Int).natAbs = 2 ^ 54 from rfl, show (24 * ((47 : Nat) : Int) + 100).toNat = 1174 + 54 from rfl]
 have key : ((fmag x * 2 ^ 54 : Nat) : Int) - 2 ^ (1174 + 54) = ((fmag x : Int) - 2 ^ 1174) * 2 ^ 54 := by
  rw [Int.natCast_mul, Int.pow_add, Int.sub_mul]; rfl
 rw [key, Int.sign_mul, Int.sign_eq_one_of_pos hp54, Int.mul_one]
 have hc : ((2 ^ 1174 : Nat) : Int) = 2 ^ 1174 := by simp
 constructor
 ·intro h
  have := Int.sign_nonpos_iff.1 h
  apply Int.ofNat_le.1
  rw [hc]; omega
 ·intro h
  have := Int.ofNat_le.2 h
  rw [hc] at this
  exact Int.sign_nonpos_iff.2 (by omega)
theorem fit_low {x : Nat} {l : Int} (h : ∀ j : Nat, (2 : Int) ^ j ∣ fval x * 2 ^ 54 ↔ (j : Int) ≤ l + 24 * ((47 : Nat) : Int)) : -100 ≤ l ↔ 2 ^ 974 ∣ fmag x := by
 have hp54 : (0 : Int) < 2 ^ 54 := Int.pow_pos (by omega)
 have h1 := h 1028
 rw [show (1028 : Nat) = 974 + 54 from rfl, Int.pow_add] at h1
 have h2 : (2 : Int) ^ 974 * 2 ^ 54 ∣ fval x * 2 ^ 54 ↔ 2 ^ 974 ∣ fmag x := by
  constructor
  ·intro h
   have := Int.dvd_of_mul_dvd_mul_right (Int.ne_of_gt hp54) h
   rw [← Int.dvd_natAbs, natAbs_fval] at this
   exact Int.ofNat_dvd.1 (by rw [Int.natCast_pow]; exact this)
  ·intro h
   refine Int.mul_dvd_mul_right _ ?_
   rw [← Int.dvd_natAbs, natAbs_fval]
   have := Int.ofNat_dvd.2 h
   rw [Int.natCast_pow] at this; exact this
 rw [← h2, h1]
 omega
set_option maxRecDepth 100000 in
set_option maxHeartbeats 4000000 in
theorem coord05_fin {x : Nat} (hx : Fini x) (w : World) : Calls Tryz.prog 80 #[.float .f64 x] w fun e w' => e = .returned (.bool (goodB x)) ∧ Below w.heap.size w w' := by
 have hu := Tryz.underlying131
 have n1 : (FloatKind.f64.format.order x x != some .eq) = false := by rw [bne, eq_fin hx hx]; simp
 have n2 : (FloatKind.f64.format.order 0 0 != some .eq) = false := by rw [bne, eq_fin zero_fin zero_fin]; simp
 have hsub := fun w_ => run_float_arith (P := Tryz.prog) w_ .sub 69 .f64 x x 0 (sub_self hx)
 by_cases h0 : fval x = 0
 ·have e0 : (FloatKind.f64.format.order x 0 == some .eq) = true := by rw [eq_fin hx zero_fin, zero_val]; simpa using h0
  have hg : goodB x = true := by
   have hm := (fval_zero_iff x).1 h0
   exact decide_eq_true (p := GoodF x) ⟨hx, by rw [hm]; exact Nat.zero_le _, by rw [hm]; exact Nat.dvd_zero _⟩
  rw [hg]
  clear h0 hg hx
  go_enter Tryz.func80, Tryz.ntmps80
  go_wp2
  go_ret
  exact ⟨rfl, Below.refl _ _⟩
 ·have e0 : (FloatKind.f64.format.order x 0 == some .eq) = false := by rw [eq_fin hx zero_fin, zero_val]; simpa using h0
  have hof := fun W => of_call hx W
  have hpw := fun W => power_call 1 100 W (by omega) (by omega) (by omega) (by omega) 47 (by omega)
  have hx0 : fval x * 2 ^ 54 ≠ 0 := Int.mul_ne_zero h0 (Int.ne_of_gt (Int.pow_pos (by omega)))
  have htop := fit_top x
  have hlw := @fit_low x
  have hgd : goodB x = (decide (fmag x ≤ 2 ^ 1174) && decide (2 ^ 974 ∣ fmag x)) := by
   rw [Bool.eq_iff_iff, Bool.and_eq_true, decide_eq_true_iff, decide_eq_true_iff]
   exact ⟨fun h => (of_decide_eq_true (p := GoodF x) h).2, fun h => decide_eq_true (p := GoodF x) ⟨hx, h⟩⟩
  rw [hgd]
  generalize fval x * 2 ^ 54 = v at *
  generalize hP : decide (fmag x ≤ 2 ^ 1174) = b1 at *
  generalize hQ : decide (2 ^ 974 ∣ fmag x) = b2 at *
  have htop2 : decide ((((v.natAbs : Nat) : Int) - 1 * 2 ^ (24 * ((47 : Nat) : Int) + 100).toNat).sign ≤ 0) = b1 := by rw [← hP]; exact decide_eq_decide.mpr htop
  have hlw2 : ∀ l : Int, (∀ j : Nat, (2 : Int) ^ j ∣ v ↔ (j : Int) ≤ l + 24 * ((47 : Nat) : Int)) → decide (-100 ≤ l) = b2 := fun l h => by rw [← hQ]; exact decide_eq_decide.mpr (hlw h)
  have HX := Aside0.mk (And.intro hx0 hlw2)
  have hcm : ∀ W v1 v2, NumAt W v1 47 1010 ((v.natAbs : Nat) : Int) → NumAt W v2 47 1010 (1 * 2 ^ (24 * ((47 : Nat) : Int) + 100).toNat) → Calls Tryz.prog 104 #[v1, v2] W fun e w' => e = .returned (.int .i64 (((v.natAbs : Nat) : Int) - 1 * 2 ^ (24 * ((47 : Nat) : Int) + 100).toNat).sign) ∧ Below W.heap.size W w' := fun W v1 v2 a b => cmp_call a b (by omega)
  have hcm : ∃ c, decide (c ≤ (0 : Int)) = b1 ∧ ∀ W v1 v2, NumAt W v1 47 1010 ((v.natAbs : Nat) : Int) → NumAt W v2 47 1010 (1 * 2 ^ (24 * ((47 : Nat) : Int) + 100).toNat) → Calls Tryz.prog 104 #[v1, v2] W fun e w' => e = .returned (.int .i64 c) ∧ Below W.heap.size W w' := ⟨_, htop2, hcm⟩
  clear hlw2 hx0 htop hlw htop2 hP hQ hgd h0 hx
  obtain ⟨c, htop2, hcm⟩ := hcm
  generalize (1 : Int) * 2 ^ (24 * ((47 : Nat) : Int) + 100).toNat = u at *
  cases b1
  all_goals
   go_enter Tryz.func80, Tryz.ntmps80
   go_wp2_with (first
    | (go_at_call 103; (with_reducible refine (hof _).mono ?_); rintro u3 w3 ⟨v3, rfl, hN3, hb3⟩; have hN3' := hN3; obtain ⟨S3, D3, E3, A3, c3, rfl, -, -, -⟩ := hN3'; have hN4 := hN3.below (below_alloc (Below.refl _ _) (.cells #[.int .i64 S3, .slice A3 D3.length c3, .int .i64 E3] 131)); have hB4 := below_alloc hb3 (.cells #[.int .i64 S3, .slice A3 D3.length c3, .int .i64 E3] 131); have hC4 := blk_new w3 (.cells #[.int .i64 S3, .slice A3 D3.length c3, .int .i64 E3] 131); clear hb3 hN3 hof)
    | (go_at_call 105; (with_reducible refine (abs_call hN4).mono ?_); rintro u5 w5 ⟨v5, rfl, hN5, hb5⟩; have hB5 := hB4.trans (hb5.mono hB4.size); have hM5 := hN4.below hb5; have hC5 := blk_below hC4 hb5; clear hb5 hN4 hC4)
    | (go_at_call 106; (with_reducible refine (hpw _).mono ?_); rintro u6 w6 ⟨v6, rfl, hN6, hb6⟩; have hB6 := hB5.trans (hb6.mono hB5.size); have hM6 := hM5.below hb6; have hA6 := hN5.below hb6; have hC6 := blk_below hC5 hb6; clear hb6 hM5 hN5 hC5 hpw)
    | (go_at_call 104; (with_reducible refine (hcm _ _ _ hA6 hN6).mono ?_); rintro u7 w7 ⟨rfl, hb7⟩; have hB7 := hB6.trans (hb7.mono hB6.size); have hM7 := hM6.below hb7; have hC7 := blk_below hC6 hb7; obtain ⟨r0, r1, r2, r3, r4, r5⟩ := num_cells hC7; clear hb7 hM6 hA6 hN6 hC6 hcm)
    | (go_at_call 107; (with_reducible refine (low_call hM7 HX.out.1 (by omega)).mono ?_); rintro u8 w8 ⟨l, rfl, hl, hb8⟩; have hB8 := hB7.trans (hb8.mono hB7.size); have hl2 := HX.out.2 l hl; clear hl hb8 hM7))
   go_ret
   first
    | exact ⟨rfl, hB7⟩
    | exact ⟨by simp [hl2], hB8⟩
theorem coord05_inf {x : Nat} (hx : x % 2 ^ 63 = 2047 * 2 ^ 52) (w : World) : Calls Tryz.prog 80 #[.float .f64 x] w fun e w' => e = .returned (.bool false) ∧ Below w.heap.size w w' := by
 obtain ⟨b, hb, hop⟩ := sub_inf (P := Tryz.prog) hx
 have n1 : (FloatKind.f64.format.order x x != some .eq) = false := by rw [bne, order_inf_inf hx]; rfl
 have n2 : ∀ w : World, (FloatKind.f64.format.order (b w) 0 != some .eq) = true := fun w => by rw [order_nan_l (hb w)]; rfl
 clear hx hb
 go_enter Tryz.func80, Tryz.ntmps80
 go_wp2_with (simp only [hop])
 go_ret
 exact ⟨rfl, (Below.refl _ _).drew⟩
theorem coord05_nan {x : Nat} (hx : 2047 * 2 ^ 52 < x % 2 ^ 63) (w : World) : Calls Tryz.prog 80 #[.float .f64 x] w fun e w' => e = .returned (.bool false) ∧ Below w.heap.size w w' := by
 have n1 : (FloatKind.f64.format.order x x != some .eq) = true := by rw [order_nan_l hx]; rfl
 clear hx
 go_enter Tryz.func80, Tryz.ntmps80
 go_wp2
 go_ret
 exact ⟨rfl, Below.refl _ _⟩
theorem coord05_call {x : Nat} (hx : x < 2 ^ 64) (w : World) : Calls Tryz.prog 80 #[.float .f64 x] w fun e w' => e = .returned (.bool (goodB x)) ∧ Below w.heap.size w w' := by
 rcases cls x hx with h | h | h
 ·exact coord05_fin h w
 ·rw [inf_none h]; exact coord05_inf h w
 ·rw [nan_none h]; exact coord05_nan h w
set_option maxRecDepth 100000 in
set_option maxHeartbeats 1000000 in
theorem may05_call {p : S} (h0 : p.f0 < 2 ^ 64) (h1 : p.f1 < 2 ^ 64) (w : World) : Calls Tryz.prog 47 #[.agg #[.float .f64 p.f0, .float .f64 p.f1]] w fun e w' => e = .returned (.bool (gp p)) ∧ Below w.heap.size w w' := by
 have hu := Tryz.underlying71
 have c0 := fun W => coord05_call h0 W
 have c1 := fun W => coord05_call h1 W
 have hg : gp p = (goodB p.f0 && goodB p.f1) := rfl
 rw [hg]
 clear hg h0 h1
 obtain ⟨x, y⟩ := p
 simp only at *
 generalize goodB x = b0 at *
 generalize goodB y = b1 at *
 cases b0
 all_goals
  go_enter Tryz.func47, Tryz.ntmps47
  go_wp2_with (first
   | (go_at_call 80; (with_reducible refine (c0 _).mono ?_); rintro u3 w3 ⟨rfl, hb3⟩; have hB3 := (below_alloc (Below.refl w.heap.size w) (.cells #[.float .f64 x, .float .f64 y] 71)).trans (hb3.mono (by simp)); have x1 := bcell (p := ⟨w.heap.size, 1, none⟩) (v := .float .f64 y) hb3 (by simp); clear hb3 c0)
   | (go_at_call 80; (with_reducible refine (c1 _).mono ?_); rintro u4 w4 ⟨rfl, hb4⟩; have hB4 := hB3.trans (hb4.mono hB3.size); clear hb4 c1))
  go_ret
  first
   | exact ⟨rfl, hB3⟩
   | exact ⟨by simp, hB4⟩
set_option maxRecDepth 100000 in
set_option maxHeartbeats 1000000 in
theorem less05_call {x y : Nat} (hx : Fini x) (hy : Fini y) (w : World) : Calls Tryz.prog 122 #[.float .f64 x, .float .f64 y] w fun e w' => ∃ v, e = .returned v ∧ NumAt w' v 47 1011 ((fval x - fval y) * 2 ^ 54) ∧ Below w.heap.size w w' := by
 have hu := Tryz.underlying131
 have h1 := fun W => of_call hx W
 have h2 := fun W => of_call hy W
 have hout := blk_new w (.cells #[.int .i64 0, .slice none 0 0, .int .i64 0] 131)
 have hB0 := below_alloc (Below.refl w.heap.size w) (.cells #[.int .i64 0, .slice none 0 0, .int .i64 0] 131)
 rw [Int.sub_mul]
 generalize fval x * 2 ^ 54 = a at *
 generalize fval y * 2 ^ 54 = b at *
 have HO := Aside0.mk hout
 clear hx hy hout
 go_enter Tryz.func122, Tryz.ntmps122
 go_wp2_with (first
  | (go_at_call 103; (with_reducible refine (h1 _).mono ?_); rintro u3 w3 ⟨v3, rfl, hN3, hb3⟩; have hB3 := hB0.trans (hb3.mono hB0.size); have HO3 := Aside0.mk (blk_below HO.out hb3); clear hb3 h1)
  | (go_at_call 103; (with_reducible refine (h2 _).mono ?_); rintro u4 w4 ⟨v4, rfl, hN4, hb4⟩; have hB4 := hB3.trans (hb4.mono hB3.size); have hM4 := hN3.below hb4; have HO4 := Aside0.mk (blk_below HO3.out hb4); clear hb4 h2 hN3)
  | (go_at_call 123; (with_reducible refine (sub_call hM4 hN4 (by omega)).mono ?_); rintro u5 w5 ⟨v5, rfl, hN5, hb5⟩; have hB5 := hB4.trans (hb5.mono hB4.size); have hO5 := blk_below HO4.out hb5; obtain ⟨r0, r1, r2, r3, r4, r5⟩ := num_cells hO5; obtain ⟨S5, D5, E5, A5, c5, rfl, hC5, hc5, hW5⟩ := hN5; have HW5 := Aside0.mk hW5; have HO5 := Aside0.mk hO5; clear hb5 hM4 hN4 hW5 hO5))
 refine bodyPost_ret (results_cell_row rfl _ _ w.heap.size 131 #[.int .i64 S5, .slice A5 D5.length c5, .int .i64 E5] (0, 0) _ rfl (num_put HO5.out) Tryz.underlying131 rfl (by kernel_rfl)) rfl ⟨_, rfl, ?_, below_put hB5 (Nat.le_refl _)⟩
 exact ⟨S5, D5, E5, A5, c5, rfl, dig_put hC5 HO5.out, hc5, HW5.out⟩
end Go.Proofs.YtaoichlepfiliaaGreatDoor.Nw
end
section
namespace Go.Proofs.YtaoichlepfiliaaGreatDoor.Msh
open Go.RowKit Go.Sort Go.ChangeMaps Go.MapKept Go.Proofs.YtaoichlepfiliaaGreatDoor.Mp Go.Proofs.YtaoichlepfiliaaGreatDoor.Adm Go.Proofs.YtaoichlepfiliaaGreatDoor.Kfl Go.Proofs.YtaoichlepfiliaaGreatDoor.R Go.Proofs.YtaoichlepfiliaaGreatDoor.E Go.Proofs.YtaoichlepfiliaaGreatDoorW.PrintWords Go.Proofs.YtaoichlepfiliaaGreatDoorW.PrintLast
set_option maxRecDepth 100000 in
set_option maxHeartbeats 4000000 in
theorem range1_call (A : Option Addr) (c : Nat) (lp : List S) (w : World) (hC : Kd.C k71 w A lp.length lp) (hz : lp.length ≤ 1099511627776) (hw : ∀ x ∈ lp, wdS x) : Calls Tryz.prog 13 #[.slice A lp.length c] w fun e w' => e = .returned (.bool (lp.all gp)) ∧ Below w.heap.size w w' := by
 have hu32 := Tryz.underlying71
 obtain ⟨r, hr⟩ : ∃ r, r = lp.all gp := ⟨_, rfl⟩
 rw [← hr]
 have HR := Aside0.mk hr
 clear hr
 go_enter Tryz.func13, Tryz.ntmps13
 go_wp2
 go_loopw [3] (fun x wr => ∃ n : Nat, x = .int .i64 n ∧ n ≤ lp.length ∧ Below w.heap.size w wr ∧ Aside0 ((lp.drop n).all gp = lp.all gp)) (fun x _ => lp.length - (intOf x).toNat)
 case atStart => exact ⟨0, rfl, Nat.zero_le _, Below.refl _ _, ⟨rfl⟩⟩
 case round =>
  obtain ⟨n, rfl, hn, hB, hi⟩ := hrel
  by_cases hlt : n < lp.length
  ·have d3 : decide ((n : Int) < (lp.length : Int)) = true := by simp; omega
   have d4 : decide (n < lp.length) = true := by simp; omega
   have d5 : decide ((0 : Int) ≤ n) = true := by simp
   have i1 : IntKind.i64.wrap ((n : Int) + 1) = (n : Int) + 1 := wrapN (by omega) (by omega)
   obtain ⟨ad, rfl, hx0, hx1⟩ := at_T71 (Kd.C_below hC hB) n (by omega) (by omega)
   rw [Int.toNat_natCast] at hx0 hx1
   replace hi := hi.out
   rw [drop_S hlt, List.all_cons] at hi
   have hwd := hw _ (rd_at hlt)
   have hcl := fun W => Nw.may05_call (p := rd_T71 lp (n : Int)) hwd.1 hwd.2 W
   generalize rd_T71 lp (n : Int) = x at *
   cases hg : gp x
   ·rw [hg] at hi hcl
    rw [Bool.false_and] at hi
    replace hi := Aside0.mk hi
    go_wp2_with (go_at_call 47; (with_reducible refine (hcl _).mono ?_); rintro y w1 ⟨rfl, hb1⟩)
    go_ret
    exact ⟨by rw [HR.out, ← hi.out]; rfl, hB.trans (hb1.mono hB.size)⟩
   ·rw [hg] at hi hcl
    rw [Bool.true_and] at hi
    replace hi := Aside0.mk hi
    go_wp2_with (go_at_call 47; (with_reducible refine (hcl _).mono ?_); rintro y w1 ⟨rfl, hb1⟩)
    go_roundw
    case rel => exact ⟨n + 1, by go_num, by omega, hB.trans (hb1.mono hB.size), hi⟩
    case measure => simp [intOf]; omega
  ·have d3 : decide ((n : Int) < (lp.length : Int)) = false := by simp; omega
   have d4 : decide (n < lp.length) = false := by simp; omega
   replace hi := hi.out
   rw [List.drop_eq_nil_of_le (by omega)] at hi
   replace hi := Aside0.mk hi
   go_wp2
   go_ret
   exact ⟨by rw [HR.out, ← hi.out]; rfl, hB⟩
structure Cl (w : World) (base mb : Nat) (l : List S) (O0 F : List Tr) (M : Nat → Prop) (v7 : Value) (O : List Tr) (g : Nat) (wr : World) : Prop where
 mesh : MeshAt wr mb l O F M
 row : kTr.R 53 wr base anyB v7 O0
 sub : ∀ t ∈ O, t ∈ O0
 le : O.length + g ≤ O0.length
 bel : Below w.heap.size w wr
 hM : ∀ k, M k → w.heap.size ≤ k ∧ k < base
section
variable {w wr W : World} {base mb c : Nat} {l lp : List S} {O0 O O1 F : List Tr} {M : Nat → Prop} {v7 : Value} {g g1 : Nat} {A : Option Addr}
theorem Cl.fr (h : Cl w base mb l O0 F M v7 O g wr) (hm : MeshAt W mb l O1 F M) (hf : Fr M wr W) (hs : ∀ t ∈ O1, t ∈ O) (hl : O1.length + g1 ≤ O0.length) : Cl w base mb l O0 F M v7 O1 g1 W :=
 ⟨hm, tr_row.mpr ((tr_row.mp h.row).move fun k hk => by
  obtain ⟨q1, q2, -⟩ := (tr_row.mp h.row).lt k hk
  exact hf.block k q2 fun q => by have := (h.hM k q).2; omega), fun t ht => h.sub t (hs t ht), hl, h.bel.trans (hf.below (fun k hk => (h.hM k hk).1) h.bel.size), h.hM⟩
theorem Cl.below (h : Cl w base mb l O0 F M v7 O g wr) (hb : Below wr.heap.size wr W) : Cl w base mb l O0 F M v7 O g W := h.fr (h.mesh.below hb) (Fr.of_below hb) (fun _ h => h) h.le
theorem Cl.outer (h : Cl w base mb l O0 F M v7 O g wr) : Calls Tryz.prog 10 #[ptr mb] wr fun e w' => ∃ (n : Nat) (O1 : List Tr), e = .returned (.tuple #[.int .i64 n, .int .i64 0]) ∧ Cl w base mb l O0 F M v7 O1 (g + n) w' ∧ (n = 0 → O1 = O ∧ ∀ t ∈ O, openB O F t = false) ∧ ((∀ t ∈ O, openB O F t = false) → n = 0) :=
 (outer_call h.mesh).mono fun e w' ⟨L, hL, he, hm, hf⟩ => ⟨_, _, he, h.fr hm hf (fun t ht => (List.mem_filter.mp ht).1) (by have := rest_size (mesh_mesh h.mesh).1.up hL fun p => p.any (openB O F); have := h.le; omega), fun hn => none_goes hL hn, fun hn => goes_none hL hn⟩
theorem Cl.holes (h : Cl w base mb l O0 F M v7 O g wr) (hC : Kd.C k71 w A lp.length lp) (hz : lp.length ≤ 1099511627776) (hw : ∀ x ∈ lp, wdS x) (hp : ∀ x ∈ lp, gp x = true) : Calls Tryz.prog 12 #[ptr mb, .slice A lp.length c] wr fun e w' => ∃ (n : Nat) (O1 : List Tr), e = .returned (.tuple #[.int .i64 n, .int .i64 0]) ∧ Cl w base mb l O0 F M v7 O1 (g + n) w' ∧ (n = 0 → O1 = O ∧ ∀ t ∈ O, lp.any (liesB l t) = false) :=
 (holes_call h.mesh (Kd.C_below hC h.bel) hz hw hp).mono fun e w' ⟨L, hL, he, hm, hf⟩ => ⟨_, _, he, h.fr hm hf (fun t ht => (List.mem_filter.mp ht).1) (by have := rest_size (mesh_mesh h.mesh).1.up hL fun p => p.any fun t => lp.any (liesB l t); have := h.le; omega), fun hn => none_goes hL hn⟩
theorem Cl.spread (h : Cl w base mb l O0 F M v7 O g wr) (hC : Kd.C k71 w A lp.length lp) (hz : lp.length ≤ 1099511627776) (hw : ∀ x ∈ lp, wdS x) (hp : ∀ x ∈ lp, gp x = true) (hn : ∀ t ∈ O, lp.any (liesB l t) = false) : Calls Tryz.prog 27 #[ptr mb, .slice A lp.length c] wr fun e w' => ∃ A1 c1, e = .returned (.tuple #[.slice A1 O.length c1, .int .i64 0]) ∧ Kd.C (Kd.int .i64) w' A1 O.length (O.map fun _ => -1) ∧ Below wr.heap.size wr w' :=
 (spread_call h.mesh (Kd.C_below hC h.bel) hz hw hp).mono fun e w' ⟨v, L, hL, he, hR, hb⟩ => by
  rw [spread_none hL hn] at hR
  obtain ⟨A1, c1, rfl, -, hK⟩ := Kd.R_reads hR
  rw [List.length_map] at he hK
  exact ⟨A1, c1, he, hK, hb⟩
end
end Go.Proofs.YtaoichlepfiliaaGreatDoor.Msh
end
