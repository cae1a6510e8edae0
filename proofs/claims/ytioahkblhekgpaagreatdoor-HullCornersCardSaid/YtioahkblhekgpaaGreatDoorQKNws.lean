/- What the proof needs of Nws: only what is used is left (wip/tools/prune.py). Conditions stand in each sentence. -/
import Derived.Test.YtioahkblhekgpaaGreatDoorQKNwh
import Derived.Test.YtioahkblhekgpaaGreatDoorQKCnt
set_option linter.unusedVariables false
set_option linter.unusedSimpArgs false
namespace Go.Proofs.YtioahkblhekgpaaGreatDoor.Adm
end Go.Proofs.YtioahkblhekgpaaGreatDoor.Adm
namespace Go.Proofs.YtioahkblhekgpaaGreatDoor.E
end Go.Proofs.YtioahkblhekgpaaGreatDoor.E
namespace Go.Proofs.YtioahkblhekgpaaGreatDoor.FltP
end Go.Proofs.YtioahkblhekgpaaGreatDoor.FltP
namespace Go.Proofs.YtioahkblhekgpaaGreatDoor.NumP
end Go.Proofs.YtioahkblhekgpaaGreatDoor.NumP
namespace Go.Proofs.YtioahkblhekgpaaGreatDoor.O
end Go.Proofs.YtioahkblhekgpaaGreatDoor.O
namespace Go.Proofs.YtioahkblhekgpaaGreatDoor.R
end Go.Proofs.YtioahkblhekgpaaGreatDoor.R
namespace Go.Proofs.YtioahkblhekgpaaGreatDoorW.PrintLast
end Go.Proofs.YtioahkblhekgpaaGreatDoorW.PrintLast
namespace Go.Proofs.YtioahkblhekgpaaGreatDoorW.PrintMore
end Go.Proofs.YtioahkblhekgpaaGreatDoorW.PrintMore
namespace Go.Proofs.YtioahkblhekgpaaGreatDoorW.PrintWords
end Go.Proofs.YtioahkblhekgpaaGreatDoorW.PrintWords
namespace Go.Proofs.YtioahkblhekgpaaGreatDoor.Nw
set_option exponentiation.threshold 4000
open Go.RowKit Go.Proofs.YtioahkblhekgpaaGreatDoor.FltP Go.Proofs.YtioahkblhekgpaaGreatDoor.R Go.Proofs.YtioahkblhekgpaaGreatDoor.E Go.Proofs.YtioahkblhekgpaaGreatDoor.O Go.Proofs.YtioahkblhekgpaaGreatDoorW.PrintWords Go.Proofs.YtioahkblhekgpaaGreatDoorW.PrintLast Go.Proofs.YtioahkblhekgpaaGreatDoorW.PrintMore
open Go.Proofs.YtioahkblhekgpaaGreatDoor.NumP Go.Proofs.YtioahkblhekgpaaGreatDoor.Adm
set_option maxRecDepth 100000 in
set_option maxHeartbeats 4000000 in
theorem coord04_fin {x : Nat} (hx : Fini x) (w : World) : Calls Tryz.prog 92 #[.float .f64 x] w fun e w' => e = .returned (.bool (goodB x)) ∧ Below w.heap.size w w' := by
 have hu := Tryz.underlying77
 have n1 : (FloatKind.f64.format.order x x != some .eq) = false := by rw [bne, eq_fin hx hx]; simp
 have n2 : (FloatKind.f64.format.order 0 0 != some .eq) = false := by rw [bne, eq_fin zero_fin zero_fin]; simp
 have hsub := fun w_ => run_float_arith (P := Tryz.prog) w_ .sub 30 .f64 x x 0 (sub_self hx)
 by_cases h0 : fval x = 0
 ·have e0 : (FloatKind.f64.format.order x 0 == some .eq) = true := by rw [eq_fin hx zero_fin, zero_val]; simpa using h0
  have hg : goodB x = true := by
   have hm := (fval_zero_iff x).1 h0
   exact decide_eq_true (p := GoodF x) ⟨hx, by rw [hm]; exact Nat.zero_le _, by rw [hm]; exact Nat.dvd_zero _⟩
  rw [hg]
  clear h0 hg hx
  go_enter Tryz.func92, Tryz.ntmps92
  go_wp2
  go_ret
  exact ⟨rfl, Below.refl _ _⟩
 ·have e0 : (FloatKind.f64.format.order x 0 == some .eq) = false := by rw [eq_fin hx zero_fin, zero_val]; simpa using h0
  have hof := fun W => of_call hx W
  have hpw := fun W => power_call 1 100 W (by omega) (by omega) (by omega) (by omega) 47 (by omega)
  have hx0 : fval x * 2 ^ 54 ≠ 0 := Int.mul_ne_zero h0 (Int.ne_of_gt (Int.pow_pos (by omega)))
  have htop := fit_top x
  have hlw := @fit_low x
  have hgd : goodB x = (decide (fmag x ≤ 2 ^ 1174) && decide (2 ^ 974 ∣ fmag x)) := by
   rw [Bool.eq_iff_iff, Bool.and_eq_true, decide_eq_true_iff, decide_eq_true_iff]
   exact ⟨fun h => (of_decide_eq_true (p := GoodF x) h).2, fun h => decide_eq_true (p := GoodF x) ⟨hx, h⟩⟩
  rw [hgd]
  generalize fval x * 2 ^ 54 = v at *
  generalize hP : decide (fmag x ≤ 2 ^ 1174) = b1 at *
  generalize hQ : decide (2 ^ 974 ∣ fmag x) = b2 at *
  have htop2 : decide ((((v.natAbs : Nat) : Int) - 1 * 2 ^ (24 * ((47 : Nat) : Int) + 100).toNat).sign ≤ 0) = b1 := by rw [← hP]; exact decide_eq_decide.mpr htop
  have hlw2 : ∀ l : Int, (∀ j : Nat, (2 : Int) ^ j ∣ v ↔ (j : Int) ≤ l + 24 * ((47 : Nat) : Int)) → decide (-100 ≤ l) = b2 := fun l h => by rw [← hQ]; exact decide_eq_decide.mpr (hlw h)
  have HX := Aside0.mk (And.intro hx0 hlw2)
  have hcm : ∀ W v1 v2, NumAt W v1 47 1010 ((v.natAbs : Nat) : Int) → NumAt W v2 47 1010 (1 * 2 ^ (24 * ((47 : Nat) : Int) + 100).toNat) → Calls Tryz.prog 94 #[v1, v2] W fun e w' => e = .returned (.int .i64 (((v.natAbs : Nat) : Int) - 1 * 2 ^ (24 * ((47 : Nat) : Int) + 100).toNat).sign) ∧ Below W.heap.size W w' := fun W v1 v2 a b => cmp_call a b (by omega)
  have hcm : ∃ c, decide (c ≤ (0 : Int)) = b1 ∧ ∀ W v1 v2, NumAt W v1 47 1010 ((v.natAbs : Nat) : Int) → NumAt W v2 47 1010 (1 * 2 ^ (24 * ((47 : Nat) : Int) + 100).toNat) → Calls Tryz.prog 94 #[v1, v2] W fun e w' => e = .returned (.int .i64 c) ∧ Below W.heap.size W w' := ⟨_, htop2, hcm⟩
  clear hlw2 hx0 htop hlw htop2 hP hQ hgd h0 hx
  obtain ⟨c, htop2, hcm⟩ := hcm
  generalize (1 : Int) * 2 ^ (24 * ((47 : Nat) : Int) + 100).toNat = u at *
  cases b1
  all_goals
   go_enter Tryz.func92, Tryz.ntmps92
   go_wp2_with (first
    | (go_at_call 93; (with_reducible refine (hof _).mono ?_); rintro u3 w3 ⟨v3, rfl, hN3, hb3⟩; have hN3' := hN3; obtain ⟨S3, D3, E3, A3, c3, rfl, -, -, -⟩ := hN3'; have hN4 := hN3.below (below_alloc (Below.refl _ _) (.cells #[.int .i64 S3, .slice A3 D3.length c3, .int .i64 E3] 77)); have hB4 := below_alloc hb3 (.cells #[.int .i64 S3, .slice A3 D3.length c3, .int .i64 E3] 77); have hC4 := blk_new w3 (.cells #[.int .i64 S3, .slice A3 D3.length c3, .int .i64 E3] 77); clear hb3 hN3 hof)
    | (go_at_call 95; (with_reducible refine (abs_call hN4).mono ?_); rintro u5 w5 ⟨v5, rfl, hN5, hb5⟩; have hB5 := hB4.trans (hb5.mono hB4.size); have hM5 := hN4.below hb5; have hC5 := blk_below hC4 hb5; clear hb5 hN4 hC4)
    | (go_at_call 96; (with_reducible refine (hpw _).mono ?_); rintro u6 w6 ⟨v6, rfl, hN6, hb6⟩; have hB6 := hB5.trans (hb6.mono hB5.size); have hM6 := hM5.below hb6; have hA6 := hN5.below hb6; have hC6 := blk_below hC5 hb6; clear hb6 hM5 hN5 hC5 hpw)
    | (go_at_call 94; (with_reducible refine (hcm _ _ _ hA6 hN6).mono ?_); rintro u7 w7 ⟨rfl, hb7⟩; have hB7 := hB6.trans (hb7.mono hB6.size); have hM7 := hM6.below hb7; have hC7 := blk_below hC6 hb7; obtain ⟨r0, r1, r2, r3, r4, r5⟩ := num_cells hC7; clear hb7 hM6 hA6 hN6 hC6 hcm)
    | (go_at_call 97; (with_reducible refine (low_call hM7 HX.out.1 (by omega)).mono ?_); rintro u8 w8 ⟨l, rfl, hl, hb8⟩; have hB8 := hB7.trans (hb8.mono hB7.size); have hl2 := HX.out.2 l hl; clear hl hb8 hM7))
   go_ret
   first
    | exact ⟨rfl, hB7⟩
    | exact ⟨by simp [hl2], hB8⟩
theorem coord04_inf {x : Nat} (hx : x % 2 ^ 63 = 2047 * 2 ^ 52) (w : World) : Calls Tryz.prog 92 #[.float .f64 x] w fun e w' => e = .returned (.bool false) ∧ Below w.heap.size w w' := by
 obtain ⟨b, hb, hop⟩ := sub_inf (P := Tryz.prog) hx
 have n1 : (FloatKind.f64.format.order x x != some .eq) = false := by rw [bne, order_inf_inf hx]; rfl
 have n2 : ∀ w : World, (FloatKind.f64.format.order (b w) 0 != some .eq) = true := fun w => by rw [order_nan_l (hb w)]; rfl
 clear hx hb
 go_enter Tryz.func92, Tryz.ntmps92
 go_wp2_with (simp only [hop])
 go_ret
 exact ⟨rfl, (Below.refl _ _).drew⟩
theorem coord04_nan {x : Nat} (hx : 2047 * 2 ^ 52 < x % 2 ^ 63) (w : World) : Calls Tryz.prog 92 #[.float .f64 x] w fun e w' => e = .returned (.bool false) ∧ Below w.heap.size w w' := by
 have n1 : (FloatKind.f64.format.order x x != some .eq) = true := by rw [order_nan_l hx]; rfl
 clear hx
 go_enter Tryz.func92, Tryz.ntmps92
 go_wp2
 go_ret
 exact ⟨rfl, Below.refl _ _⟩
theorem coord04_call {x : Nat} (hx : x < 2 ^ 64) (w : World) : Calls Tryz.prog 92 #[.float .f64 x] w fun e w' => e = .returned (.bool (goodB x)) ∧ Below w.heap.size w w' := by
 rcases cls x hx with h | h | h
 ·exact coord04_fin h w
 ·rw [inf_none h]; exact coord04_inf h w
 ·rw [nan_none h]; exact coord04_nan h w
set_option maxRecDepth 100000 in
set_option maxHeartbeats 1000000 in
theorem may04_call {p : S} (h0 : p.f0 < 2 ^ 64) (h1 : p.f1 < 2 ^ 64) (w : World) : Calls Tryz.prog 69 #[.agg #[.float .f64 p.f0, .float .f64 p.f1]] w fun e w' => e = .returned (.bool (gp p)) ∧ Below w.heap.size w w' := by
 have hu := Tryz.underlying32
 have c0 := fun W => coord04_call h0 W
 have c1 := fun W => coord04_call h1 W
 have hg : gp p = (goodB p.f0 && goodB p.f1) := rfl
 rw [hg]
 clear hg h0 h1
 obtain ⟨x, y⟩ := p
 simp only at *
 generalize goodB x = b0 at *
 generalize goodB y = b1 at *
 cases b0
 all_goals
  go_enter Tryz.func69, Tryz.ntmps69
  go_wp2_with (first
   | (go_at_call 92; (with_reducible refine (c0 _).mono ?_); rintro u3 w3 ⟨rfl, hb3⟩; have hB3 := (below_alloc (Below.refl w.heap.size w) (.cells #[.float .f64 x, .float .f64 y] 32)).trans (hb3.mono (by simp)); have x1 := bcell (p := ⟨w.heap.size, 1, none⟩) (v := .float .f64 y) hb3 (by simp); clear hb3 c0)
   | (go_at_call 92; (with_reducible refine (c1 _).mono ?_); rintro u4 w4 ⟨rfl, hb4⟩; have hB4 := hB3.trans (hb4.mono hB3.size); clear hb4 c1))
  go_ret
  first
   | exact ⟨rfl, hB3⟩
   | exact ⟨by simp, hB4⟩
set_option maxRecDepth 100000 in
set_option maxHeartbeats 1000000 in
theorem less04_call {x y : Nat} (hx : Fini x) (hy : Fini y) (w : World) : Calls Tryz.prog 122 #[.float .f64 x, .float .f64 y] w fun e w' => ∃ v, e = .returned v ∧ NumAt w' v 47 1011 ((fval x - fval y) * 2 ^ 54) ∧ Below w.heap.size w w' := by
 have hu := Tryz.underlying77
 have h1 := fun W => of_call hx W
 have h2 := fun W => of_call hy W
 have hout := blk_new w (.cells #[.int .i64 0, .slice none 0 0, .int .i64 0] 77)
 have hB0 := below_alloc (Below.refl w.heap.size w) (.cells #[.int .i64 0, .slice none 0 0, .int .i64 0] 77)
 rw [Int.sub_mul]
 generalize fval x * 2 ^ 54 = a at *
 generalize fval y * 2 ^ 54 = b at *
 have HO := Aside0.mk hout
 clear hx hy hout
 go_enter Tryz.func122, Tryz.ntmps122
 go_wp2_with (first
  | (go_at_call 93; (with_reducible refine (h1 _).mono ?_); rintro u3 w3 ⟨v3, rfl, hN3, hb3⟩; have hB3 := hB0.trans (hb3.mono hB0.size); have HO3 := Aside0.mk (blk_below HO.out hb3); clear hb3 h1)
  | (go_at_call 93; (with_reducible refine (h2 _).mono ?_); rintro u4 w4 ⟨v4, rfl, hN4, hb4⟩; have hB4 := hB3.trans (hb4.mono hB3.size); have hM4 := hN3.below hb4; have HO4 := Aside0.mk (blk_below HO3.out hb4); clear hb4 h2 hN3)
  | (go_at_call 111; (with_reducible refine (sub_call hM4 hN4 (by omega)).mono ?_); rintro u5 w5 ⟨v5, rfl, hN5, hb5⟩; have hB5 := hB4.trans (hb5.mono hB4.size); have hO5 := blk_below HO4.out hb5; obtain ⟨r0, r1, r2, r3, r4, r5⟩ := num_cells hO5; obtain ⟨S5, D5, E5, A5, c5, rfl, hC5, hc5, hW5⟩ := hN5; have HW5 := Aside0.mk hW5; have HO5 := Aside0.mk hO5; clear hb5 hM4 hN4 hW5 hO5))
 refine bodyPost_ret (results_cell_row rfl _ _ w.heap.size 77 #[.int .i64 S5, .slice A5 D5.length c5, .int .i64 E5] (0, 0) _ rfl (num_put HO5.out) Tryz.underlying77 rfl (by kernel_rfl)) rfl ⟨_, rfl, ?_, below_put hB5 (Nat.le_refl _)⟩
 exact ⟨S5, D5, E5, A5, c5, rfl, dig_put hC5 HO5.out, hc5, HW5.out⟩
set_option maxRecDepth 100000 in
set_option maxHeartbeats 1000000 in
theorem between04_call {x y z : Nat} (hx : Fini x) (hy : Fini y) (hz : Fini z) (w : World) :
 Calls Tryz.prog 90 #[.float .f64 x, .float .f64 y, .float .f64 z] w fun e w' => e = .returned (.bool (decide (Geo.within (fval x) (fval y) (fval z)))) ∧ w = w' := by
 have l1 := le_fin hx hz
 have l2 := le_fin hz hy
 have l3 := le_fin hy hz
 have l4 := le_fin hz hx
 have hr : decide (Geo.within (fval x) (fval y) (fval z)) = ((decide (fval x ≤ fval z) && decide (fval z ≤ fval y)) || (decide (fval y ≤ fval z) && decide (fval z ≤ fval x))) := by
  rw [Bool.eq_iff_iff, Bool.or_eq_true, Bool.and_eq_true, Bool.and_eq_true, decide_eq_true_iff, decide_eq_true_iff, decide_eq_true_iff, decide_eq_true_iff, decide_eq_true_iff]
  unfold Geo.within
  omega
 rw [hr]
 generalize decide (fval x ≤ fval z) = b1 at *
 generalize decide (fval z ≤ fval y) = b2 at *
 generalize decide (fval y ≤ fval z) = b3 at *
 generalize decide (fval z ≤ fval x) = b4 at *
 clear hr hx hy hz
 cases b1 <;> cases b2 <;> cases b3 <;> cases b4
 all_goals
  go_enter Tryz.func90, Tryz.ntmps90
  go_wp2
  go_ret
  exact ⟨rfl, rfl⟩
set_option maxRecDepth 100000 in
set_option maxHeartbeats 1000000 in
theorem sign01_call {v : Value} {B n : Nat} {x : Int} {w : World} (h : NumAt w v B n x) :
 Calls Tryz.prog 88 #[v] w fun e w' => e = .returned (.int .i64 x.sign) ∧ Below w.heap.size w w' := by
 have hu := Tryz.underlying77
 obtain ⟨S, D, E, A, c, rfl, hC, hc, hW⟩ := h
 have hs := hW.sign
 rw [← hs]
 clear hs hW hC hc
 have hB := below_alloc (Below.refl w.heap.size w) (.cells #[.int .i64 S, .slice A D.length c, .int .i64 E] 77)
 go_enter Tryz.func88, Tryz.ntmps88
 go_wp2
 go_ret
 exact ⟨rfl, hB⟩
end Go.Proofs.YtioahkblhekgpaaGreatDoor.Nw
