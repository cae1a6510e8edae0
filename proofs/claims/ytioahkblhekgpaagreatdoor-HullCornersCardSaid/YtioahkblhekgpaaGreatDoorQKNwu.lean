/- What the proof needs of Nwu: only what is used is left (wip/tools/prune.py). Conditions stand in each sentence. -/
import Derived.Test.YtioahkblhekgpaaGreatDoorQKNwt
import Derived.Test.YtioahkblhekgpaaGreatDoorQKNwk
set_option linter.unusedVariables false
set_option linter.unusedSimpArgs false
namespace Go.Proofs.YtioahkblhekgpaaGreatDoor.Adm
end Go.Proofs.YtioahkblhekgpaaGreatDoor.Adm
namespace Go.Proofs.YtioahkblhekgpaaGreatDoor.E
end Go.Proofs.YtioahkblhekgpaaGreatDoor.E
namespace Go.Proofs.YtioahkblhekgpaaGreatDoor.FltP
end Go.Proofs.YtioahkblhekgpaaGreatDoor.FltP
namespace Go.Proofs.YtioahkblhekgpaaGreatDoor.NumP
end Go.Proofs.YtioahkblhekgpaaGreatDoor.NumP
namespace Go.Proofs.YtioahkblhekgpaaGreatDoor.O
end Go.Proofs.YtioahkblhekgpaaGreatDoor.O
namespace Go.Proofs.YtioahkblhekgpaaGreatDoor.R
end Go.Proofs.YtioahkblhekgpaaGreatDoor.R
namespace Go.Proofs.YtioahkblhekgpaaGreatDoorW.PrintLast
end Go.Proofs.YtioahkblhekgpaaGreatDoorW.PrintLast
namespace Go.Proofs.YtioahkblhekgpaaGreatDoorW.PrintMore
end Go.Proofs.YtioahkblhekgpaaGreatDoorW.PrintMore
namespace Go.Proofs.YtioahkblhekgpaaGreatDoorW.PrintWords
end Go.Proofs.YtioahkblhekgpaaGreatDoorW.PrintWords
namespace Go.Proofs.YtioahkblhekgpaaGreatDoor.Nw
open Go.RowKit Go.Proofs.YtioahkblhekgpaaGreatDoor.FltP Go.Proofs.YtioahkblhekgpaaGreatDoor.R Go.Proofs.YtioahkblhekgpaaGreatDoor.E Go.Proofs.YtioahkblhekgpaaGreatDoor.O Go.Proofs.YtioahkblhekgpaaGreatDoorW.PrintWords Go.Proofs.YtioahkblhekgpaaGreatDoorW.PrintLast Go.Proofs.YtioahkblhekgpaaGreatDoorW.PrintMore
open Go.Proofs.YtioahkblhekgpaaGreatDoor.NumP Go.Proofs.YtioahkblhekgpaaGreatDoor.Adm
set_option maxRecDepth 100000 in
set_option maxHeartbeats 4000000 in
theorem sign04_call {a b c : S} (ga : gp a = true) (gb : gp b = true) (gc : gp c = true) (w : World) :
 Calls Tryz.prog 66 #[.agg #[.float .f64 a.f0, .float .f64 a.f1], .agg #[.float .f64 b.f0, .float .f64 b.f1], .agg #[.float .f64 c.f0, .float .f64 c.f1]] w fun e w' => e = .returned (.int .i64 (sgnS a b c)) ∧ Below w.heap.size w w' := by
 have hu := Tryz.underlying77
 have hu32 := Tryz.underlying32
 have m1 := fun W => may04_call (gp_wd ga).1 (gp_wd ga).2 W
 have m2 := fun W => may04_call (gp_wd gb).1 (gp_wd gb).2 W
 have m3 := fun W => may04_call (gp_wd gc).1 (gp_wd gc).2 W
 rw [ga] at m1
 rw [gb] at m2
 rw [gc] at m3
 have ht := fun W => sum04_call ga gb gc W
 have hsg : (Geo.det (pt a) (pt b) (pt c) * 2 ^ 108).sign = sgnS a b c := det_sign _
 have hX : Pts3 w.heap.size _ a b c := ⟨(three_new w _ _ _).1, (three_new w _ _ _).2.1, (three_new w _ _ _).2.2⟩
 have hB0 := below_alloc (below_alloc (below_alloc (Below.refl w.heap.size w) (.cells #[.float .f64 a.f0, .float .f64 a.f1] 32)) (.cells #[.float .f64 b.f0, .float .f64 b.f1] 32)) (.cells #[.float .f64 c.f0, .float .f64 c.f1] 32)
 have HSG := Aside0.mk hsg
 clear ga gb gc hsg
 generalize Geo.det (pt a) (pt b) (pt c) * 2 ^ 108 = d at *
 go_enter Tryz.func66, Tryz.ntmps66
 go_upto_region 1 with (fail)
 generalize ((w.alloc (.cells #[.float .f64 a.f0, .float .f64 a.f1] 32)).alloc (.cells #[.float .f64 b.f0, .float .f64 b.f1] 32)).alloc (.cells #[.float .f64 c.f0, .float .f64 c.f1] 32) = w0 at *
 obtain ⟨p0, p1, p2, p3, p4, p5⟩ := hX.cells
 go_wp2_with (first
  | (go_at_call 69; (with_reducible refine (m1 _).mono ?_); rintro u w5 ⟨rfl, hb⟩; replace hX := hX.below hb; obtain ⟨p0, p1, p2, p3, p4, p5⟩ := hX.cells; have hB5 := hB0.trans (hb.mono hB0.size); clear hb m1)
  | (go_at_call 69; (with_reducible refine (m2 _).mono ?_); rintro u w6 ⟨rfl, hb⟩; replace hX := hX.below hb; obtain ⟨p0, p1, p2, p3, p4, p5⟩ := hX.cells; have hB6 := hB5.trans (hb.mono hB5.size); clear hb m2)
  | (go_at_call 69; (with_reducible refine (m3 _).mono ?_); rintro u w7 ⟨rfl, hb⟩; replace hX := hX.below hb; obtain ⟨p0, p1, p2, p3, p4, p5⟩ := hX.cells; have hB7 := hB6.trans (hb.mono hB6.size); clear hb m3)
  | (go_at_call 89; (with_reducible refine (ht _).mono ?_); rintro u w8 ⟨v8, rfl, hN, hb⟩; have hB8 := hB7.trans (hb.mono hB7.size); clear hb ht)
  | (go_at_call 88; (with_reducible refine (sign01_call hN).mono ?_); rintro u w9 ⟨rfl, hb⟩; have hB9 := hB8.trans (hb.mono hB8.size); clear hb hN))
 go_ret
 exact ⟨by rw [HSG.out]; rfl, hB9⟩
set_option maxRecDepth 100000 in
set_option maxHeartbeats 4000000 in
theorem on04_call {a b c : S} (ga : gp a = true) (gb : gp b = true) (gc : gp c = true) (w : World) :
 Calls Tryz.prog 67 #[.agg #[.float .f64 a.f0, .float .f64 a.f1], .agg #[.float .f64 b.f0, .float .f64 b.f1], .agg #[.float .f64 c.f0, .float .f64 c.f1]] w fun e w' => e = .returned (.bool (onS a b c)) ∧ Below w.heap.size w w' := by
 have hu32 := Tryz.underlying32
 have m1 := fun W => may04_call (gp_wd ga).1 (gp_wd ga).2 W
 have m2 := fun W => may04_call (gp_wd gb).1 (gp_wd gb).2 W
 have m3 := fun W => may04_call (gp_wd gc).1 (gp_wd gc).2 W
 rw [ga] at m1
 rw [gb] at m2
 rw [gc] at m3
 have hs := fun W => sign04_call ga gb gc W
 have h1 := gp_good ga
 have h2 := gp_good gb
 have h3 := gp_good gc
 have n0 := fun W => between04_call h1.1.1 h2.1.1 h3.1.1 W
 have n1 := fun W => between04_call h1.2.1 h2.2.1 h3.2.1 W
 have hv : onS a b c = (decide (sgnS a b c = 0) && (decide (Geo.within (fval a.f0) (fval b.f0) (fval c.f0)) && decide (Geo.within (fval a.f1) (fval b.f1) (fval c.f1)))) := rfl
 rw [hv]
 have hX : Pts3 w.heap.size _ a b c := ⟨(three_new w _ _ _).1, (three_new w _ _ _).2.1, (three_new w _ _ _).2.2⟩
 have hB0 := below_alloc (below_alloc (below_alloc (Below.refl w.heap.size w) (.cells #[.float .f64 a.f0, .float .f64 a.f1] 32)) (.cells #[.float .f64 b.f0, .float .f64 b.f1] 32)) (.cells #[.float .f64 c.f0, .float .f64 c.f1] 32)
 clear ga gb gc h1 h2 h3 hv
 generalize decide (Geo.within (fval a.f0) (fval b.f0) (fval c.f0)) = b0 at *
 generalize decide (Geo.within (fval a.f1) (fval b.f1) (fval c.f1)) = b1 at *
 generalize sgnS a b c = s at *
 obtain ⟨z, hz⟩ : ∃ z, z = decide (s = 0) := ⟨_, rfl⟩
 rw [← hz]
 have e2 : (s == 0) = z := by rw [hz]; rfl
 replace hz := hz.symm
 cases z <;> cases b0
 all_goals
  go_enter Tryz.func67, Tryz.ntmps67
  go_upto_region 1 with (fail)
  generalize ((w.alloc (.cells #[.float .f64 a.f0, .float .f64 a.f1] 32)).alloc (.cells #[.float .f64 b.f0, .float .f64 b.f1] 32)).alloc (.cells #[.float .f64 c.f0, .float .f64 c.f1] 32) = w0 at *
  obtain ⟨p0, p1, p2, p3, p4, p5⟩ := hX.cells
  go_wp2_with (first
   | (go_at_call 69; (with_reducible refine (m1 _).mono ?_); rintro u w5 ⟨rfl, hb⟩; replace hX := hX.below hb; obtain ⟨p0, p1, p2, p3, p4, p5⟩ := hX.cells; have hB5 := hB0.trans (hb.mono hB0.size); clear hb m1)
   | (go_at_call 69; (with_reducible refine (m2 _).mono ?_); rintro u w6 ⟨rfl, hb⟩; replace hX := hX.below hb; obtain ⟨p0, p1, p2, p3, p4, p5⟩ := hX.cells; have hB6 := hB5.trans (hb.mono hB5.size); clear hb m2)
   | (go_at_call 69; (with_reducible refine (m3 _).mono ?_); rintro u w7 ⟨rfl, hb⟩; replace hX := hX.below hb; obtain ⟨p0, p1, p2, p3, p4, p5⟩ := hX.cells; have hB7 := hB6.trans (hb.mono hB6.size); clear hb m3)
   | (go_at_call 66; (with_reducible refine (hs _).mono ?_); rintro u w8 ⟨rfl, hb⟩; replace hX := hX.below hb; obtain ⟨p0, p1, p2, p3, p4, p5⟩ := hX.cells; have hB8 := hB7.trans (hb.mono hB7.size); clear hb hs)
   | (go_at_call 90; (with_reducible refine (n0 _).mono ?_); rintro u w9 ⟨rfl, rfl⟩)
   | (go_at_call 90; (with_reducible refine (n1 _).mono ?_); rintro u w10 ⟨rfl, rfl⟩))
  go_ret
  first
   | exact ⟨rfl, hB8⟩
   | exact ⟨by simp, hB8⟩
set_option maxRecDepth 100000 in
set_option maxHeartbeats 4000000 in
theorem all20_calls (A : Option Addr) (c : Nat) (l : List S) (w : World) (hl : Kd.C k32 w A l.length l) (hc : l.length ≤ c) (hw : Wd l) :
 Calls Tryz.prog 65 #[.slice A l.length c] w fun e w' => e = .returned (.int .i64 (allF l).2) ∧ Below w.heap.size w w' := by
 have hu32 := Tryz.underlying32
 unfold allF
 by_cases h1 : l.length > 1048576
 ·have d1 : decide ((1048576 : Int) < (l.length : Int)) = true := by simp; omega
  have d2 : decide (1048576 < l.length) = true := by simp; omega
  rw [if_pos h1]
  clear hl hw h1
  go_enter Tryz.func65, Tryz.ntmps65
  go_wp2
  go_ret
  exact ⟨rfl, Below.refl _ _⟩
 ·have d1 : decide ((1048576 : Int) < (l.length : Int)) = false := by simp; omega
  have d2 : decide (1048576 < l.length) = false := by simp; omega
  rw [if_neg h1]
  have hr : ∃ r : Int × Int, r = (if idxF (fun x => !gp x) 0 l ≥ 0 then (idxF (fun x => !gp x) 0 l, (10 : Int)) else (0, 0)) := ⟨_, rfl⟩
  obtain ⟨r, hr⟩ := hr
  rw [← hr]
  have HR := Aside0.mk hr
  clear hr
  go_enter Tryz.func65, Tryz.ntmps65
  go_wp2
  go_loopw [3] (fun x wr => ∃ (n : Nat), x = .int .i64 n ∧ n ≤ l.length ∧ Below w.heap.size w wr ∧ Aside0 (idxF (fun x => !gp x) n (l.drop n) = idxF (fun x => !gp x) 0 l)) (fun x _ => l.length - (intOf x).toNat)
  case atStart => exact ⟨0, rfl, Nat.zero_le _, Below.refl _ _, ⟨rfl⟩⟩
  case round =>
   obtain ⟨n, rfl, hn, hB, hi⟩ := hrel
   by_cases hlt : n < l.length
   ·have d3 : decide ((n : Int) < (l.length : Int)) = true := by simp; omega
    have d4 : decide (n < l.length) = true := by simp; omega
    have d5 : decide ((0 : Int) ≤ n) = true := by simp
    obtain ⟨ad, rfl, hx0, hx1⟩ := at_T32 (Kd.C_below hl hB) n (by omega) (by omega)
    rw [Int.toNat_natCast] at hx0 hx1
    replace hi := hi.out
    rw [drop_S hlt, idxF] at hi
    have hwd := hw _ (rd_at hlt)
    have hcl := fun W => may04_call (p := rd_T32 l (n : Int)) hwd.1 hwd.2 W
    generalize rd_T32 l (n : Int) = x at *
    cases hg : gp x
    ·rw [hg] at hi hcl
     rw [if_pos (by rfl)] at hi
     replace hi := Aside0.mk hi
     go_wp2_with (go_at_call 69; (with_reducible refine (hcl _).mono ?_); rintro y w1 ⟨rfl, hb1⟩)
     go_ret
     exact ⟨by rw [HR.out, ← hi.out, if_pos (by omega)]; rfl, hB.trans (hb1.mono hB.size)⟩
    ·rw [hg] at hi hcl
     rw [if_neg (by decide)] at hi
     replace hi := Aside0.mk hi
     go_wp2_with (go_at_call 69; (with_reducible refine (hcl _).mono ?_); rintro y w1 ⟨rfl, hb1⟩)
     go_roundw
     case rel => exact ⟨n + 1, by go_num, by omega, hB.trans (hb1.mono hB.size), hi⟩
     case measure => simp [intOf]; omega
   ·have d3 : decide ((n : Int) < (l.length : Int)) = false := by simp; omega
    have d4 : decide (n < l.length) = false := by simp; omega
    replace hi := hi.out
    rw [List.drop_eq_nil_of_le (by omega), idxF] at hi
    replace hi := Aside0.mk hi
    go_wp2
    go_ret
    exact ⟨by rw [HR.out, ← hi.out, if_neg (by omega)]; rfl, hB⟩
end Go.Proofs.YtioahkblhekgpaaGreatDoor.Nw
