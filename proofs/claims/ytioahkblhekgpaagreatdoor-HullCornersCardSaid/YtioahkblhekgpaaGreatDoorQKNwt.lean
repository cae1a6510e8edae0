/- What the proof needs of Nwt: only what is used is left (wip/tools/prune.py). Conditions stand in each sentence. -/
import Derived.Test.YtioahkblhekgpaaGreatDoorQKNws
import Derived.Test.YtioahkblhekgpaaGreatDoorQKNwj
set_option linter.unusedVariables false
set_option linter.unusedSimpArgs false
namespace Go.Proofs.YtioahkblhekgpaaGreatDoor.Adm
end Go.Proofs.YtioahkblhekgpaaGreatDoor.Adm
namespace Go.Proofs.YtioahkblhekgpaaGreatDoor.E
end Go.Proofs.YtioahkblhekgpaaGreatDoor.E
namespace Go.Proofs.YtioahkblhekgpaaGreatDoor.FltP
end Go.Proofs.YtioahkblhekgpaaGreatDoor.FltP
namespace Go.Proofs.YtioahkblhekgpaaGreatDoor.NumP
end Go.Proofs.YtioahkblhekgpaaGreatDoor.NumP
namespace Go.Proofs.YtioahkblhekgpaaGreatDoor.O
end Go.Proofs.YtioahkblhekgpaaGreatDoor.O
namespace Go.Proofs.YtioahkblhekgpaaGreatDoor.R
end Go.Proofs.YtioahkblhekgpaaGreatDoor.R
namespace Go.Proofs.YtioahkblhekgpaaGreatDoorW.PrintLast
end Go.Proofs.YtioahkblhekgpaaGreatDoorW.PrintLast
namespace Go.Proofs.YtioahkblhekgpaaGreatDoorW.PrintMore
end Go.Proofs.YtioahkblhekgpaaGreatDoorW.PrintMore
namespace Go.Proofs.YtioahkblhekgpaaGreatDoorW.PrintWords
end Go.Proofs.YtioahkblhekgpaaGreatDoorW.PrintWords
namespace Go.Proofs.YtioahkblhekgpaaGreatDoor.Nw
open Go.RowKit Go.Proofs.YtioahkblhekgpaaGreatDoor.FltP Go.Proofs.YtioahkblhekgpaaGreatDoor.R Go.Proofs.YtioahkblhekgpaaGreatDoor.E Go.Proofs.YtioahkblhekgpaaGreatDoor.O Go.Proofs.YtioahkblhekgpaaGreatDoorW.PrintWords Go.Proofs.YtioahkblhekgpaaGreatDoorW.PrintLast Go.Proofs.YtioahkblhekgpaaGreatDoorW.PrintMore
open Go.Proofs.YtioahkblhekgpaaGreatDoor.NumP Go.Proofs.YtioahkblhekgpaaGreatDoor.Adm
structure Pts4 (g : Nat) (w : World) (a b c : S) : Prop where
 pts : Pts3 g w a b c
 out : ∃ x0 x1 x2, w.heap[g + 3]? = some (.cells #[x0, x1, x2] 77 (0, 0))
theorem Pts4.below {g : Nat} {w w' : World} {a b c : S} (h : Pts4 g w a b c) (hb : Below w.heap.size w w') : Pts4 g w' a b c := by
 obtain ⟨x0, x1, x2, h3⟩ := h.out
 exact ⟨h.pts.below hb, x0, x1, x2, blk_below h3 hb⟩
theorem Pts4.put {g : Nat} {w : World} {a b c : S} (h : Pts4 g w a b c) (y0 y1 y2 : Value) : Pts4 g (((w.setCell ⟨g + 3, 0, none⟩ y0).setCell ⟨g + 3, 1, none⟩ y1).setCell ⟨g + 3, 2, none⟩ y2) a b c := by
 obtain ⟨x0, x1, x2, h3⟩ := h.out
 exact ⟨h.pts.put h3 y0 y1 y2, y0, y1, y2, num_put h3⟩
theorem Pts4.all {g : Nat} {w : World} {a b c : S} (h : Pts4 g w a b c) : w.cell? ⟨g, 0, none⟩ = some (.float .f64 a.f0) ∧ w.cell? ⟨g, 1, none⟩ = some (.float .f64 a.f1) ∧ w.cell? ⟨g + 1, 0, none⟩ = some (.float .f64 b.f0) ∧ w.cell? ⟨g + 1, 1, none⟩ = some (.float .f64 b.f1) ∧ w.cell? ⟨g + 2, 0, none⟩ = some (.float .f64 c.f0) ∧ w.cell? ⟨g + 2, 1, none⟩ = some (.float .f64 c.f1) ∧ w.cell? ⟨g + 3, 0, none⟩ = some (peek w ⟨g + 3, 0, none⟩) ∧ w.cell? ⟨g + 3, 1, none⟩ = some (peek w ⟨g + 3, 1, none⟩) ∧ w.cell? ⟨g + 3, 2, none⟩ = some (peek w ⟨g + 3, 2, none⟩) ∧ w.frozen? ⟨g + 3, 0, none⟩ = false ∧ w.frozen? ⟨g + 3, 1, none⟩ = false ∧ w.frozen? ⟨g + 3, 2, none⟩ = false := by
 obtain ⟨x0, x1, x2, h3⟩ := h.out
 have h3 := num_cells h3
 obtain ⟨p0, p1, p2, p3, p4, p5⟩ := h.pts.cells
 exact ⟨p0, p1, p2, p3, p4, p5, peek_some h3.1, peek_some h3.2.1, peek_some h3.2.2.1, h3.2.2.2⟩
set_option maxRecDepth 100000 in
set_option maxHeartbeats 8000000 in
theorem sum04_call {a b c : S} (ga : gp a = true) (gb : gp b = true) (gc : gp c = true) (w : World) :
 Calls Tryz.prog 89 #[.agg #[.float .f64 a.f0, .float .f64 a.f1], .agg #[.float .f64 b.f0, .float .f64 b.f1], .agg #[.float .f64 c.f0, .float .f64 c.f1]] w fun e w' => ∃ v, e = .returned v ∧ NumAt w' v 94 2023 (Geo.det (pt a) (pt b) (pt c) * 2 ^ 108) ∧ Below w.heap.size w w' := by
 have hu := Tryz.underlying77
 have hu32 := Tryz.underlying32
 have h1 := gp_good ga
 have h2 := gp_good gb
 have h3 := gp_good gc
 have l1 := fun W => less04_call h2.1.1 h1.1.1 W
 have l2 := fun W => less04_call h3.2.1 h1.2.1 W
 have l3 := fun W => less04_call h2.2.1 h1.2.1 W
 have l4 := fun W => less04_call h3.1.1 h1.1.1 W
 have hdet := det_mul a b c
 have hX : Pts4 w.heap.size _ a b c := ⟨⟨(four_new w _ _ _ (.cells #[.int .i64 0, .slice none 0 0, .int .i64 0] 77)).1, (four_new w _ _ _ _).2.1, (four_new w _ _ _ _).2.2.1⟩, .int .i64 0, .slice none 0 0, .int .i64 0, (four_new w _ _ _ _).2.2.2⟩
 have hB0 := below_alloc (below_alloc (below_alloc (below_alloc (Below.refl w.heap.size w) (.cells #[.float .f64 a.f0, .float .f64 a.f1] 32)) (.cells #[.float .f64 b.f0, .float .f64 b.f1] 32)) (.cells #[.float .f64 c.f0, .float .f64 c.f1] 32)) (.cells #[.int .i64 0, .slice none 0 0, .int .i64 0] 77)
 rw [← hdet]
 clear ga gb gc h1 h2 h3 hdet
 generalize (fval b.f0 - fval a.f0) * 2 ^ 54 = x1 at *
 generalize (fval c.f1 - fval a.f1) * 2 ^ 54 = x2 at *
 generalize (fval b.f1 - fval a.f1) * 2 ^ 54 = x3 at *
 generalize (fval c.f0 - fval a.f0) * 2 ^ 54 = x4 at *
 go_enter Tryz.func89, Tryz.ntmps89
 go_upto_region 1 with (fail)
 generalize (((w.alloc (.cells #[.float .f64 a.f0, .float .f64 a.f1] 32)).alloc (.cells #[.float .f64 b.f0, .float .f64 b.f1] 32)).alloc (.cells #[.float .f64 c.f0, .float .f64 c.f1] 32)).alloc (.cells #[.int .i64 0, .slice none 0 0, .int .i64 0] 77) = w0 at *
 have hN0 := Below.refl w0.heap.size w0
 have hS := hX.all
 go_region_held3 (fun W' => W'.cell? ⟨w.heap.size, 0, none⟩ = some (.float .f64 a.f0) ∧ W'.cell? ⟨w.heap.size, 1, none⟩ = some (.float .f64 a.f1) ∧ W'.cell? ⟨w.heap.size + 1, 0, none⟩ = some (.float .f64 b.f0) ∧ W'.cell? ⟨w.heap.size + 1, 1, none⟩ = some (.float .f64 b.f1) ∧ W'.cell? ⟨w.heap.size + 2, 0, none⟩ = some (.float .f64 c.f0) ∧ W'.cell? ⟨w.heap.size + 2, 1, none⟩ = some (.float .f64 c.f1) ∧ W'.cell? ⟨w.heap.size + 3, 0, none⟩ = some (peek W' ⟨w.heap.size + 3, 0, none⟩) ∧ W'.cell? ⟨w.heap.size + 3, 1, none⟩ = some (peek W' ⟨w.heap.size + 3, 1, none⟩) ∧ W'.cell? ⟨w.heap.size + 3, 2, none⟩ = some (peek W' ⟨w.heap.size + 3, 2, none⟩) ∧ W'.frozen? ⟨w.heap.size + 3, 0, none⟩ = false ∧ W'.frozen? ⟨w.heap.size + 3, 1, none⟩ = false ∧ W'.frozen? ⟨w.heap.size + 3, 2, none⟩ = false)
  (first | exact hS | exact ((hX.below (by (with_reducible (repeat (first | exact hM | exact hN0 | apply below_drew1 | apply below_alloc | apply pw_below_drewN))))).put _ _ _).all | exact (hX.below (by (with_reducible (repeat (first | exact hM | exact hN0 | apply below_drew1 | apply below_alloc | apply pw_below_drewN))))).all)
  (first
   | (go_at_call 122; (with_reducible refine (l1 _).mono ?_); rintro u w5 ⟨v5, rfl, hN5, hb⟩; (first | replace hM := below_step (w := w0) (by (with_reducible (repeat (first | exact hM | exact hN0 | apply below_drew1 | apply below_alloc | apply pw_below_drewN)))) hb | have hM := below_step (w := w0) (by (with_reducible (repeat (first | exact hM | exact hN0 | apply below_drew1 | apply below_alloc | apply pw_below_drewN)))) hb); clear hb)
   | (go_at_call 122; (with_reducible refine (l2 _).mono ?_); rintro u w6 ⟨v6, rfl, hN6, hb⟩; replace hN5 := hN5.below (below_step (w := _) (by (with_reducible (repeat (first | exact Below.refl _ _ | apply below_drew1 | apply below_alloc | apply pw_below_drewN)))) hb); (first | replace hM := below_step (w := w0) (by (with_reducible (repeat (first | exact hM | exact hN0 | apply below_drew1 | apply below_alloc | apply pw_below_drewN)))) hb | have hM := below_step (w := w0) (by (with_reducible (repeat (first | exact hM | exact hN0 | apply below_drew1 | apply below_alloc | apply pw_below_drewN)))) hb); clear hb)
   | (go_at_call 109; (with_reducible refine (mul_call (hN5.below ?hp) (hN6.below ?hq) (by omega)).mono ?_); (case hp => (with_reducible (repeat (first | exact Below.refl _ _ | apply below_drew1 | apply below_alloc | apply pw_below_drewN | assumption)))); (case hq => (with_reducible (repeat (first | exact Below.refl _ _ | apply below_drew1 | apply below_alloc | apply pw_below_drewN | assumption)))); rintro u w7 ⟨v7, rfl, hN7, hb⟩; clear hN5 hN6; (first | replace hM := below_step (w := w0) (by (with_reducible (repeat (first | exact hM | exact hN0 | apply below_drew1 | apply below_alloc | apply pw_below_drewN)))) hb | have hM := below_step (w := w0) (by (with_reducible (repeat (first | exact hM | exact hN0 | apply below_drew1 | apply below_alloc | apply pw_below_drewN)))) hb); clear hb)
   | (go_at_call 122; (with_reducible refine (l3 _).mono ?_); rintro u w8 ⟨v8, rfl, hN8, hb⟩; replace hN7 := hN7.below (below_step (w := _) (by (with_reducible (repeat (first | exact Below.refl _ _ | apply below_drew1 | apply below_alloc | apply pw_below_drewN)))) hb); (first | replace hM := below_step (w := w0) (by (with_reducible (repeat (first | exact hM | exact hN0 | apply below_drew1 | apply below_alloc | apply pw_below_drewN)))) hb | have hM := below_step (w := w0) (by (with_reducible (repeat (first | exact hM | exact hN0 | apply below_drew1 | apply below_alloc | apply pw_below_drewN)))) hb); clear hb)
   | (go_at_call 122; (with_reducible refine (l4 _).mono ?_); rintro u w9 ⟨v9, rfl, hN9, hb⟩; replace hN7 := hN7.below (below_step (w := _) (by (with_reducible (repeat (first | exact Below.refl _ _ | apply below_drew1 | apply below_alloc | apply pw_below_drewN)))) hb); replace hN8 := hN8.below (below_step (w := _) (by (with_reducible (repeat (first | exact Below.refl _ _ | apply below_drew1 | apply below_alloc | apply pw_below_drewN)))) hb); (first | replace hM := below_step (w := w0) (by (with_reducible (repeat (first | exact hM | exact hN0 | apply below_drew1 | apply below_alloc | apply pw_below_drewN)))) hb | have hM := below_step (w := w0) (by (with_reducible (repeat (first | exact hM | exact hN0 | apply below_drew1 | apply below_alloc | apply pw_below_drewN)))) hb); clear hb)
   | (go_at_call 109; (with_reducible refine (mul_call (hN8.below ?hp) (hN9.below ?hq) (by omega)).mono ?_); (case hp => (with_reducible (repeat (first | exact Below.refl _ _ | apply below_drew1 | apply below_alloc | apply pw_below_drewN | assumption)))); (case hq => (with_reducible (repeat (first | exact Below.refl _ _ | apply below_drew1 | apply below_alloc | apply pw_below_drewN | assumption)))); rintro u w10 ⟨v10, rfl, hN10, hb⟩; clear hN8 hN9; replace hN7 := hN7.below (below_step (w := _) (by (with_reducible (repeat (first | exact Below.refl _ _ | apply below_drew1 | apply below_alloc | apply pw_below_drewN)))) hb); (first | replace hM := below_step (w := w0) (by (with_reducible (repeat (first | exact hM | exact hN0 | apply below_drew1 | apply below_alloc | apply pw_below_drewN)))) hb | have hM := below_step (w := w0) (by (with_reducible (repeat (first | exact hM | exact hN0 | apply below_drew1 | apply below_alloc | apply pw_below_drewN)))) hb); clear hb)
   | (go_at_call 111; (with_reducible refine (sub_call (hN7.below ?hp) (hN10.below ?hq) (by omega)).mono ?_); (case hp => (with_reducible (repeat (first | exact Below.refl _ _ | apply below_drew1 | apply below_alloc | apply pw_below_drewN | assumption)))); (case hq => (with_reducible (repeat (first | exact Below.refl _ _ | apply below_drew1 | apply below_alloc | apply pw_below_drewN | assumption)))); rintro u w11 ⟨v11, rfl, hN11, hb⟩; obtain ⟨S5, D5, E5, A5, c5, rfl, hC5, hc5, hW5⟩ := hN11; clear hN7 hN10; (first | replace hM := below_step (w := w0) (by (with_reducible (repeat (first | exact hM | exact hN0 | apply below_drew1 | apply below_alloc | apply pw_below_drewN)))) hb | have hM := below_step (w := w0) (by (with_reducible (repeat (first | exact hM | exact hN0 | apply below_drew1 | apply below_alloc | apply pw_below_drewN)))) hb); have HW5 := Aside0.mk hW5; clear hb hW5))
 all_goals
  obtain ⟨z0, z1, z2, h3⟩ := (hX.below hM).out
  have HX := Aside0.mk h3
  have hBf := hB0.trans (hM.mono hB0.size)
  clear h3 hX hS
  go_wp2
  refine bodyPost_ret (results_cell_row rfl _ _ (w.heap.size + 3) 77 #[.int .i64 S5, .slice A5 D5.length c5, .int .i64 E5] (0, 0) _ rfl (num_put HX.out) Tryz.underlying77 rfl (by kernel_rfl)) rfl ⟨_, rfl, ?_, below_put hBf (by omega)⟩
  exact ⟨S5, D5, E5, A5, c5, rfl, dig_put hC5 HX.out, hc5, HW5.out⟩
end Go.Proofs.YtioahkblhekgpaaGreatDoor.Nw
