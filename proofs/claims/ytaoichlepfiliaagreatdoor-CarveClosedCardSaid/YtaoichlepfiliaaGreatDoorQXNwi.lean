/- Lemmas of Nwi. Conditions stand in each. -/
import Derived.Test.YtaoichlepfiliaaGreatDoorQXNwg
import Derived.Test.YtaoichlepfiliaaGreatDoorQXMcj
import Derived.Test.YtaoichlepfiliaaGreatDoorQXAdm
set_option linter.unusedSimpArgs false
set_option linter.unusedVariables false
section
namespace Go.Proofs.YtaoichlepfiliaaGreatDoor.Nw
open Go.RowKit Go.Proofs.YtaoichlepfiliaaGreatDoor.FltP Go.Proofs.YtaoichlepfiliaaGreatDoor.R Go.Proofs.YtaoichlepfiliaaGreatDoor.E Go.Proofs.YtaoichlepfiliaaGreatDoor.O Go.Proofs.YtaoichlepfiliaaGreatDoorW.PrintWords Go.Proofs.YtaoichlepfiliaaGreatDoorW.PrintLast
open Go.Proofs.YtaoichlepfiliaaGreatDoor.NumP Go.Proofs.YtaoichlepfiliaaGreatDoor.Adm
def NumIn (w : World) (o B n : Nat) (x : Int) : Prop := ∃ (S : Int) (D : List Int) (E : Int) (A : Option Addr) (c : Nat), w.heap[o]? = some (.cells #[.int .i64 S, .slice A D.length c, .int .i64 E] 131 (0, 0)) ∧ DigAt w A D ∧ D.length ≤ c ∧ Worth S D E B n x
theorem NumIn.below {w w' : World} {o B n : Nat} {x : Int} (h : NumIn w o B n x) (hb : Below w.heap.size w w') : NumIn w' o B n x := by
 obtain ⟨S, D, E, A, c, hh, hD, hc, hW⟩ := h
 exact ⟨S, D, E, A, c, blk_below hh hb, hD.below hb, hc, hW⟩
structure Pts3 (g : Nat) (w : World) (a b c : S) : Prop where
 one : w.heap[g]? = some (.cells #[.float .f64 a.f0, .float .f64 a.f1] 71 (0, 0))
 two : w.heap[g + 1]? = some (.cells #[.float .f64 b.f0, .float .f64 b.f1] 71 (0, 0))
 thr : w.heap[g + 2]? = some (.cells #[.float .f64 c.f0, .float .f64 c.f1] 71 (0, 0))
theorem Pts3.below {g : Nat} {w w' : World} {a b c : S} (h : Pts3 g w a b c) (hb : Below w.heap.size w w') : Pts3 g w' a b c := ⟨blk_below h.one hb, blk_below h.two hb, blk_below h.thr hb⟩
theorem Pts3.cells {g : Nat} {w : World} {a b c : S} (h : Pts3 g w a b c) : w.cell? ⟨g, 0, none⟩ = some (.float .f64 a.f0) ∧ w.cell? ⟨g, 1, none⟩ = some (.float .f64 a.f1) ∧ w.cell? ⟨g + 1, 0, none⟩ = some (.float .f64 b.f0) ∧ w.cell? ⟨g + 1, 1, none⟩ = some (.float .f64 b.f1) ∧ w.cell? ⟨g + 2, 0, none⟩ = some (.float .f64 c.f0) ∧ w.cell? ⟨g + 2, 1, none⟩ = some (.float .f64 c.f1) :=
 ⟨(blk_cell h.one 0).trans rfl, (blk_cell h.one 1).trans rfl, (blk_cell h.two 0).trans rfl, (blk_cell h.two 1).trans rfl, (blk_cell h.thr 0).trans rfl, (blk_cell h.thr 1).trans rfl⟩
theorem Pts3.put {g : Nat} {w : World} {a b c : S} (h : Pts3 g w a b c) {k : Nat} {cs : Array Value} (hz : w.heap[k]? = some (.cells cs 131 (0, 0))) (y0 y1 y2 : Value) : Pts3 g (((w.setCell ⟨k, 0, none⟩ y0).setCell ⟨k, 1, none⟩ y1).setCell ⟨k, 2, none⟩ y2) a b c := by
 have n1 := blk_ne h.one hz (by decide)
 have n2 := blk_ne h.two hz (by decide)
 have n3 := blk_ne h.thr hz (by decide)
 exact ⟨blk_far (blk_far (blk_far h.one n1 _) n1 _) n1 _, blk_far (blk_far (blk_far h.two n2 _) n2 _) n2 _, blk_far (blk_far (blk_far h.thr n3 _) n3 _) n3 _⟩
theorem box_cap {w0 X w' : World} {Z : Obj} (hM : Below w0.heap.size w0 X) (hb : Below (X.alloc Z).heap.size (X.alloc Z) w') : w'.heap[X.heap.size]? = some Z ∧ w0.heap.size ≤ X.heap.size := ⟨blk_below (blk_new X Z) hb, hM.size⟩
theorem box_cap2 {w0 X w' : World} {Z : Obj} (hM : Below w0.heap.size w0 X) (hb : Below (X.alloc Z).drew.heap.size (X.alloc Z).drew w') : w'.heap[X.heap.size]? = some Z ∧ w0.heap.size ≤ X.heap.size := ⟨blk_below (blk_drew (blk_new X Z)) hb, hM.size⟩
theorem four_new (w : World) (a b c d : Obj) : ((((w.alloc a).alloc b).alloc c).alloc d).heap[w.heap.size]? = some a ∧ ((((w.alloc a).alloc b).alloc c).alloc d).heap[w.heap.size + 1]? = some b ∧ ((((w.alloc a).alloc b).alloc c).alloc d).heap[w.heap.size + 2]? = some c ∧ ((((w.alloc a).alloc b).alloc c).alloc d).heap[w.heap.size + 3]? = some d := by
 have h := blk_new (((w.alloc a).alloc b).alloc c) d
 rw [show (((w.alloc a).alloc b).alloc c).heap.size = w.heap.size + 3 from by simp] at h
 obtain ⟨x, y, z⟩ := three_new w a b c
 exact ⟨blk_alloc x d, blk_alloc y d, blk_alloc z d, h⟩
theorem det_mul (a b c : S) : (fval b.f0 - fval a.f0) * 2 ^ 54 * ((fval c.f1 - fval a.f1) * 2 ^ 54) - (fval b.f1 - fval a.f1) * 2 ^ 54 * ((fval c.f0 - fval a.f0) * 2 ^ 54) = Geo.det (pt a) (pt b) (pt c) * 2 ^ 108 := by
 unfold Geo.det pt
 rw [show (108 : Nat) = 54 + 54 from rfl, Int.pow_add]
 simp only
 generalize (2 : Int) ^ 54 = u
 grind
set_option maxRecDepth 100000 in
set_option maxHeartbeats 8000000 in
theorem turn05_call {a b c : S} (ga : gp a = true) (gb : gp b = true) (gc : gp c = true) (w : World) :
 Calls Tryz.prog 97 #[.agg #[.float .f64 a.f0, .float .f64 a.f1], .agg #[.float .f64 b.f0, .float .f64 b.f1], .agg #[.float .f64 c.f0, .float .f64 c.f1]] w fun e w' => ∃ v, e = .returned v ∧ NumAt w' v 94 2023 (Geo.det (pt a) (pt b) (pt c) * 2 ^ 108) ∧ Below w.heap.size w w' := by
 have hu := Tryz.underlying131
 have hu32 := Tryz.underlying71
 have h1 := gp_good ga
 have h2 := gp_good gb
 have h3 := gp_good gc
 have l1 := fun W => less05_call h2.1.1 h1.1.1 W
 have l2 := fun W => less05_call h3.2.1 h1.2.1 W
 have l3 := fun W => less05_call h2.2.1 h1.2.1 W
 have l4 := fun W => less05_call h3.1.1 h1.1.1 W
 have hdet := det_mul a b c
 have hX : Pts3 w.heap.size _ a b c := ⟨(four_new w _ _ _ (.cells #[.int .i64 0, .slice none 0 0, .int .i64 0] 131)).1, (four_new w _ _ _ _).2.1, (four_new w _ _ _ _).2.2.1⟩
 have hout := (four_new w (.cells #[.float .f64 a.f0, .float .f64 a.f1] 71) (.cells #[.float .f64 b.f0, .float .f64 b.f1] 71) (.cells #[.float .f64 c.f0, .float .f64 c.f1] 71) (.cells #[.int .i64 0, .slice none 0 0, .int .i64 0] 131)).2.2.2
 have hB0 := below_alloc (below_alloc (below_alloc (below_alloc (Below.refl w.heap.size w) (.cells #[.float .f64 a.f0, .float .f64 a.f1] 71)) (.cells #[.float .f64 b.f0, .float .f64 b.f1] 71)) (.cells #[.float .f64 c.f0, .float .f64 c.f1] 71)) (.cells #[.int .i64 0, .slice none 0 0, .int .i64 0] 131)
 rw [← hdet]
 clear ga gb gc h1 h2 h3 hdet
 generalize (fval b.f0 - fval a.f0) * 2 ^ 54 = x1 at *
 generalize (fval c.f1 - fval a.f1) * 2 ^ 54 = x2 at *
 generalize (fval b.f1 - fval a.f1) * 2 ^ 54 = x3 at *
 generalize (fval c.f0 - fval a.f0) * 2 ^ 54 = x4 at *
 go_enter Tryz.func97, Tryz.ntmps97
 go_upto_region 1 with (fail)
 generalize (((w.alloc (.cells #[.float .f64 a.f0, .float .f64 a.f1] 71)).alloc (.cells #[.float .f64 b.f0, .float .f64 b.f1] 71)).alloc (.cells #[.float .f64 c.f0, .float .f64 c.f1] 71)).alloc (.cells #[.int .i64 0, .slice none 0 0, .int .i64 0] 131) = w0 at *
 go_cut [7] (fun v7 wc => ∃ o, v7 = .pointer (some ⟨o, 0, none⟩) ∧ NumIn wc o 94 2022 (x1 * x2) ∧ Below w0.heap.size w0 wc)
 case first =>
  have hN0 := Below.refl w0.heap.size w0
  have hS := hX.cells
  go_region_held3 (fun W' => W'.cell? ⟨w.heap.size, 0, none⟩ = some (.float .f64 a.f0) ∧ W'.cell? ⟨w.heap.size, 1, none⟩ = some (.float .f64 a.f1) ∧ W'.cell? ⟨w.heap.size + 1, 0, none⟩ = some (.float .f64 b.f0) ∧ W'.cell? ⟨w.heap.size + 1, 1, none⟩ = some (.float .f64 b.f1) ∧ W'.cell? ⟨w.heap.size + 2, 0, none⟩ = some (.float .f64 c.f0) ∧ W'.cell? ⟨w.heap.size + 2, 1, none⟩ = some (.float .f64 c.f1))
   (first | exact hS | exact ((hX.below (by (with_reducible (repeat (first | exact hM | exact hN0 | apply below_drew1 | apply below_alloc | apply pw_below_drewN | assumption))))).put hz _ _ _).cells | exact (hX.below (by (with_reducible (repeat (first | exact hM | exact hN0 | apply below_drew1 | apply below_alloc | apply pw_below_drewN | assumption))))).cells)
   (first
    | (go_at_call 122; (with_reducible refine (l1 _).mono ?_); rintro u w5 ⟨v5, rfl, hN5, hb⟩; (try replace hN6 := hN6.below (below_step (w := _) (by (with_reducible (repeat (first | exact Below.refl _ _ | apply below_drew1 | apply below_alloc | apply pw_below_drewN)))) hb)); (first | (replace hz := blk_below hz hb; obtain ⟨z0, z1, z2, z3, z4, z5⟩ := num_cells hz) | ((with_reducible have hzz := box_cap (w0 := w0) (Z := (.cells #[.int .i64 0, .slice none 0 0, .int .i64 0] 131)) (by (with_reducible (repeat (first | exact hM | exact hN0 | apply below_drew1 | apply below_alloc | apply pw_below_drewN)))) hb); obtain ⟨hz, hzk⟩ := hzz; obtain ⟨z0, z1, z2, z3, z4, z5⟩ := num_cells hz) | ((with_reducible have hzz := box_cap2 (w0 := w0) (Z := (.cells #[.int .i64 0, .slice none 0 0, .int .i64 0] 131)) (by (with_reducible (repeat (first | exact hM | exact hN0 | apply below_drew1 | apply below_alloc | apply pw_below_drewN)))) hb); obtain ⟨hz, hzk⟩ := hzz; obtain ⟨z0, z1, z2, z3, z4, z5⟩ := num_cells hz) | skip); (first | replace hM := below_step (w := w0) (by (with_reducible (repeat (first | exact hM | exact hN0 | apply below_drew1 | apply below_alloc | apply pw_below_drewN)))) hb | have hM := below_step (w := w0) (by (with_reducible (repeat (first | exact hM | exact hN0 | apply below_drew1 | apply below_alloc | apply pw_below_drewN)))) hb); clear hb)
    | (go_at_call 122; (with_reducible refine (l2 _).mono ?_); rintro u w6 ⟨v6, rfl, hN6, hb⟩; (try replace hN5 := hN5.below (below_step (w := _) (by (with_reducible (repeat (first | exact Below.refl _ _ | apply below_drew1 | apply below_alloc | apply pw_below_drewN)))) hb)); (first | (replace hz := blk_below hz hb; obtain ⟨z0, z1, z2, z3, z4, z5⟩ := num_cells hz) | ((with_reducible have hzz := box_cap (w0 := w0) (Z := (.cells #[.int .i64 0, .slice none 0 0, .int .i64 0] 131)) (by (with_reducible (repeat (first | exact hM | exact hN0 | apply below_drew1 | apply below_alloc | apply pw_below_drewN)))) hb); obtain ⟨hz, hzk⟩ := hzz; obtain ⟨z0, z1, z2, z3, z4, z5⟩ := num_cells hz) | ((with_reducible have hzz := box_cap2 (w0 := w0) (Z := (.cells #[.int .i64 0, .slice none 0 0, .int .i64 0] 131)) (by (with_reducible (repeat (first | exact hM | exact hN0 | apply below_drew1 | apply below_alloc | apply pw_below_drewN)))) hb); obtain ⟨hz, hzk⟩ := hzz; obtain ⟨z0, z1, z2, z3, z4, z5⟩ := num_cells hz) | skip); (first | replace hM := below_step (w := w0) (by (with_reducible (repeat (first | exact hM | exact hN0 | apply below_drew1 | apply below_alloc | apply pw_below_drewN)))) hb | have hM := below_step (w := w0) (by (with_reducible (repeat (first | exact hM | exact hN0 | apply below_drew1 | apply below_alloc | apply pw_below_drewN)))) hb); clear hb)
    | (go_at_call 121; (with_reducible refine (mul_call (hN5.below ?hp) (hN6.below ?hq) (by omega)).mono ?_); (case hp => (with_reducible (repeat (first | exact Below.refl _ _ | apply below_drew1 | apply below_alloc | apply pw_below_drewN)))); (case hq => (with_reducible (repeat (first | exact Below.refl _ _ | apply below_drew1 | apply below_alloc | apply pw_below_drewN)))); rintro u w7 ⟨v7, rfl, hN7, hb⟩; obtain ⟨S7, D7, E7, A7, c7, rfl, hC7, hc7, hW7⟩ := hN7; (first | (replace hz := blk_below hz hb; obtain ⟨z0, z1, z2, z3, z4, z5⟩ := num_cells hz) | ((with_reducible have hzz := box_cap (w0 := w0) (Z := (.cells #[.int .i64 0, .slice none 0 0, .int .i64 0] 131)) (by (with_reducible (repeat (first | exact hM | exact hN0 | apply below_drew1 | apply below_alloc | apply pw_below_drewN)))) hb); obtain ⟨hz, hzk⟩ := hzz; obtain ⟨z0, z1, z2, z3, z4, z5⟩ := num_cells hz) | ((with_reducible have hzz := box_cap2 (w0 := w0) (Z := (.cells #[.int .i64 0, .slice none 0 0, .int .i64 0] 131)) (by (with_reducible (repeat (first | exact hM | exact hN0 | apply below_drew1 | apply below_alloc | apply pw_below_drewN)))) hb); obtain ⟨hz, hzk⟩ := hzz; obtain ⟨z0, z1, z2, z3, z4, z5⟩ := num_cells hz) | skip); (first | replace hM := below_step (w := w0) (by (with_reducible (repeat (first | exact hM | exact hN0 | apply below_drew1 | apply below_alloc | apply pw_below_drewN)))) hb | have hM := below_step (w := w0) (by (with_reducible (repeat (first | exact hM | exact hN0 | apply below_drew1 | apply below_alloc | apply pw_below_drewN)))) hb); have HW7 := Aside0.mk hW7; clear hb hW7 hN5 hN6))
  all_goals
   go_wp2
   go_meet
  all_goals
   first
    | exact ⟨_, rfl, ⟨S7, D7, E7, A7, c7, num_put hz, dig_put hC7 hz, hc7, HW7.out⟩, below_put (by (with_reducible (repeat (first | exact hM | exact hN0 | apply below_drew1 | apply below_alloc | apply pw_below_drewN)))) hzk⟩
    | exact ⟨w7.heap.size, rfl, ⟨S7, D7, E7, A7, c7, blk_new _ _, hC7.below (below_alloc (Below.refl _ _) _), hc7, HW7.out⟩, below_alloc (by (with_reducible (repeat (first | exact hM | exact hN0 | apply below_drew1 | apply below_alloc | apply pw_below_drewN)))) _⟩
 case rest =>
  obtain ⟨o, rfl, hO, hBc⟩ := hcut
  replace hX := hX.below hBc
  have hout2 := blk_below hout hBc
  replace hB0 := hB0.trans (hBc.mono hB0.size)
  clear hout hBc l1 l2
  clear w0
  obtain ⟨w0, hw0⟩ : ∃ w0 : World, w0 = wc := ⟨wc, rfl⟩
  subst hw0
  have HO := Aside0.mk hO
  have HT := Aside0.mk hout2
  clear hO hout2
  go_upto_region 2 with (fail)
  go_cut [8] (fun v8 wc => ∃ p, v8 = .pointer (some ⟨p, 0, none⟩) ∧ NumIn wc p 94 2022 (x3 * x4) ∧ Below w0.heap.size w0 wc)
  case first =>
   have hN0 := Below.refl w0.heap.size w0
   have hS := hX.cells
   go_region_held3 (fun W' => W'.cell? ⟨w.heap.size, 0, none⟩ = some (.float .f64 a.f0) ∧ W'.cell? ⟨w.heap.size, 1, none⟩ = some (.float .f64 a.f1) ∧ W'.cell? ⟨w.heap.size + 1, 0, none⟩ = some (.float .f64 b.f0) ∧ W'.cell? ⟨w.heap.size + 1, 1, none⟩ = some (.float .f64 b.f1) ∧ W'.cell? ⟨w.heap.size + 2, 0, none⟩ = some (.float .f64 c.f0) ∧ W'.cell? ⟨w.heap.size + 2, 1, none⟩ = some (.float .f64 c.f1))
    (first | exact hS | exact ((hX.below (by (with_reducible (repeat (first | exact hM | exact hN0 | apply below_drew1 | apply below_alloc | apply pw_below_drewN | assumption))))).put hz _ _ _).cells | exact (hX.below (by (with_reducible (repeat (first | exact hM | exact hN0 | apply below_drew1 | apply below_alloc | apply pw_below_drewN | assumption))))).cells)
    (first
     | (go_at_call 122; (with_reducible refine (l3 _).mono ?_); rintro u w5 ⟨v5, rfl, hN5, hb⟩; (try replace hN6 := hN6.below (below_step (w := _) (by (with_reducible (repeat (first | exact Below.refl _ _ | apply below_drew1 | apply below_alloc | apply pw_below_drewN)))) hb)); (first | (replace hz := blk_below hz hb; obtain ⟨z0, z1, z2, z3, z4, z5⟩ := num_cells hz) | ((with_reducible have hzz := box_cap (w0 := w0) (Z := (.cells #[.int .i64 0, .slice none 0 0, .int .i64 0] 131)) (by (with_reducible (repeat (first | exact hM | exact hN0 | apply below_drew1 | apply below_alloc | apply pw_below_drewN)))) hb); obtain ⟨hz, hzk⟩ := hzz; obtain ⟨z0, z1, z2, z3, z4, z5⟩ := num_cells hz) | ((with_reducible have hzz := box_cap2 (w0 := w0) (Z := (.cells #[.int .i64 0, .slice none 0 0, .int .i64 0] 131)) (by (with_reducible (repeat (first | exact hM | exact hN0 | apply below_drew1 | apply below_alloc | apply pw_below_drewN)))) hb); obtain ⟨hz, hzk⟩ := hzz; obtain ⟨z0, z1, z2, z3, z4, z5⟩ := num_cells hz) | skip); (first | replace hM := below_step (w := w0) (by (with_reducible (repeat (first | exact hM | exact hN0 | apply below_drew1 | apply below_alloc | apply pw_below_drewN)))) hb | have hM := below_step (w := w0) (by (with_reducible (repeat (first | exact hM | exact hN0 | apply below_drew1 | apply below_alloc | apply pw_below_drewN)))) hb); clear hb)
     | (go_at_call 122; (with_reducible refine (l4 _).mono ?_); rintro u w6 ⟨v6, rfl, hN6, hb⟩; (try replace hN5 := hN5.below (below_step (w := _) (by (with_reducible (repeat (first | exact Below.refl _ _ | apply below_drew1 | apply below_alloc | apply pw_below_drewN)))) hb)); (first | (replace hz := blk_below hz hb; obtain ⟨z0, z1, z2, z3, z4, z5⟩ := num_cells hz) | ((with_reducible have hzz := box_cap (w0 := w0) (Z := (.cells #[.int .i64 0, .slice none 0 0, .int .i64 0] 131)) (by (with_reducible (repeat (first | exact hM | exact hN0 | apply below_drew1 | apply below_alloc | apply pw_below_drewN)))) hb); obtain ⟨hz, hzk⟩ := hzz; obtain ⟨z0, z1, z2, z3, z4, z5⟩ := num_cells hz) | ((with_reducible have hzz := box_cap2 (w0 := w0) (Z := (.cells #[.int .i64 0, .slice none 0 0, .int .i64 0] 131)) (by (with_reducible (repeat (first | exact hM | exact hN0 | apply below_drew1 | apply below_alloc | apply pw_below_drewN)))) hb); obtain ⟨hz, hzk⟩ := hzz; obtain ⟨z0, z1, z2, z3, z4, z5⟩ := num_cells hz) | skip); (first | replace hM := below_step (w := w0) (by (with_reducible (repeat (first | exact hM | exact hN0 | apply below_drew1 | apply below_alloc | apply pw_below_drewN)))) hb | have hM := below_step (w := w0) (by (with_reducible (repeat (first | exact hM | exact hN0 | apply below_drew1 | apply below_alloc | apply pw_below_drewN)))) hb); clear hb)
     | (go_at_call 121; (with_reducible refine (mul_call (hN5.below ?hp) (hN6.below ?hq) (by omega)).mono ?_); (case hp => (with_reducible (repeat (first | exact Below.refl _ _ | apply below_drew1 | apply below_alloc | apply pw_below_drewN)))); (case hq => (with_reducible (repeat (first | exact Below.refl _ _ | apply below_drew1 | apply below_alloc | apply pw_below_drewN)))); rintro u w7 ⟨v7, rfl, hN7, hb⟩; obtain ⟨S7, D7, E7, A7, c7, rfl, hC7, hc7, hW7⟩ := hN7; (first | (replace hz := blk_below hz hb; obtain ⟨z0, z1, z2, z3, z4, z5⟩ := num_cells hz) | ((with_reducible have hzz := box_cap (w0 := w0) (Z := (.cells #[.int .i64 0, .slice none 0 0, .int .i64 0] 131)) (by (with_reducible (repeat (first | exact hM | exact hN0 | apply below_drew1 | apply below_alloc | apply pw_below_drewN)))) hb); obtain ⟨hz, hzk⟩ := hzz; obtain ⟨z0, z1, z2, z3, z4, z5⟩ := num_cells hz) | ((with_reducible have hzz := box_cap2 (w0 := w0) (Z := (.cells #[.int .i64 0, .slice none 0 0, .int .i64 0] 131)) (by (with_reducible (repeat (first | exact hM | exact hN0 | apply below_drew1 | apply below_alloc | apply pw_below_drewN)))) hb); obtain ⟨hz, hzk⟩ := hzz; obtain ⟨z0, z1, z2, z3, z4, z5⟩ := num_cells hz) | skip); (first | replace hM := below_step (w := w0) (by (with_reducible (repeat (first | exact hM | exact hN0 | apply below_drew1 | apply below_alloc | apply pw_below_drewN)))) hb | have hM := below_step (w := w0) (by (with_reducible (repeat (first | exact hM | exact hN0 | apply below_drew1 | apply below_alloc | apply pw_below_drewN)))) hb); have HW7 := Aside0.mk hW7; clear hb hW7 hN5 hN6))
   all_goals
    go_wp2
    go_meet
   all_goals
    first
     | exact ⟨_, rfl, ⟨S7, D7, E7, A7, c7, num_put hz, dig_put hC7 hz, hc7, HW7.out⟩, below_put (by (with_reducible (repeat (first | exact hM | exact hN0 | apply below_drew1 | apply below_alloc | apply pw_below_drewN)))) hzk⟩
     | exact ⟨w7.heap.size, rfl, ⟨S7, D7, E7, A7, c7, blk_new _ _, hC7.below (below_alloc (Below.refl _ _) _), hc7, HW7.out⟩, below_alloc (by (with_reducible (repeat (first | exact hM | exact hN0 | apply below_drew1 | apply below_alloc | apply pw_below_drewN)))) _⟩
  case rest =>
   obtain ⟨p, rfl, hP, hBc⟩ := hcut
   have hO := HO.out.below hBc
   have hout2 := blk_below HT.out hBc
   replace hB0 := hB0.trans (hBc.mono hB0.size)
   clear hX hBc l3 l4 HO HT
   clear w0
   obtain ⟨S1, D1, E1, A1, c1, k1, hC1, hc1, hW1⟩ := hO
   obtain ⟨S2, D2, E2, A2, c2, k2, hC2, hc2, hW2⟩ := hP
   obtain ⟨p0, p1, p2, p3, p4, p5⟩ := num_cells k1
   obtain ⟨q0, q1, q2, q3, q4, q5⟩ := num_cells k2
   have n1 : NumAt wc (.agg #[.int .i64 S1, .slice A1 D1.length c1, .int .i64 E1]) 94 2022 (x1 * x2) := ⟨S1, D1, E1, A1, c1, rfl, hC1, hc1, hW1⟩
   have n2 : NumAt wc (.agg #[.int .i64 S2, .slice A2 D2.length c2, .int .i64 E2]) 94 2022 (x3 * x4) := ⟨S2, D2, E2, A2, c2, rfl, hC2, hc2, hW2⟩
   have hs := sub_call n1 n2 (by omega)
   have HT := Aside0.mk hout2
   clear n1 n2 hW1 hW2 hC1 hC2 hc1 hc2 k1 k2 hout2
   go_wp2_with (go_at_call 123; (with_reducible refine hs.mono ?_); rintro u w5 ⟨v5, rfl, hN5, hb5⟩; have hB5 := hB0.trans (hb5.mono hB0.size); have hO5 := blk_below HT.out hb5; obtain ⟨r0, r1, r2, r3, r4, r5⟩ := num_cells hO5; obtain ⟨S5, D5, E5, A5, c5, rfl, hC5, hc5, hW5⟩ := hN5; have HW5 := Aside0.mk hW5; have HO5 := Aside0.mk hO5; clear hb5 hs hW5 hO5)
   refine bodyPost_ret (results_cell_row rfl _ _ (w.heap.size + 3) 131 #[.int .i64 S5, .slice A5 D5.length c5, .int .i64 E5] (0, 0) _ rfl (num_put HO5.out) Tryz.underlying131 rfl (by kernel_rfl)) rfl ⟨_, rfl, ?_, below_put hB5 (by omega)⟩
   exact ⟨S5, D5, E5, A5, c5, rfl, dig_put hC5 HO5.out, hc5, HW5.out⟩
theorem det_sign (d : Int) : (d * 2 ^ 108).sign = d.sign := by
 rw [Int.sign_mul, Int.sign_eq_one_of_pos (a := (2 : Int) ^ 108) (by decide), Int.mul_one]
set_option maxRecDepth 100000 in
set_option maxHeartbeats 4000000 in
theorem left05_call {a b c : S} (ga : gp a = true) (gb : gp b = true) (gc : gp c = true) (w : World) :
 Calls Tryz.prog 70 #[.agg #[.float .f64 a.f0, .float .f64 a.f1], .agg #[.float .f64 b.f0, .float .f64 b.f1], .agg #[.float .f64 c.f0, .float .f64 c.f1]] w fun e w' => e = .returned (.int .i64 (sgnS a b c)) ∧ Below w.heap.size w w' := by
 have hu := Tryz.underlying131
 have hu32 := Tryz.underlying71
 have m1 := fun W => may05_call (gp_wd ga).1 (gp_wd ga).2 W
 have m2 := fun W => may05_call (gp_wd gb).1 (gp_wd gb).2 W
 have m3 := fun W => may05_call (gp_wd gc).1 (gp_wd gc).2 W
 rw [ga] at m1
 rw [gb] at m2
 rw [gc] at m3
 have ht := fun W => turn05_call ga gb gc W
 have hX : Pts3 w.heap.size _ a b c := ⟨(three_new w _ _ _).1, (three_new w _ _ _).2.1, (three_new w _ _ _).2.2⟩
 have hB0 := below_alloc (below_alloc (below_alloc (Below.refl w.heap.size w) (.cells #[.float .f64 a.f0, .float .f64 a.f1] 71)) (.cells #[.float .f64 b.f0, .float .f64 b.f1] 71)) (.cells #[.float .f64 c.f0, .float .f64 c.f1] 71)
 clear ga gb gc
 go_enter Tryz.func70, Tryz.ntmps70
 go_upto_region 1 with (fail)
 generalize ((w.alloc (.cells #[.float .f64 a.f0, .float .f64 a.f1] 71)).alloc (.cells #[.float .f64 b.f0, .float .f64 b.f1] 71)).alloc (.cells #[.float .f64 c.f0, .float .f64 c.f1] 71) = w0 at *
 obtain ⟨p0, p1, p2, p3, p4, p5⟩ := hX.cells
 go_wp2_with (first
  | (go_at_call 47; (with_reducible refine (m1 _).mono ?_); rintro u w5 ⟨rfl, hb⟩; replace hX := hX.below hb; obtain ⟨p0, p1, p2, p3, p4, p5⟩ := hX.cells; have hB5 := hB0.trans (hb.mono hB0.size); clear hb m1)
  | (go_at_call 47; (with_reducible refine (m2 _).mono ?_); rintro u w6 ⟨rfl, hb⟩; replace hX := hX.below hb; obtain ⟨p0, p1, p2, p3, p4, p5⟩ := hX.cells; have hB6 := hB5.trans (hb.mono hB5.size); clear hb m2)
  | (go_at_call 47; (with_reducible refine (m3 _).mono ?_); rintro u w7 ⟨rfl, hb⟩; replace hX := hX.below hb; obtain ⟨p0, p1, p2, p3, p4, p5⟩ := hX.cells; have hB7 := hB6.trans (hb.mono hB6.size); clear hb m3)
  | (go_at_call 97; (with_reducible refine (ht _).mono ?_); rintro u w8 ⟨v8, rfl, hN, hb⟩; obtain ⟨S5, D5, E5, A5, c5, rfl, hC5, hc5, hW5⟩ := hN; have hsg := Aside0.mk (hW5.sign.trans (det_sign _)); have hB8 := hB7.trans (hb.mono hB7.size); clear hb hW5 hC5 hc5 ht))
 go_ret
 exact ⟨by rw [hsg.out]; rfl, hB8⟩
set_option maxRecDepth 100000 in
set_option maxHeartbeats 4000000 in
theorem all07_calls (A : Option Addr) (c : Nat) (l : List S) (w : World) (hl : Kd.C k71 w A l.length l) (hc : l.length ≤ c) (hw : Wd l) :
 Calls Tryz.prog 65 #[.slice A l.length c] w fun e w' => e = .returned (.tuple #[.int .i64 (allF l).1, .int .i64 (allF l).2]) ∧ Below w.heap.size w w' := by
 have hu32 := Tryz.underlying71
 unfold allF
 by_cases h1 : l.length > 1048576
 ·have d1 : decide ((1048576 : Int) < (l.length : Int)) = true := by simp; omega
  have d2 : decide (1048576 < l.length) = true := by simp; omega
  rw [if_pos h1]
  clear hl hw h1
  go_enter Tryz.func65, Tryz.ntmps65
  go_wp2
  go_ret2
  exact ⟨rfl, Below.refl _ _⟩
 ·have d1 : decide ((1048576 : Int) < (l.length : Int)) = false := by simp; omega
  have d2 : decide (1048576 < l.length) = false := by simp; omega
  rw [if_neg h1]
  have hr : ∃ r : Int × Int, r = (if idxF (fun x => !gp x) 0 l ≥ 0 then (idxF (fun x => !gp x) 0 l, (10 : Int)) else (0, 0)) := ⟨_, rfl⟩
  obtain ⟨r, hr⟩ := hr
  rw [← hr]
  have HR := Aside0.mk hr
  clear hr
  go_enter Tryz.func65, Tryz.ntmps65
  go_wp2
  go_loopw [4] (fun x wr => ∃ (n : Nat), x = .int .i64 n ∧ n ≤ l.length ∧ Below w.heap.size w wr ∧ Aside0 (idxF (fun x => !gp x) n (l.drop n) = idxF (fun x => !gp x) 0 l)) (fun x _ => l.length - (intOf x).toNat)
  case atStart => exact ⟨0, rfl, Nat.zero_le _, Below.refl _ _, ⟨rfl⟩⟩
  case round =>
   obtain ⟨n, rfl, hn, hB, hi⟩ := hrel
   by_cases hlt : n < l.length
   ·have d3 : decide ((n : Int) < (l.length : Int)) = true := by simp; omega
    have d4 : decide (n < l.length) = true := by simp; omega
    have d5 : decide ((0 : Int) ≤ n) = true := by simp
    obtain ⟨ad, rfl, hx0, hx1⟩ := at_T71 (Kd.C_below hl hB) n (by omega) (by omega)
    rw [Int.toNat_natCast] at hx0 hx1
    replace hi := hi.out
    rw [drop_S hlt, idxF] at hi
    have hwd := hw _ (rd_at hlt)
    have hcl := fun W => may05_call (p := rd_T71 l (n : Int)) hwd.1 hwd.2 W
    generalize rd_T71 l (n : Int) = x at *
    cases hg : gp x
    ·rw [hg] at hi hcl
     rw [if_pos (by rfl)] at hi
     replace hi := Aside0.mk hi
     go_wp2_with (go_at_call 47; (with_reducible refine (hcl _).mono ?_); rintro y w1 ⟨rfl, hb1⟩)
     go_ret2
     exact ⟨by rw [HR.out, ← hi.out, if_pos (by omega)]; rfl, hB.trans (hb1.mono hB.size)⟩
    ·rw [hg] at hi hcl
     rw [if_neg (by decide)] at hi
     replace hi := Aside0.mk hi
     go_wp2_with (go_at_call 47; (with_reducible refine (hcl _).mono ?_); rintro y w1 ⟨rfl, hb1⟩)
     go_roundw
     case rel => exact ⟨n + 1, by go_num, by omega, hB.trans (hb1.mono hB.size), hi⟩
     case measure => simp [intOf]; omega
   ·have d3 : decide ((n : Int) < (l.length : Int)) = false := by simp; omega
    have d4 : decide (n < l.length) = false := by simp; omega
    replace hi := hi.out
    rw [List.drop_eq_nil_of_le (by omega), idxF] at hi
    replace hi := Aside0.mk hi
    go_wp2
    go_ret2
    exact ⟨by rw [HR.out, ← hi.out, if_neg (by omega)]; rfl, hB⟩
end Go.Proofs.YtaoichlepfiliaaGreatDoor.Nw
end
