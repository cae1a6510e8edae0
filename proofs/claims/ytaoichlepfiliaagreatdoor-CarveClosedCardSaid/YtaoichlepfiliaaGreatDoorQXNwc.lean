/- Lemmas of Nwc. Conditions stand in each. -/
import Derived.Test.YtaoichlepfiliaaGreatDoorQXNwb
set_option linter.unusedSimpArgs false
set_option linter.unusedVariables false
namespace Go.Proofs.YtaoichlepfiliaaGreatDoor.Nw
open Go.RowKit Go.Proofs.YtaoichlepfiliaaGreatDoor.FltP Go.Proofs.YtaoichlepfiliaaGreatDoor.R Go.Proofs.YtaoichlepfiliaaGreatDoor.E Go.Proofs.YtaoichlepfiliaaGreatDoor.O Go.Proofs.YtaoichlepfiliaaGreatDoorW.PrintWords Go.Proofs.YtaoichlepfiliaaGreatDoorW.PrintLast
open Go.Proofs.YtaoichlepfiliaaGreatDoor.NumP Go.Proofs.YtaoichlepfiliaaGreatDoor.Adm
theorem worth_zero {S : Int} {D : List Int} {E : Int} {B n : Nat} {x : Int} (h : Worth S D E B n x) (h0 : S = 0) : x = 0 := by
 have := h.sign; rw [h0] at this; exact Int.sign_eq_zero_iff_zero.1 this.symm
theorem below_put {w wr : World} {g : Nat} {y0 y1 y2 : Value} (h : Below w.heap.size w wr) (hg : w.heap.size ≤ g) : Below w.heap.size w (((wr.setCell ⟨g, 0, none⟩ y0).setCell ⟨g, 1, none⟩ y1).setCell ⟨g, 2, none⟩ y2) :=
 ((h.setCell (p := ⟨g, 0, none⟩) hg _).setCell (p := ⟨g, 1, none⟩) hg _).setCell (p := ⟨g, 2, none⟩) hg _
theorem dig_put {w : World} {A : Option Addr} {D : List Int} (h : DigAt w A D) {g : Nat} {x0 x1 x2 y0 y1 y2 : Value} (hg : w.heap[g]? = some (.cells #[x0, x1, x2] 131 (0, 0))) : DigAt (((w.setCell ⟨g, 0, none⟩ y0).setCell ⟨g, 1, none⟩ y1).setCell ⟨g, 2, none⟩ y2) A D :=
 ((h.far hg (by decide) 0 y0).far (blk_set hg 0 y0) (by decide) 1 y1).far (blk_set (blk_set hg 0 y0) 1 y1) (by decide) 2 y2
set_option maxRecDepth 100000 in
set_option maxHeartbeats 4000000 in
theorem add_call {v1 v2 : Value} {B n : Nat} {x y : Int} {w : World} (h1 : NumAt w v1 B n x) (h2 : NumAt w v2 B n y) (hn : n ≤ 399999) :
 Calls Tryz.prog 159 #[v1, v2] w fun e w' => ∃ v, e = .returned v ∧ NumAt w' v B (n + 1) (x + y) ∧ Below w.heap.size w w' := by
 have hu := Tryz.underlying131
 obtain ⟨S1, D1, E1, A1, c1, rfl, hC1, hc1, hw1⟩ := h1
 obtain ⟨S2, D2, E2, A2, c2, rfl, hC2, hc2, hw2⟩ := h2
 have hX : Boxes w.heap.size _ S1 A1 D1.length c1 E1 S2 A2 D2.length c2 E2 := ⟨(three_new w _ _ _).1, (three_new w _ _ _).2.1, (three_new w _ _ _).2.2⟩
 have hB0 := below_alloc (below_alloc (below_alloc (Below.refl w.heap.size w) (.cells #[.int .i64 S1, .slice A1 D1.length c1, .int .i64 E1] 131)) (.cells #[.int .i64 S2, .slice A2 D2.length c2, .int .i64 E2] 131)) (.cells #[.int .i64 0, .slice none 0 0, .int .i64 0] 131)
 have HX := Aside0.mk hX
 have HB0 := Aside0.mk hB0
 by_cases z1 : S1 = 0
 ·have HR := Aside0.mk (show x + y = y by rw [worth_zero hw1 z1, Int.zero_add])
  have HW := Aside0.mk (hw2.wide (n' := n + 1) (by omega))
  subst z1
  clear hX hB0 hw1 hw2
  go_enter Tryz.func159, Tryz.ntmps159
  go_wp2
  have hB := below_alloc (below_alloc (below_alloc (Below.refl w.heap.size w) (.cells #[.int .i64 0, .slice A1 D1.length c1, .int .i64 E1] 131)) (.cells #[.int .i64 S2, .slice A2 D2.length c2, .int .i64 E2] 131)) (.cells #[.int .i64 S2, .slice A2 D2.length c2, .int .i64 E2] 131)
  refine bodyPost_ret (results_cell_row rfl _ _ (w.heap.size + 2) 131 #[.int .i64 S2, .slice A2 D2.length c2, .int .i64 E2] (0, 0) _ rfl (three_new w _ _ _).2.2 Tryz.underlying131 rfl (by kernel_rfl)) rfl ⟨_, rfl, ?_, hB⟩
  rw [HR.out]
  exact ⟨S2, D2, E2, A2, c2, rfl, hC2.below hB, hc2, HW.out⟩
 ·by_cases z2 : S2 = 0
  ·have HR := Aside0.mk (show x + y = x by rw [worth_zero hw2 z2, Int.add_zero])
   have HW := Aside0.mk (hw1.wide (n' := n + 1) (by omega))
   have e1 : (S1 == 0) = false := beq_eq_false_iff_ne.mpr z1
   subst z2
   clear hX hB0 hw1 hw2 z1
   go_enter Tryz.func159, Tryz.ntmps159
   go_wp2
   have hB := below_alloc (below_alloc (below_alloc (Below.refl w.heap.size w) (.cells #[.int .i64 S1, .slice A1 D1.length c1, .int .i64 E1] 131)) (.cells #[.int .i64 0, .slice A2 D2.length c2, .int .i64 E2] 131)) (.cells #[.int .i64 S1, .slice A1 D1.length c1, .int .i64 E1] 131)
   refine bodyPost_ret (results_cell_row rfl _ _ (w.heap.size + 2) 131 #[.int .i64 S1, .slice A1 D1.length c1, .int .i64 E1] (0, 0) _ rfl (three_new w _ _ _).2.2 Tryz.underlying131 rfl (by kernel_rfl)) rfl ⟨_, rfl, ?_, hB⟩
   rw [HR.out]
   exact ⟨S1, D1, E1, A1, c1, rfl, hC1.below hB, hc1, HW.out⟩
  ·by_cases hge : S1 = S2 ∨ W (E2 + B).toNat * dval D2 ≤ W (E1 + B).toNat * dval D1
   ·exact add_main S1 E1 D1 A1 c1 S2 E2 D2 A2 c2 w hC1.1 hC2.1 hw1 hw2 hn z1 z2 hge
   ·have hlt : W (E1 + B).toNat * dval D1 < W (E2 + B).toNat * dval D2 := by omega
    have e1 : (S1 == 0) = false := beq_eq_false_iff_ne.mpr z1
    have e2 : (S2 == 0) = false := beq_eq_false_iff_ne.mpr z2
    have e3 : (S1 != S2) = true := bne_iff_ne.mpr (fun h => hge (.inl h))
    have l1 := hw1.lo; have l2 := hw2.lo; have u1 := hw1.hi; have u2 := hw2.hi; have p1 := hw1.place; have p2 := hw2.place
    have hsz := fun W a b => size_call S1 E1 D1 A1 c1 S2 E2 D2 A2 c2 W a b hw1.digits hw2.digits (B := B) (n := n) (by omega) p1 p2 l1 l2 u1 u2
    have had := fun W a b => add_main S2 E2 D2 A2 c2 S1 E1 D1 A1 c1 W a b hw2 hw1 hn z2 z1 (.inr (Int.le_of_lt hlt))
    have HLT := Aside0.mk hlt
    have k1 := hC1.1
    have k2 := hC2.1
    clear hge hlt z1 z2 hw1 hw2 l1 l2 u1 u2 p1 p2
    obtain ⟨⟨x0, x1, x2⟩, y0, y1, y2⟩ := hX.cells
    go_enter Tryz.func159, Tryz.ntmps159
    go_wp2_with (first
     | (go_at_call 191; (with_reducible refine (hsz _ (Kd.C_below k1 hB0) (Kd.C_below k2 hB0)).mono ?_); rintro u w3 ⟨r, rfl, hr, hb3⟩; have hr0 : decide (r < 0) = true := (by simp; exact hr.mpr HLT.out); have hX3 := hX.below hb3; obtain ⟨⟨x0, x1, x2⟩, y0, y1, y2⟩ := hX3.cells; have hB3 := hB0.trans (hb3.mono hB0.size); clear hr hX hb3 hsz)
     | (go_at_call 159; (with_reducible refine (had _ (Kd.C_below k2 hB3) (Kd.C_below k1 hB3)).mono ?_); rintro u w4 ⟨v4, rfl, hN4, hb4⟩; have hX4 := hX3.below hb4; have hB4 := hB3.trans (hb4.mono hB3.size); obtain ⟨S5, D5, E5, A5, c5, rfl, hC5, hc5, hW5⟩ := hN4; obtain ⟨q0, q1, q2, q3, q4, q5⟩ := num_cells hX4.out; have HW5 := Aside0.mk hW5; clear hW5 had hb4 hX3))
    refine bodyPost_ret (results_cell_row rfl _ _ (w.heap.size + 2) 131 #[.int .i64 S5, .slice A5 D5.length c5, .int .i64 E5] (0, 0) _ rfl (num_put hX4.out) Tryz.underlying131 rfl (by kernel_rfl)) rfl ⟨_, rfl, ?_, below_put hB4 (by omega)⟩
    rw [Int.add_comm]
    exact ⟨S5, D5, E5, A5, c5, rfl, dig_put hC5 hX4.out, hc5, HW5.out⟩
set_option maxRecDepth 100000 in
set_option maxHeartbeats 4000000 in
theorem neg_call {v : Value} {B n : Nat} {x : Int} {w : World} (h : NumAt w v B n x) :
 Calls Tryz.prog 127 #[v] w fun e w' => ∃ v', e = .returned v' ∧ NumAt w' v' B n (-x) ∧ Below w.heap.size w w' := by
 have hu := Tryz.underlying131
 obtain ⟨S, D, E, A, c, rfl, hC, hc, hw⟩ := h
 have hs : -1 ≤ S ∧ S ≤ 1 := by
  by_cases h0 : S = 0
  ·omega
  ·have := worth_sgn hw h0; omega
 have i1 : IntKind.i64.wrap (-S) = -S := wrapI _ (by omega) (by omega)
 have HW := Aside0.mk hw.neg
 clear hs hw
 go_enter Tryz.func127, Tryz.ntmps127
 go_wp2
 have hB := below_alloc (below_alloc (Below.refl w.heap.size w) (.cells #[.int .i64 (-S), .slice A D.length c, .int .i64 E] 131)) (.cells #[.int .i64 (-S), .slice A D.length c, .int .i64 E] 131)
 refine bodyPost_ret (results_cell_row rfl _ _ (w.heap.size + 1) 131 #[.int .i64 (-S), .slice A D.length c, .int .i64 E] (0, 0) _ rfl (two_new w _ _).2 Tryz.underlying131 rfl (by kernel_rfl)) rfl ⟨_, rfl, ?_, hB⟩
 exact ⟨-S, D, E, A, c, rfl, hC.below hB, hc, HW.out⟩
def peek (w : World) (p : Addr) : Value := (w.cell? p).getD (.bool false)
theorem peek_some {w : World} {p : Addr} {v : Value} (h : w.cell? p = some v) : w.cell? p = some (peek w p) := by unfold peek; rw [h]; rfl
structure Boxy (g : Nat) (wr : World) (S1 : Int) (A1 : Option Addr) (n1 c1 : Nat) (E1 S2 : Int) (A2 : Option Addr) (n2 c2 : Nat) (E2 : Int) : Prop where
 one : wr.heap[g]? = some (.cells #[.int .i64 S1, .slice A1 n1 c1, .int .i64 E1] 131 (0, 0))
 two : wr.heap[g + 1]? = some (.cells #[.int .i64 S2, .slice A2 n2 c2, .int .i64 E2] 131 (0, 0))
 out : ∃ x0 x1 x2, wr.heap[g + 2]? = some (.cells #[x0, x1, x2] 131 (0, 0))
theorem Boxy.below {g : Nat} {wr w' : World} {S1 : Int} {A1 : Option Addr} {n1 c1 : Nat} {E1 S2 : Int} {A2 : Option Addr} {n2 c2 : Nat} {E2 : Int} (h : Boxy g wr S1 A1 n1 c1 E1 S2 A2 n2 c2 E2) (hb : Below wr.heap.size wr w') : Boxy g w' S1 A1 n1 c1 E1 S2 A2 n2 c2 E2 := by
 obtain ⟨x0, x1, x2, h3⟩ := h.out
 exact ⟨blk_below h.one hb, blk_below h.two hb, x0, x1, x2, blk_below h3 hb⟩
theorem Boxy.put {g : Nat} {wr : World} {S1 : Int} {A1 : Option Addr} {n1 c1 : Nat} {E1 S2 : Int} {A2 : Option Addr} {n2 c2 : Nat} {E2 : Int} (h : Boxy g wr S1 A1 n1 c1 E1 S2 A2 n2 c2 E2) (y0 y1 y2 : Value) : Boxy g (((wr.setCell ⟨g + 2, 0, none⟩ y0).setCell ⟨g + 2, 1, none⟩ y1).setCell ⟨g + 2, 2, none⟩ y2) S1 A1 n1 c1 E1 S2 A2 n2 c2 E2 := by
 obtain ⟨x0, x1, x2, h3⟩ := h.out
 exact ⟨blk_far (blk_far (blk_far h.one (by show g ≠ g + 2; omega) _) (by show g ≠ g + 2; omega) _) (by show g ≠ g + 2; omega) _, blk_far (blk_far (blk_far h.two (by show g + 1 ≠ g + 2; omega) _) (by show g + 1 ≠ g + 2; omega) _) (by show g + 1 ≠ g + 2; omega) _, y0, y1, y2, num_put h3⟩
theorem Boxy.all {g : Nat} {wr : World} {S1 : Int} {A1 : Option Addr} {n1 c1 : Nat} {E1 S2 : Int} {A2 : Option Addr} {n2 c2 : Nat} {E2 : Int} (h : Boxy g wr S1 A1 n1 c1 E1 S2 A2 n2 c2 E2) : wr.cell? ⟨g, 0, none⟩ = some (.int .i64 S1) ∧ wr.cell? ⟨g, 1, none⟩ = some (.slice A1 n1 c1) ∧ wr.cell? ⟨g, 2, none⟩ = some (.int .i64 E1) ∧ wr.cell? ⟨g + 1, 0, none⟩ = some (.int .i64 S2) ∧ wr.cell? ⟨g + 1, 1, none⟩ = some (.slice A2 n2 c2) ∧ wr.cell? ⟨g + 1, 2, none⟩ = some (.int .i64 E2) ∧ wr.cell? ⟨g + 2, 0, none⟩ = some (peek wr ⟨g + 2, 0, none⟩) ∧ wr.cell? ⟨g + 2, 1, none⟩ = some (peek wr ⟨g + 2, 1, none⟩) ∧ wr.cell? ⟨g + 2, 2, none⟩ = some (peek wr ⟨g + 2, 2, none⟩) ∧ wr.frozen? ⟨g + 2, 0, none⟩ = false ∧ wr.frozen? ⟨g + 2, 1, none⟩ = false ∧ wr.frozen? ⟨g + 2, 2, none⟩ = false := by
 have h1 := num_cells h.one
 have h2 := num_cells h.two
 obtain ⟨x0, x1, x2, h3⟩ := h.out
 have h3 := num_cells h3
 exact ⟨h1.1, h1.2.1, h1.2.2.1, h2.1, h2.2.1, h2.2.2.1, peek_some h3.1, peek_some h3.2.1, peek_some h3.2.2.1, h3.2.2.2⟩
set_option maxRecDepth 100000 in
set_option maxHeartbeats 4000000 in
theorem sub_call {v1 v2 : Value} {B n : Nat} {x y : Int} {w : World} (h1 : NumAt w v1 B n x) (h2 : NumAt w v2 B n y) (hn : n ≤ 399999) :
 Calls Tryz.prog 123 #[v1, v2] w fun e w' => ∃ v, e = .returned v ∧ NumAt w' v B (n + 1) (x - y) ∧ Below w.heap.size w w' := by
 have hu := Tryz.underlying131
 have h1' := h1
 have h2' := h2
 obtain ⟨S1, D1, E1, A1, c1, rfl, hC1, hc1, hw1⟩ := h1
 obtain ⟨S2, D2, E2, A2, c2, rfl, hC2, hc2, hw2⟩ := h2
 have hX : Boxy w.heap.size _ S1 A1 D1.length c1 E1 S2 A2 D2.length c2 E2 := ⟨(three_new w _ _ _).1, (three_new w _ _ _).2.1, .int .i64 0, .slice none 0 0, .int .i64 0, (three_new w _ _ _).2.2⟩
 have hB0 := below_alloc (below_alloc (below_alloc (Below.refl w.heap.size w) (.cells #[.int .i64 S1, .slice A1 D1.length c1, .int .i64 E1] 131)) (.cells #[.int .i64 S2, .slice A2 D2.length c2, .int .i64 E2] 131)) (.cells #[.int .i64 0, .slice none 0 0, .int .i64 0] 131)
 have hng := fun W (h : Below w.heap.size w W) => neg_call (h2'.below h)
 have had := fun W v (h : Below w.heap.size w W) (h3 : NumAt W v B n (-y)) => add_call (h1'.below h) h3 hn
 clear hw1 hw2 h1' h2' hC1 hC2 hc1 hc2
 go_enter Tryz.func123, Tryz.ntmps123
 go_upto_region 1 with (fail)
 generalize ((w.alloc (.cells #[.int .i64 S1, .slice A1 D1.length c1, .int .i64 E1] 131)).alloc (.cells #[.int .i64 S2, .slice A2 D2.length c2, .int .i64 E2] 131)).alloc (.cells #[.int .i64 0, .slice none 0 0, .int .i64 0] 131) = w0 at *
 have hN0 := Below.refl w0.heap.size w0
 have hS := hX.all
 go_region_held3 (fun W' => W'.cell? ⟨w.heap.size, 0, none⟩ = some (.int .i64 S1) ∧ W'.cell? ⟨w.heap.size, 1, none⟩ = some (.slice A1 D1.length c1) ∧ W'.cell? ⟨w.heap.size, 2, none⟩ = some (.int .i64 E1) ∧ W'.cell? ⟨w.heap.size + 1, 0, none⟩ = some (.int .i64 S2) ∧ W'.cell? ⟨w.heap.size + 1, 1, none⟩ = some (.slice A2 D2.length c2) ∧ W'.cell? ⟨w.heap.size + 1, 2, none⟩ = some (.int .i64 E2) ∧ W'.cell? ⟨w.heap.size + 2, 0, none⟩ = some (peek W' ⟨w.heap.size + 2, 0, none⟩) ∧ W'.cell? ⟨w.heap.size + 2, 1, none⟩ = some (peek W' ⟨w.heap.size + 2, 1, none⟩) ∧ W'.cell? ⟨w.heap.size + 2, 2, none⟩ = some (peek W' ⟨w.heap.size + 2, 2, none⟩) ∧ W'.frozen? ⟨w.heap.size + 2, 0, none⟩ = false ∧ W'.frozen? ⟨w.heap.size + 2, 1, none⟩ = false ∧ W'.frozen? ⟨w.heap.size + 2, 2, none⟩ = false)
  (first | exact hS | exact ((hX.below (by (with_reducible (repeat (first | exact hN0 | apply below_drew1 | apply below_alloc | apply pw_below_drewN | assumption))))).put _ _ _).all | exact (hX.below (by (with_reducible (repeat (first | exact hN0 | apply below_drew1 | apply below_alloc | apply pw_below_drewN | assumption))))).all)
  (first
   | (go_at_call 127; (with_reducible refine (hng _ ?hq).mono ?_); (case hq => with_reducible (repeat (first | exact hB0 | apply below_drew1 | apply below_alloc | apply pw_below_drewN | assumption))); rintro u w5 ⟨v5, rfl, hN5, hb5⟩; have hB5 := below_step (w := w) (by (with_reducible (repeat (first | exact hB0 | apply below_drew1 | apply below_alloc | apply pw_below_drewN | assumption)))) hb5; have hM5 := below_step (w := w0) (by (with_reducible (repeat (first | exact hN0 | apply below_drew1 | apply below_alloc | apply pw_below_drewN | assumption)))) hb5; clear hb5)
   | (go_at_call 159; (with_reducible refine (had _ _ ?hq ?hr).mono ?_); (case hq => with_reducible (repeat (first | exact hB5 | apply below_drew1 | apply below_alloc | apply pw_below_drewN | assumption))); (case hr => exact hN5.below (by (with_reducible (repeat (first | exact Below.refl _ _ | apply below_drew1 | apply below_alloc | apply pw_below_drewN | assumption))))); rintro u w6 ⟨v6, rfl, hN6, hb6⟩; obtain ⟨S5, D5, E5, A5, c5, rfl, hC5, hc5, hW5⟩ := hN6; have hB6 := below_step (w := w) (by (with_reducible (repeat (first | exact hB5 | apply below_drew1 | apply below_alloc | apply pw_below_drewN | assumption)))) hb6; have hM6 := below_step (w := w0) (by (with_reducible (repeat (first | exact hM5 | apply below_drew1 | apply below_alloc | apply pw_below_drewN | assumption)))) hb6; have HW5 := Aside0.mk hW5; clear hW5 hb6))
 all_goals
  obtain ⟨z0, z1, z2, h3⟩ := (hX.below hM6).out
  have HX := Aside0.mk h3
  clear h3 hX hS
  go_wp2
  refine bodyPost_ret (results_cell_row rfl _ _ (w.heap.size + 2) 131 #[.int .i64 S5, .slice A5 D5.length c5, .int .i64 E5] (0, 0) _ rfl (num_put HX.out) Tryz.underlying131 rfl (by kernel_rfl)) rfl ⟨_, rfl, ?_, below_put hB6 (by omega)⟩
  rw [Int.sub_eq_add_neg]
  exact ⟨S5, D5, E5, A5, c5, rfl, dig_put hC5 HX.out, hc5, HW5.out⟩
set_option maxRecDepth 100000 in
set_option maxHeartbeats 4000000 in
theorem cmp_call {v1 v2 : Value} {B n : Nat} {x y : Int} {w : World} (h1 : NumAt w v1 B n x) (h2 : NumAt w v2 B n y) (hn : n ≤ 399999) :
 Calls Tryz.prog 104 #[v1, v2] w fun e w' => e = .returned (.int .i64 (x - y).sign) ∧ Below w.heap.size w w' := by
 have hu := Tryz.underlying131
 have hsb := fun W (h : Below w.heap.size w W) => sub_call (h1.below h) (h2.below h) hn
 obtain ⟨S1, D1, E1, A1, c1, rfl, hC1, hc1, hw1⟩ := h1
 obtain ⟨S2, D2, E2, A2, c2, rfl, hC2, hc2, hw2⟩ := h2
 have hB0 := below_alloc (below_alloc (Below.refl w.heap.size w) (.cells #[.int .i64 S1, .slice A1 D1.length c1, .int .i64 E1] 131)) (.cells #[.int .i64 S2, .slice A2 D2.length c2, .int .i64 E2] 131)
 clear hw1 hw2 hC1 hC2 hc1 hc2
 go_enter Tryz.func104, Tryz.ntmps104
 go_wp2_with (go_at_call 123; (with_reducible refine (hsb _ hB0).mono ?_); rintro u w5 ⟨v5, rfl, hN5, hb5⟩; obtain ⟨S5, D5, E5, A5, c5, rfl, hC5, hc5, hW5⟩ := hN5; have HS := Aside0.mk hW5.sign; have hB5 := hB0.trans (hb5.mono hB0.size); clear hb5 hW5)
 refine bodyPost_ret (v := .int .i64 S5) (by simp [results, Tryz.results104, go_sem]) rfl ⟨by rw [HS.out], hB5⟩
set_option maxRecDepth 100000 in
set_option maxHeartbeats 4000000 in
theorem abs_call {v : Value} {B n : Nat} {x : Int} {w : World} (h : NumAt w v B n x) :
 Calls Tryz.prog 105 #[v] w fun e w' => ∃ v', e = .returned v' ∧ NumAt w' v' B n x.natAbs ∧ Below w.heap.size w w' := by
 have hu := Tryz.underlying131
 have hng := fun W (hb : Below w.heap.size w W) => neg_call (h.below hb)
 obtain ⟨S, D, E, A, c, rfl, hC, hc, hw⟩ := h
 have hB0 := below_alloc (below_alloc (Below.refl w.heap.size w) (.cells #[.int .i64 S, .slice A D.length c, .int .i64 E] 131)) (.cells #[.int .i64 0, .slice none 0 0, .int .i64 0] 131)
 have hs := hw.sign
 by_cases h0 : S < 0
 ·have d1 : decide (S < 0) = true := decide_eq_true h0
  have hx : x < 0 := by
   rcases Int.lt_trichotomy x 0 with hx | hx | hx
   ·exact hx
   ·subst hx; simp at hs; omega
   ·rw [Int.sign_eq_one_of_pos hx] at hs; omega
  have HR := Aside0.mk (show ((x.natAbs : Nat) : Int) = -x by omega)
  have hout := (two_new w (.cells #[.int .i64 S, .slice A D.length c, .int .i64 E] 131) (.cells #[.int .i64 0, .slice none 0 0, .int .i64 0] 131)).2
  have HOUT := Aside0.mk hout
  clear hs hw h0 hx hout
  go_enter Tryz.func105, Tryz.ntmps105
  go_wp2_with (go_at_call 127; (with_reducible refine (hng _ hB0).mono ?_); rintro u w5 ⟨v5, rfl, hN5, hb5⟩; obtain ⟨S5, D5, E5, A5, c5, rfl, hC5, hc5, hW5⟩ := hN5; have h5 := blk_below HOUT.out hb5; obtain ⟨q0, q1, q2, q3, q4, q5⟩ := num_cells h5; have HW5 := Aside0.mk hW5; have HH := Aside0.mk h5; have hB5 := hB0.trans (hb5.mono hB0.size); clear hb5 hW5 h5)
  refine bodyPost_ret (results_cell_row rfl _ _ (w.heap.size + 1) 131 #[.int .i64 S5, .slice A5 D5.length c5, .int .i64 E5] (0, 0) _ rfl (num_put HH.out) Tryz.underlying131 rfl (by kernel_rfl)) rfl ⟨_, rfl, ?_, below_put hB5 (by omega)⟩
  rw [HR.out]
  exact ⟨S5, D5, E5, A5, c5, rfl, dig_put hC5 HH.out, hc5, HW5.out⟩
 ·have d1 : decide (S < 0) = false := decide_eq_false h0
  have hx : 0 ≤ x := by
   rcases Int.lt_trichotomy x 0 with hx | hx | hx
   ·rw [Int.sign_eq_neg_one_of_neg hx] at hs; omega
   ·omega
   ·omega
  have HR := Aside0.mk (show ((x.natAbs : Nat) : Int) = x by omega)
  have HW := Aside0.mk hw
  clear hs hw h0 hx hng hB0
  go_enter Tryz.func105, Tryz.ntmps105
  go_wp2
  have hB := below_alloc (below_alloc (Below.refl w.heap.size w) (.cells #[.int .i64 S, .slice A D.length c, .int .i64 E] 131)) (.cells #[.int .i64 S, .slice A D.length c, .int .i64 E] 131)
  refine bodyPost_ret (results_cell_row rfl _ _ (w.heap.size + 1) 131 #[.int .i64 S, .slice A D.length c, .int .i64 E] (0, 0) _ rfl (two_new w _ _).2 Tryz.underlying131 rfl (by kernel_rfl)) rfl ⟨_, rfl, ?_, hB⟩
  rw [HR.out]
  exact ⟨S, D, E, A, c, rfl, hC.below hB, hc, HW.out⟩
end Go.Proofs.YtaoichlepfiliaaGreatDoor.Nw
