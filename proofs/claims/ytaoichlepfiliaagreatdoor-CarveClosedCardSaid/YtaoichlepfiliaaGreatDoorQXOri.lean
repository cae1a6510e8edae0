/- Lemmas of Ori. Conditions stand in each. -/
import Derived.Deep.RegionHeld3
import Derived.Test.YtaoichlepfiliaaGreatDoorQXExp
set_option linter.unusedSimpArgs false
set_option linter.unusedVariables false
namespace Go.Proofs.YtaoichlepfiliaaGreatDoor.Exp
open Go.RowKit Go.Proofs.YtaoichlepfiliaaGreatDoor.R Go.Proofs.YtaoichlepfiliaaGreatDoor.E Go.Proofs.YtaoichlepfiliaaGreatDoorW.PrintWords Go.Proofs.YtaoichlepfiliaaGreatDoorW.PrintLast
def side (q : Nat) (a b c d : Nat) : Option (List Nat) := (orient_exactly_1.f q a b).bind fun e => (orient_exactly_1.f q c d).bind fun f => if expand_Safe.f q e = some true ∧ expand_Safe.f q f = some true then mulL q e f [] else none
def exactly.f (q : Nat) (ax ay bx b_y cx cy : Nat) : Option Int := (side q bx ax cy ay).bind fun p => (side q b_y ay cx ax).bind fun s => if expand_Check.f q p = some true ∧ expand_Check.f q s = some true then expand_Cmp.f q p s else none
theorem cell_below {w w1 : World} {p : Addr} {v : Value} (h : w.cell? p = some v) (hb : Below w.heap.size w w1) : w1.cell? p = some v := (hb.cell (World.block_lt_of_cell? w _ h)).trans h
theorem six_below {w w1 : World} {p1 p2 p3 p4 p5 p6 : Addr} {v1 v2 v3 v4 v5 v6 : Value} (hb : Below w.heap.size w w1) (h : w.cell? p1 = some v1 ∧ w.cell? p2 = some v2 ∧ w.cell? p3 = some v3 ∧ w.cell? p4 = some v4 ∧ w.cell? p5 = some v5 ∧ w.cell? p6 = some v6) :
 w1.cell? p1 = some v1 ∧ w1.cell? p2 = some v2 ∧ w1.cell? p3 = some v3 ∧ w1.cell? p4 = some v4 ∧ w1.cell? p5 = some v5 ∧ w1.cell? p6 = some v6 :=
 ⟨cell_below h.1 hb, cell_below h.2.1 hb, cell_below h.2.2.1 hb, cell_below h.2.2.2.1 hb, cell_below h.2.2.2.2.1 hb, cell_below h.2.2.2.2.2 hb⟩
theorem box_cells {w : World} {n t : Nat} {u v : Value} (h : w.heap[n]? = some (.cells #[u, v] t (0, 0))) : w.cell? ⟨n, 0, none⟩ = some u ∧ w.cell? ⟨n, 1, none⟩ = some v := ⟨(blk_cell h 0).trans rfl, (blk_cell h 1).trans rfl⟩
theorem three_boxes {w w1 : World} {ax ay bx b_y cx cy : Nat} (hw1 : (((w.alloc (.cells #[.float .f64 ax, .float .f64 ay] 71)).alloc (.cells #[.float .f64 bx, .float .f64 b_y] 71)).alloc (.cells #[.float .f64 cx, .float .f64 cy] 71)) = w1) :
 (w1.cell? ⟨w.heap.size, 0, none⟩ = some (.float .f64 ax) ∧ w1.cell? ⟨w.heap.size, 1, none⟩ = some (.float .f64 ay) ∧ w1.cell? ⟨w.heap.size + 1, 0, none⟩ = some (.float .f64 bx) ∧ w1.cell? ⟨w.heap.size + 1, 1, none⟩ = some (.float .f64 b_y) ∧ w1.cell? ⟨w.heap.size + 1 + 1, 0, none⟩ = some (.float .f64 cx) ∧ w1.cell? ⟨w.heap.size + 1 + 1, 1, none⟩ = some (.float .f64 cy)) ∧ Below w.heap.size w w1 := by
 subst hw1
 have h1 := box_cells (n := w.heap.size) (w := ((w.alloc (.cells #[.float .f64 ax, .float .f64 ay] 71)).alloc (.cells #[.float .f64 bx, .float .f64 b_y] 71)).alloc (.cells #[.float .f64 cx, .float .f64 cy] 71)) (u := .float .f64 ax) (v := .float .f64 ay) (t := 71) (by rw [Below.heap_alloc _ _ _ (by simp; omega), Below.heap_alloc _ _ _ (by simp)]; simpa using heap_alloc_new w (.cells #[.float .f64 ax, .float .f64 ay] 71))
 have h2 := box_cells (n := w.heap.size + 1) (w := ((w.alloc (.cells #[.float .f64 ax, .float .f64 ay] 71)).alloc (.cells #[.float .f64 bx, .float .f64 b_y] 71)).alloc (.cells #[.float .f64 cx, .float .f64 cy] 71)) (u := .float .f64 bx) (v := .float .f64 b_y) (t := 71) (by rw [Below.heap_alloc _ _ _ (by simp)]; simpa using heap_alloc_new (w.alloc (.cells #[.float .f64 ax, .float .f64 ay] 71)) (.cells #[.float .f64 bx, .float .f64 b_y] 71))
 have h3 := box_cells (n := w.heap.size + 1 + 1) (w := ((w.alloc (.cells #[.float .f64 ax, .float .f64 ay] 71)).alloc (.cells #[.float .f64 bx, .float .f64 b_y] 71)).alloc (.cells #[.float .f64 cx, .float .f64 cy] 71)) (u := .float .f64 cx) (v := .float .f64 cy) (t := 71) (by simpa using heap_alloc_new ((w.alloc (.cells #[.float .f64 ax, .float .f64 ay] 71)).alloc (.cells #[.float .f64 bx, .float .f64 b_y] 71)) (.cells #[.float .f64 cx, .float .f64 cy] 71))
 exact ⟨⟨h1.1, h1.2, h2.1, h2.2, h3.1, h3.2⟩, (((Below.refl _ _).alloc (Nat.le_refl _) _).alloc (by simp) _).alloc (by simp; omega) _⟩
set_option maxRecDepth 100000 in
set_option maxHeartbeats 1000000 in
theorem exactly.calls (q : Nat) (ax ay bx b_y cx cy : Nat) (r : Int) (w : World) (h : exactly.f q ax ay bx b_y cx cy = some r) :
 Calls Tryz.prog 96 #[.agg #[.float .f64 ax, .float .f64 ay], .agg #[.float .f64 bx, .float .f64 b_y], .agg #[.float .f64 cx, .float .f64 cy]] w fun x w' => x = .returned (.int .i64 r) ∧ Below w.heap.size w w' := by
 obtain ⟨p, h1, h⟩ := Option.bind_eq_some_iff.mp h
 obtain ⟨s, h2, h⟩ := Option.bind_eq_some_iff.mp h
 go_enter Tryz.func96, Tryz.ntmps96
 go_wp2
 obtain ⟨e1, he1, h1⟩ := Option.bind_eq_some_iff.mp h1
 obtain ⟨e2, he2, h1⟩ := Option.bind_eq_some_iff.mp h1
 by_cases g1 : expand_Safe.f q e1 = some true ∧ expand_Safe.f q e2 = some true
 ·rw [if_pos g1] at h1
  generalize hw1 : (((w.alloc (.cells #[.float .f64 ax, .float .f64 ay] 71)).alloc (.cells #[.float .f64 bx, .float .f64 b_y] 71)).alloc (.cells #[.float .f64 cx, .float .f64 cy] 71)) = w1
  obtain ⟨hS1, hB1⟩ := three_boxes hw1
  clear hw1
  go_region_held (fun w' => w'.cell? ⟨w.heap.size, 0, none⟩ = some (.float .f64 ax) ∧ w'.cell? ⟨w.heap.size, 1, none⟩ = some (.float .f64 ay) ∧ w'.cell? ⟨w.heap.size + 1, 0, none⟩ = some (.float .f64 bx) ∧ w'.cell? ⟨w.heap.size + 1, 1, none⟩ = some (.float .f64 b_y) ∧ w'.cell? ⟨w.heap.size + 1 + 1, 0, none⟩ = some (.float .f64 cx) ∧ w'.cell? ⟨w.heap.size + 1 + 1, 1, none⟩ = some (.float .f64 cy))
   (first | exact hS1 | (exact six_below (by assumption) (by assumption)))
   (first | (go_at_call 117; first | ((with_reducible refine (orient_exactly_1.calls q bx ax e1 _ he1).mono ?_); rintro y w2 ⟨v2, rfl, hR2, hb2⟩; obtain ⟨A2, c2, rfl, hl2, hC2⟩ := Kd.R_reads hR2) | ((with_reducible refine (orient_exactly_1.calls q cy ay e2 _ he2).mono ?_); rintro y w3 ⟨v3, rfl, hR3, hb3⟩; obtain ⟨A3, c3, rfl, hl3, hC3⟩ := Kd.R_reads hR3)) | (go_at_call 119; (with_reducible refine (mul_calls q A2 c2 e1 A3 c3 e2 p _ (Kd.C_below hC2 hb3) hl2 hC3 hl3 g1.1 g1.2 h1).mono ?_); rintro y w4 ⟨v4, rfl, hR4, hb4⟩))
  obtain ⟨A4, c4, rfl, hl4, hC4⟩ := Kd.R_reads hR4
  have hS4 : (w4.cell? ⟨w.heap.size, 0, none⟩ = some (.float .f64 ax) ∧ w4.cell? ⟨w.heap.size, 1, none⟩ = some (.float .f64 ay) ∧ w4.cell? ⟨w.heap.size + 1, 0, none⟩ = some (.float .f64 bx) ∧ w4.cell? ⟨w.heap.size + 1, 1, none⟩ = some (.float .f64 b_y) ∧ w4.cell? ⟨w.heap.size + 1 + 1, 0, none⟩ = some (.float .f64 cx) ∧ w4.cell? ⟨w.heap.size + 1 + 1, 1, none⟩ = some (.float .f64 cy)) := by assumption
  have hB2 : Below w.heap.size w w2 := by first | exact hB1.trans (hb2.mono hB1.size) | exact hB1.drew.trans (hb2.mono hB1.size)
  have hB3 := hB2.trans (hb3.mono hB2.size)
  have hB4 := hB3.trans (hb4.mono hB3.size)
  clear hR2 hR3 hR4 hC2 hC3
  obtain ⟨e3, he3, h2⟩ := Option.bind_eq_some_iff.mp h2
  obtain ⟨e4, he4, h2⟩ := Option.bind_eq_some_iff.mp h2
  by_cases g2 : expand_Safe.f q e3 = some true ∧ expand_Safe.f q e4 = some true
  ·rw [if_pos g2] at h2
   by_cases g3 : expand_Check.f q p = some true ∧ expand_Check.f q s = some true
   ·rw [if_pos g3] at h
    go_wp2_with fail
    go_region_held (fun w' => w'.cell? ⟨w.heap.size, 0, none⟩ = some (.float .f64 ax) ∧ w'.cell? ⟨w.heap.size, 1, none⟩ = some (.float .f64 ay) ∧ w'.cell? ⟨w.heap.size + 1, 0, none⟩ = some (.float .f64 bx) ∧ w'.cell? ⟨w.heap.size + 1, 1, none⟩ = some (.float .f64 b_y) ∧ w'.cell? ⟨w.heap.size + 1 + 1, 0, none⟩ = some (.float .f64 cx) ∧ w'.cell? ⟨w.heap.size + 1 + 1, 1, none⟩ = some (.float .f64 cy))
     (first | exact hS4 | (exact six_below (by assumption) (by assumption)))
     (first | (go_at_call 117; first | ((with_reducible refine (orient_exactly_1.calls q b_y ay e3 _ he3).mono ?_); rintro y w5 ⟨v5, rfl, hR5, hb5⟩; obtain ⟨A5, c5, rfl, hl5, hC5⟩ := Kd.R_reads hR5) | ((with_reducible refine (orient_exactly_1.calls q cx ax e4 _ he4).mono ?_); rintro y w6 ⟨v6, rfl, hR6, hb6⟩; obtain ⟨A6, c6, rfl, hl6, hC6⟩ := Kd.R_reads hR6)) | (go_at_call 119; (with_reducible refine (mul_calls q A5 c5 e3 A6 c6 e4 s _ (Kd.C_below hC5 hb6) hl5 hC6 hl6 g2.1 g2.2 h2).mono ?_); rintro y w7 ⟨v7, rfl, hR7, hb7⟩))
    obtain ⟨A7, c7, rfl, hl7, hC7⟩ := Kd.R_reads hR7
    have hB5 : Below w.heap.size w w5 := by first | exact hB4.trans (hb5.mono hB4.size) | exact hB4.drew.trans (hb5.mono hB4.size)
    have hB6 := hB5.trans (hb6.mono hB5.size)
    have hB7 := hB6.trans (hb7.mono hB6.size)
    have hC4' := Kd.C_below (Kd.C_below (show Kd.C Kd.f64 w5 A4 p.length p from by first | exact Kd.C_below hC4 hb5 | exact Kd.C_below (Kd.C_drew hC4) hb5) hb6) hb7
    clear hR5 hR6 hR7 hC5 hC6
    go_wp2_with (go_at_call 120; (with_reducible refine (cmp_calls q A4 c4 p A7 c7 s r _ hC4' hl4 hC7 hl7 g3.1 g3.2 h).mono ?_); rintro y w8 ⟨rfl, hb8⟩)
    go_ret
    exact ⟨rfl, hB7.trans (hb8.mono hB7.size)⟩
   ·rw [if_neg g3] at h; cases h
  ·rw [if_neg g2] at h2; cases h2
 ·rw [if_neg g1] at h1; cases h1
end Go.Proofs.YtaoichlepfiliaaGreatDoor.Exp
