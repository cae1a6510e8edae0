/- Plain Lean functions for Go functions of the program, and proofs that the calls come to them; written by a program of this session (wip/tools), not by the kit's print. No condition. -/
import Derived.Test.YthcklcfdeejkpaaR0
namespace Go.Proofs.Ythcklcfdeejkpaa.R
open Go.RowKit Go.Proofs.YthcklcfdeejkpaaW.PrintWords Go.Proofs.YthcklcfdeejkpaaW.PrintLast Go.Proofs.YthcklcfdeejkpaaW.PrintMore
attribute [local go_sem] max2_int min2_int max_two min_two max_three min_three max_four min_four   -- for this text's walks alone
set_option linter.unusedVariables false
set_option linter.unusedSimpArgs false

/-! ### trivetref07_Hold: function 9 -/
def trivetref07_Hold.j0 : Nat → Bool → Nat → Nat → Nat → Nat → Option (Int)
  | 0, _, _, _, _, _ => none
  | k + 1, x23, x259000, x259001, x260000, x260001 => if x23 = true then (some (-1)) else (if (FloatKind.f64.format.order x259000 x260000 == some .eq) = true then (if (FloatKind.f64.format.order x259001 x260001 == some .eq) = true then (some 0) else (some 1)) else (some 1))
def trivetref07_Hold.f (k : Nat) (a0_0 : Nat) (a0_1 : Nat) (a1_0 : Nat) (a1_1 : Nat) : Option (Int) := if (FloatKind.f64.format.order a0_0 a1_0 == some .lt) = true then (trivetref07_Hold.j0 k true a0_0 a0_1 a1_0 a1_1) else (if (FloatKind.f64.format.order a0_0 a1_0 == some .eq) = true then (trivetref07_Hold.j0 k (FloatKind.f64.format.order a0_1 a1_1 == some .lt) a0_0 a0_1 a1_0 a1_1) else (trivetref07_Hold.j0 k false a0_0 a0_1 a1_0 a1_1))
theorem trivetref07_Hold.mono_l : ∀ k, (∀ y0 y1 y2 y3 y4, LeO (trivetref07_Hold.j0 k y0 y1 y2 y3 y4) (trivetref07_Hold.j0 (k + 1) y0 y1 y2 y3 y4))
  | 0 => fun _ _ _ _ _ r h => by simp [trivetref07_Hold.j0] at h
  | k + 1 => by
    have ih0 := trivetref07_Hold.mono_l k
    · intro y0 y1 y2 y3 y4
      unfold trivetref07_Hold.j0
      repeat' first
      | (with_reducible exact ih0 _ _ _ _ _)
      | (with_reducible exact LeO.refl _)
      | (with_reducible exact LeO.none _)
      | (with_reducible refine LeO.ite ?_ ?_)
      | (with_reducible refine LeO.bind ?_ (fun _ => ?_))
      | exact ih0 _ _ _ _ _
      | exact LeO.none _
      | refine LeO.ite ?_ ?_
      | refine LeO.bind ?_ (fun _ => ?_)
theorem trivetref07_Hold.mono : ∀ a0 a1 a2 a3 k, LeO (trivetref07_Hold.f k a0 a1 a2 a3) (trivetref07_Hold.f (k + 1) a0 a1 a2 a3) := by
  intro a0 a1 a2 a3 k
  have ih0 := trivetref07_Hold.mono_l k
  unfold trivetref07_Hold.f
  repeat' first
      | (with_reducible exact ih0 _ _ _ _ _)
      | (with_reducible exact LeO.refl _)
      | (with_reducible exact LeO.none _)
      | (with_reducible refine LeO.ite ?_ ?_)
      | (with_reducible refine LeO.bind ?_ (fun _ => ?_))
      | exact ih0 _ _ _ _ _
      | exact LeO.none _
      | refine LeO.ite ?_ ?_
      | refine LeO.bind ?_ (fun _ => ?_)
set_option maxHeartbeats 8000000 in
set_option maxRecDepth 100000 in
theorem trivetref07_Hold.calls (k : Nat) (a0_0 : Nat) (a0_1 : Nat) (a1_0 : Nat) (a1_1 : Nat) (r : Int) (w : World) (h : trivetref07_Hold.f k a0_0 a0_1 a1_0 a1_1 = some r) :
    Calls Try.prog 9 #[.agg #[.float .f64 a0_0, .float .f64 a0_1], .agg #[.float .f64 a1_0, .float .f64 a1_1]] w fun e w' => e = .returned (.int .i64 r) ∧ Below w.heap.size w w' := by
  have hu29 := Try.underlying29
  have HB := Aside0.mk (Below.refl w.heap.size w)
  have H : (if (FloatKind.f64.format.order a0_0 a1_0 == some .lt) = true then (trivetref07_Hold.j0 k true a0_0 a0_1 a1_0 a1_1) else (if (FloatKind.f64.format.order a0_0 a1_0 == some .eq) = true then (trivetref07_Hold.j0 k (FloatKind.f64.format.order a0_1 a1_1 == some .lt) a0_0 a0_1 a1_0 a1_1) else (trivetref07_Hold.j0 k false a0_0 a0_1 a1_0 a1_1))) = some r := h
  clear h
  have HC3 := Aside0.mk H
  clear H
  go_enter Try.func9, Try.ntmps9
  go_upto_region 1 with (first | ((with_reducible refine gate_dst (N := 2) rfl ?_); refine box_event ?hg (N := 2) ?hd (cs := #[.float .f64 a0_0, .float .f64 a0_1]) (t := 29) ?hr ?_; (case hd => rfl); (case hg => rfl); (case hr => first | (go_simp; done) | (go_simp; rfl)); intro gb258 hg w4 hbox hb; have n0_ := Aside0.mk (below_step (by repeat (first | (with_reducible first | exact HB.out | apply below_alloc | apply pw_below_drewN | apply below_drew1) | exact HB.out)) hb); have n1_ := Aside0.mk (hbox); have n2_ := Aside0.mk ((by rw [hg]; exact (below_size (by repeat (first | (with_reducible first | exact HB.out | apply below_alloc | apply pw_below_drewN | apply below_drew1) | exact HB.out))) : w.heap.size ≤ gb258)); have n3_ := Aside0.mk ((by rw [hg]; exact (below_size (by repeat (first | (with_reducible first | exact HB.out | apply below_alloc | apply pw_below_drewN | apply below_drew1) | exact HB.out))) : w.heap.size ≤ gb258)); clear HB; have HB := n0_; have BK258 := n1_; have GW258 := n2_; have GE258 := n3_; clear n0_ n1_ n2_ n3_; clear hb hbox hg) | ((with_reducible refine gate_dst (N := 3) rfl ?_); refine box_event ?hg (N := 3) ?hd (cs := #[.float .f64 a1_0, .float .f64 a1_1]) (t := 29) ?hr ?_; (case hd => rfl); (case hg => rfl); (case hr => first | (go_simp; done) | (go_simp; rfl)); intro gb259 hg w5 hbox hb; have n0_ := Aside0.mk (blk_below (g := gb258) (o := .cells #[.float .f64 a0_0, .float .f64 a0_1] 29 (0, 0)) (by (with_reducible repeat (first | refine blk_drewN ?_ _ | refine blk_drew ?_ | refine blk_alloc ?_ _)); exact BK258.out) hb); have n1_ := Aside0.mk (below_step (by repeat (first | (with_reducible first | exact HB.out | apply below_alloc | apply pw_below_drewN | apply below_drew1 | refine below_set ?_ GE258.out) | exact HB.out)) hb); have n2_ := Aside0.mk (hbox); have n3_ := Aside0.mk ((by rw [hg]; exact (below_size (by repeat (first | (with_reducible first | exact HB.out | apply below_alloc | apply pw_below_drewN | apply below_drew1 | refine below_set ?_ GE258.out) | exact HB.out))) : w.heap.size ≤ gb259)); have n4_ := Aside0.mk ((by rw [hg]; exact (below_size (by repeat (first | (with_reducible first | exact HB.out | apply below_alloc | apply pw_below_drewN | apply below_drew1 | refine below_set ?_ GE258.out) | exact HB.out))) : w.heap.size ≤ gb259)); have n5_ := Aside0.mk ((by rw [hg]; exact Nat.ne_of_lt (blk_lt (g := gb258) (o := .cells #[.float .f64 a0_0, .float .f64 a0_1] 29 (0, 0)) (by (with_reducible repeat (first | refine blk_drewN ?_ _ | refine blk_drew ?_ | refine blk_alloc ?_ _)); exact BK258.out)) : gb258 ≠ gb259)); have n6_ := Aside0.mk ((by rw [hg]; exact Nat.ne_of_gt (blk_lt (g := gb258) (o := .cells #[.float .f64 a0_0, .float .f64 a0_1] 29 (0, 0)) (by (with_reducible repeat (first | refine blk_drewN ?_ _ | refine blk_drew ?_ | refine blk_alloc ?_ _)); exact BK258.out)) : gb259 ≠ gb258)); clear BK258; clear HB; have BK258 := n0_; have HB := n1_; have BK259 := n2_; have GW259 := n3_; have GE259 := n4_; have NB258_259 := n5_; have NB259_258 := n6_; clear n0_ n1_ n2_ n3_ n4_ n5_ n6_; clear hb hbox hg))
  (try simp only [Act.put, List.setIfInBounds_toArray, List.set_cons_zero, List.set_cons_succ])
  go_cut [23] (fun v23 wc => ∃ (kq : Nat) (x23_2 : Bool), v23 = .bool x23_2 ∧ Aside0 (trivetref07_Hold.j0 kq x23_2 a0_0 a0_1 a1_0 a1_1 = some r) ∧ Aside0 (kq ≤ k) ∧ Aside0 (wc.heap[gb258]? = some (.cells #[.float .f64 a0_0, .float .f64 a0_1] 29 (0, 0))) ∧ Aside0 (wc.heap[gb259]? = some (.cells #[.float .f64 a1_0, .float .f64 a1_1] 29 (0, 0))) ∧ Aside0 (Below w.heap.size w wc))
  case first =>
    have H := HC3.out
    clear HC3
    by_cases c6 : (FloatKind.f64.format.order a0_0 a1_0 == some .lt) = true
    · rw [if_pos c6] at H
      have c6b0 : (FloatKind.f64.format.order a0_0 a1_0 == some .lt) = true := c6
      (try (have c6b1 : decide (FloatKind.f64.format.order a0_0 a1_0 = some .lt) = true := by simpa using c6))
      (try (have c6b2 : (FloatKind.f64.format.order a0_0 a1_0 == some .lt) = true := by simpa using c6))
      clear c6
      (first | rw [c6b0] | (simp only [i64_w, i32_w]; rw [c6b0]) | skip)
      have H' := Aside0.mk H
      clear H
      have hnb7 := NB258_259.out
      have hnc7 := NB259_258.out
      have hcz8_0 : w5.cell? ⟨gb258, 0, none⟩ = some (.float .f64 a0_0) := (blk_cell BK258.out 0).trans rfl
      have hcz8_1 : w5.cell? ⟨gb258, 1, none⟩ = some (.float .f64 a0_1) := (blk_cell BK258.out 1).trans rfl
      have hfz8_0 := blk_frozen BK258.out 0
      have hfz8_1 := blk_frozen BK258.out 1
      have hcz9_0 : w5.cell? ⟨gb259, 0, none⟩ = some (.float .f64 a1_0) := (blk_cell BK259.out 0).trans rfl
      have hcz9_1 : w5.cell? ⟨gb259, 1, none⟩ = some (.float .f64 a1_1) := (blk_cell BK259.out 1).trans rfl
      have hfz9_0 := blk_frozen BK259.out 0
      have hfz9_1 := blk_frozen BK259.out 1
      go_wp2
      go_meet
      case rel => exact ⟨_, (true), (by first | rfl | (simp; done) | (simp [*]; done)), H', ⟨by first | omega | exact Nat.le_refl _⟩, ⟨by (with_reducible repeat (first | refine blk_drewN ?_ _ | refine blk_drew ?_ | refine blk_alloc ?_ _)); exact BK258.out⟩, ⟨by (with_reducible repeat (first | refine blk_drewN ?_ _ | refine blk_drew ?_ | refine blk_alloc ?_ _)); exact BK259.out⟩, ⟨by repeat (first | (with_reducible first | exact HB.out | apply below_alloc | apply pw_below_drewN | apply below_drew1 | refine below_set ?_ GE258.out | refine below_set ?_ GE259.out) | exact HB.out)⟩⟩
    · rw [if_neg c6] at H
      have c6b0 : (FloatKind.f64.format.order a0_0 a1_0 == some .lt) = false := by simpa using c6
      (try (have c6b1 : decide (FloatKind.f64.format.order a0_0 a1_0 = some .lt) = false := by simpa using c6))
      (try (have c6b2 : (FloatKind.f64.format.order a0_0 a1_0 == some .lt) = false := by simpa using c6))
      (try (have c6b3 : ¬ (FloatKind.f64.format.order a0_0 a1_0 = some .lt) := by simpa using c6))
      clear c6
      (first | rw [c6b0] | (simp only [i64_w, i32_w]; rw [c6b0]) | skip)
      by_cases c10 : (FloatKind.f64.format.order a0_0 a1_0 == some .eq) = true
      · rw [if_pos c10] at H
        have c10b0 : (FloatKind.f64.format.order a0_0 a1_0 == some .eq) = true := c10
        (try (have c10b1 : decide (FloatKind.f64.format.order a0_0 a1_0 = some .eq) = true := by simpa using c10))
        (try (have c10b2 : (FloatKind.f64.format.order a0_0 a1_0 == some .eq) = true := by simpa using c10))
        clear c10
        have H' := Aside0.mk H
        clear H
        have hnb11 := NB258_259.out
        have hnc11 := NB259_258.out
        have hcz12_0 : w5.cell? ⟨gb258, 0, none⟩ = some (.float .f64 a0_0) := (blk_cell BK258.out 0).trans rfl
        have hcz12_1 : w5.cell? ⟨gb258, 1, none⟩ = some (.float .f64 a0_1) := (blk_cell BK258.out 1).trans rfl
        have hfz12_0 := blk_frozen BK258.out 0
        have hfz12_1 := blk_frozen BK258.out 1
        have hcz13_0 : w5.cell? ⟨gb259, 0, none⟩ = some (.float .f64 a1_0) := (blk_cell BK259.out 0).trans rfl
        have hcz13_1 : w5.cell? ⟨gb259, 1, none⟩ = some (.float .f64 a1_1) := (blk_cell BK259.out 1).trans rfl
        have hfz13_0 := blk_frozen BK259.out 0
        have hfz13_1 := blk_frozen BK259.out 1
        go_wp2
        go_meet
        case rel => exact ⟨_, ((FloatKind.f64.format.order a0_1 a1_1 == some .lt)), (by first | rfl | (simp; done) | (simp [*]; done)), H', ⟨by first | omega | exact Nat.le_refl _⟩, ⟨by (with_reducible repeat (first | refine blk_drewN ?_ _ | refine blk_drew ?_ | refine blk_alloc ?_ _)); exact BK258.out⟩, ⟨by (with_reducible repeat (first | refine blk_drewN ?_ _ | refine blk_drew ?_ | refine blk_alloc ?_ _)); exact BK259.out⟩, ⟨by repeat (first | (with_reducible first | exact HB.out | apply below_alloc | apply pw_below_drewN | apply below_drew1 | refine below_set ?_ GE258.out | refine below_set ?_ GE259.out) | exact HB.out)⟩⟩
      · rw [if_neg c10] at H
        have c10b0 : (FloatKind.f64.format.order a0_0 a1_0 == some .eq) = false := by simpa using c10
        (try (have c10b1 : decide (FloatKind.f64.format.order a0_0 a1_0 = some .eq) = false := by simpa using c10))
        (try (have c10b2 : (FloatKind.f64.format.order a0_0 a1_0 == some .eq) = false := by simpa using c10))
        (try (have c10b3 : ¬ (FloatKind.f64.format.order a0_0 a1_0 = some .eq) := by simpa using c10))
        clear c10
        have H' := Aside0.mk H
        clear H
        have hnb14 := NB258_259.out
        have hnc14 := NB259_258.out
        have hcz15_0 : w5.cell? ⟨gb258, 0, none⟩ = some (.float .f64 a0_0) := (blk_cell BK258.out 0).trans rfl
        have hcz15_1 : w5.cell? ⟨gb258, 1, none⟩ = some (.float .f64 a0_1) := (blk_cell BK258.out 1).trans rfl
        have hfz15_0 := blk_frozen BK258.out 0
        have hfz15_1 := blk_frozen BK258.out 1
        have hcz16_0 : w5.cell? ⟨gb259, 0, none⟩ = some (.float .f64 a1_0) := (blk_cell BK259.out 0).trans rfl
        have hcz16_1 : w5.cell? ⟨gb259, 1, none⟩ = some (.float .f64 a1_1) := (blk_cell BK259.out 1).trans rfl
        have hfz16_0 := blk_frozen BK259.out 0
        have hfz16_1 := blk_frozen BK259.out 1
        go_wp2
        go_meet
        case rel => exact ⟨_, (false), (by first | rfl | (simp; done) | (simp [*]; done)), H', ⟨by first | omega | exact Nat.le_refl _⟩, ⟨by (with_reducible repeat (first | refine blk_drewN ?_ _ | refine blk_drew ?_ | refine blk_alloc ?_ _)); exact BK258.out⟩, ⟨by (with_reducible repeat (first | refine blk_drewN ?_ _ | refine blk_drew ?_ | refine blk_alloc ?_ _)); exact BK259.out⟩, ⟨by repeat (first | (with_reducible first | exact HB.out | apply below_alloc | apply pw_below_drewN | apply below_drew1 | refine below_set ?_ GE258.out | refine below_set ?_ GE259.out) | exact HB.out)⟩⟩
  case rest =>
    clear HC3
    try clear c1
    try clear p2
    try clear c6
    try clear c6b0
    try clear c6b1
    try clear c6b2
    try clear c7
    try clear c9
    try clear c10
    try clear c10b0
    try clear c10b1
    try clear c10b2
    try clear c11
    try clear c14
    try clear hcz12_0
    try clear hcz12_1
    try clear hcz13_0
    try clear hcz13_1
    try clear hcz15_0
    try clear hcz15_1
    try clear hcz16_0
    try clear hcz16_1
    try clear hcz8_0
    try clear hcz8_1
    try clear hcz9_0
    try clear hcz9_1
    try clear hfz12_0
    try clear hfz12_1
    try clear hfz13_0
    try clear hfz13_1
    try clear hfz15_0
    try clear hfz15_1
    try clear hfz16_0
    try clear hfz16_1
    try clear hfz8_0
    try clear hfz8_1
    try clear hfz9_0
    try clear hfz9_1
    obtain ⟨kq, x23_2, rfl, HA, HJ2, BK258, BK259, HB⟩ := hcut
    cases kq with
    | zero => exact absurd HA.out (by simp [trivetref07_Hold.j0])
    | succ kj2 =>
      have H := HA.out
      clear HA
      simp only [trivetref07_Hold.j0] at H
      by_cases c17 : x23_2 = true
      · subst c17
        have H1 : (some (-1)) = some r := by rw [if_pos rfl] at H; exact H
        clear H
        have H := H1
        clear H1
        obtain rfl := Option.some.inj H
        go_wp2
        go_ret
        exact ⟨by first | rfl | (simp [errW_none, errW_some] <;> rfl) | (simp [*, errW_none, errW_some] <;> rfl), by repeat (first | (with_reducible first | exact HB.out | apply below_alloc | apply pw_below_drewN | apply below_drew1 | refine below_set ?_ GE258.out | refine below_set ?_ GE259.out) | exact HB.out)⟩
      · replace c17 := Bool.eq_false_iff.mpr c17
        subst c17
        have H1 : (if (FloatKind.f64.format.order a0_0 a1_0 == some .eq) = true then (if (FloatKind.f64.format.order a0_1 a1_1 == some .eq) = true then (some 0) else (some 1)) else (some 1)) = some r := by rw [if_neg (show ¬ (false = true) by decide)] at H; exact H
        clear H
        have H := H1
        clear H1
        by_cases c18 : (FloatKind.f64.format.order a0_0 a1_0 == some .eq) = true
        · rw [if_pos c18] at H
          have c18b0 : (FloatKind.f64.format.order a0_0 a1_0 == some .eq) = true := c18
          (try (have c18b1 : decide (FloatKind.f64.format.order a0_0 a1_0 = some .eq) = true := by simpa using c18))
          (try (have c18b2 : (FloatKind.f64.format.order a0_0 a1_0 == some .eq) = true := by simpa using c18))
          clear c18
          by_cases c19 : (FloatKind.f64.format.order a0_1 a1_1 == some .eq) = true
          · rw [if_pos c19] at H
            have c19b0 : (FloatKind.f64.format.order a0_1 a1_1 == some .eq) = true := c19
            (try (have c19b1 : decide (FloatKind.f64.format.order a0_1 a1_1 = some .eq) = true := by simpa using c19))
            (try (have c19b2 : (FloatKind.f64.format.order a0_1 a1_1 == some .eq) = true := by simpa using c19))
            clear c19
            obtain rfl := Option.some.inj H
            have hnb20 := NB258_259.out
            have hnc20 := NB259_258.out
            have hcz21_0 : wc.cell? ⟨gb258, 0, none⟩ = some (.float .f64 a0_0) := (blk_cell BK258.out 0).trans rfl
            have hcz21_1 : wc.cell? ⟨gb258, 1, none⟩ = some (.float .f64 a0_1) := (blk_cell BK258.out 1).trans rfl
            have hfz21_0 := blk_frozen BK258.out 0
            have hfz21_1 := blk_frozen BK258.out 1
            have hcz22_0 : wc.cell? ⟨gb259, 0, none⟩ = some (.float .f64 a1_0) := (blk_cell BK259.out 0).trans rfl
            have hcz22_1 : wc.cell? ⟨gb259, 1, none⟩ = some (.float .f64 a1_1) := (blk_cell BK259.out 1).trans rfl
            have hfz22_0 := blk_frozen BK259.out 0
            have hfz22_1 := blk_frozen BK259.out 1
            go_wp2
            go_ret
            exact ⟨by first | rfl | (simp [errW_none, errW_some] <;> rfl) | (simp [*, errW_none, errW_some] <;> rfl), by repeat (first | (with_reducible first | exact HB.out | apply below_alloc | apply pw_below_drewN | apply below_drew1 | refine below_set ?_ GE258.out | refine below_set ?_ GE259.out) | exact HB.out)⟩
          · rw [if_neg c19] at H
            have c19b0 : (FloatKind.f64.format.order a0_1 a1_1 == some .eq) = false := by simpa using c19
            (try (have c19b1 : decide (FloatKind.f64.format.order a0_1 a1_1 = some .eq) = false := by simpa using c19))
            (try (have c19b2 : (FloatKind.f64.format.order a0_1 a1_1 == some .eq) = false := by simpa using c19))
            (try (have c19b3 : ¬ (FloatKind.f64.format.order a0_1 a1_1 = some .eq) := by simpa using c19))
            clear c19
            obtain rfl := Option.some.inj H
            have hnb23 := NB258_259.out
            have hnc23 := NB259_258.out
            have hcz24_0 : wc.cell? ⟨gb258, 0, none⟩ = some (.float .f64 a0_0) := (blk_cell BK258.out 0).trans rfl
            have hcz24_1 : wc.cell? ⟨gb258, 1, none⟩ = some (.float .f64 a0_1) := (blk_cell BK258.out 1).trans rfl
            have hfz24_0 := blk_frozen BK258.out 0
            have hfz24_1 := blk_frozen BK258.out 1
            have hcz25_0 : wc.cell? ⟨gb259, 0, none⟩ = some (.float .f64 a1_0) := (blk_cell BK259.out 0).trans rfl
            have hcz25_1 : wc.cell? ⟨gb259, 1, none⟩ = some (.float .f64 a1_1) := (blk_cell BK259.out 1).trans rfl
            have hfz25_0 := blk_frozen BK259.out 0
            have hfz25_1 := blk_frozen BK259.out 1
            go_wp2
            go_ret
            exact ⟨by first | rfl | (simp [errW_none, errW_some] <;> rfl) | (simp [*, errW_none, errW_some] <;> rfl), by repeat (first | (with_reducible first | exact HB.out | apply below_alloc | apply pw_below_drewN | apply below_drew1 | refine below_set ?_ GE258.out | refine below_set ?_ GE259.out) | exact HB.out)⟩
        · rw [if_neg c18] at H
          have c18b0 : (FloatKind.f64.format.order a0_0 a1_0 == some .eq) = false := by simpa using c18
          (try (have c18b1 : decide (FloatKind.f64.format.order a0_0 a1_0 = some .eq) = false := by simpa using c18))
          (try (have c18b2 : (FloatKind.f64.format.order a0_0 a1_0 == some .eq) = false := by simpa using c18))
          (try (have c18b3 : ¬ (FloatKind.f64.format.order a0_0 a1_0 = some .eq) := by simpa using c18))
          clear c18
          obtain rfl := Option.some.inj H
          have hnb26 := NB258_259.out
          have hnc26 := NB259_258.out
          have hcz27_0 : wc.cell? ⟨gb258, 0, none⟩ = some (.float .f64 a0_0) := (blk_cell BK258.out 0).trans rfl
          have hcz27_1 : wc.cell? ⟨gb258, 1, none⟩ = some (.float .f64 a0_1) := (blk_cell BK258.out 1).trans rfl
          have hfz27_0 := blk_frozen BK258.out 0
          have hfz27_1 := blk_frozen BK258.out 1
          have hcz28_0 : wc.cell? ⟨gb259, 0, none⟩ = some (.float .f64 a1_0) := (blk_cell BK259.out 0).trans rfl
          have hcz28_1 : wc.cell? ⟨gb259, 1, none⟩ = some (.float .f64 a1_1) := (blk_cell BK259.out 1).trans rfl
          have hfz28_0 := blk_frozen BK259.out 0
          have hfz28_1 := blk_frozen BK259.out 1
          go_wp2
          go_ret
          exact ⟨by first | rfl | (simp [errW_none, errW_some] <;> rfl) | (simp [*, errW_none, errW_some] <;> rfl), by repeat (first | (with_reducible first | exact HB.out | apply below_alloc | apply pw_below_drewN | apply below_drew1 | refine below_set ?_ GE258.out | refine below_set ?_ GE259.out) | exact HB.out)⟩

end Go.Proofs.Ythcklcfdeejkpaa.R
