/- Plain Lean functions for Go functions of the program, and proofs that the calls come to them; written by a program of this session (wip/tools), not by the kit's print. No condition. -/
import Derived.Test.YthcklcfdeejkpaaPG0
namespace Go.Proofs.Ythcklcfdeejkpaa.PG
open Go.RowKit Go.Proofs.YthcklcfdeejkpaaW.PrintWords Go.Proofs.YthcklcfdeejkpaaW.PrintLast Go.Proofs.YthcklcfdeejkpaaW.PrintMore
attribute [local go_sem] max2_int min2_int max_two min_two max_three min_three max_four min_four   -- for this text's walks alone
set_option linter.unusedVariables false
set_option linter.unusedSimpArgs false

/-! ### trivetref23_Order: function 5 -/
mutual
def trivetref23_Order.j0 : Nat → Int → Int → Bool → Option (List Int)
  | 0, _, _, _ => none
  | k + 1, x0, x1, x16 => if x16 = true then (some ([] : List Int)) else (trivetref23_Order.l0 k x0 x1 ([] : List Int) 0)
def trivetref23_Order.l0 : Nat → Int → Int → List Int → Int → Option (List Int)
  | 0, _, _, _, _ => none
  | k + 1, x0, x1, x5, x6 => if x6 < x0 then (if x5.length < 17592186044416 then (trivetref23_Order.l0 k x0 x1 (x5 ++ [x6]) (wrap64 (x6 + 1))) else (none)) else (trivetref23_Order.l1 k x5 x1 (wrap64 (x0 - 1)))
def trivetref23_Order.l1 : Nat → List Int → Int → Int → Option (List Int)
  | 0, _, _, _ => none
  | k + 1, x5, x7, x8 => if x8 ≥ 1 then (if (IntKind.u64.wrap (wrap64 (x8 + 1))) = 0 then (none) else (if 0 ≤ x8 then (if x8 < (x5.length : Int) then (if 0 ≤ (wrap64 (Int.tmod (IntKind.u64.wrap (Int.tdiv (IntKind.u64.wrap ((IntKind.u64.wrap (x7 * 6364136223846793005)) + 1442695040888963407)) 8589934592)) (IntKind.u64.wrap (wrap64 (x8 + 1))))) then (if (wrap64 (Int.tmod (IntKind.u64.wrap (Int.tdiv (IntKind.u64.wrap ((IntKind.u64.wrap (x7 * 6364136223846793005)) + 1442695040888963407)) 8589934592)) (IntKind.u64.wrap (wrap64 (x8 + 1))))) < (x5.length : Int) then (trivetref23_Order.l1 k ((x5.set (x8 : Int).toNat (rd x5 (wrap64 (Int.tmod (IntKind.u64.wrap (Int.tdiv (IntKind.u64.wrap ((IntKind.u64.wrap (x7 * 6364136223846793005)) + 1442695040888963407)) 8589934592)) (IntKind.u64.wrap (wrap64 (x8 + 1))))))).set ((wrap64 (Int.tmod (IntKind.u64.wrap (Int.tdiv (IntKind.u64.wrap ((IntKind.u64.wrap (x7 * 6364136223846793005)) + 1442695040888963407)) 8589934592)) (IntKind.u64.wrap (wrap64 (x8 + 1))))) : Int).toNat (rd x5 x8)) (IntKind.u64.wrap ((IntKind.u64.wrap (x7 * 6364136223846793005)) + 1442695040888963407)) (wrap64 (x8 - 1))) else (none)) else (none)) else (none)) else (none))) else (some x5)
end
def trivetref23_Order.f (k : Nat) (a0 : Int) (a1 : Int) : Option (List Int) := if a0 < 0 then (trivetref23_Order.j0 k a0 a1 true) else (trivetref23_Order.j0 k a0 a1 (decide (a0 > 1048576)))
theorem trivetref23_Order.mono_l : ∀ k, (∀ y0 y1 y2, LeO (trivetref23_Order.j0 k y0 y1 y2) (trivetref23_Order.j0 (k + 1) y0 y1 y2)) ∧ (∀ y0 y1 y2 y3, LeO (trivetref23_Order.l0 k y0 y1 y2 y3) (trivetref23_Order.l0 (k + 1) y0 y1 y2 y3)) ∧ (∀ y0 y1 y2, LeO (trivetref23_Order.l1 k y0 y1 y2) (trivetref23_Order.l1 (k + 1) y0 y1 y2))
  | 0 => ⟨fun _ _ _ r h => by simp [trivetref23_Order.j0] at h, fun _ _ _ _ r h => by simp [trivetref23_Order.l0] at h, fun _ _ _ r h => by simp [trivetref23_Order.l1] at h⟩
  | k + 1 => by
    obtain ⟨ih0, ih1, ih2⟩ := trivetref23_Order.mono_l k
    refine ⟨?_, ?_, ?_⟩
    · intro y0 y1 y2
      unfold trivetref23_Order.j0
      repeat' first
      | (with_reducible exact ih0 _ _ _)
      | (with_reducible exact ih1 _ _ _ _)
      | (with_reducible exact ih2 _ _ _)
      | (with_reducible exact LeO.refl _)
      | (with_reducible exact LeO.none _)
      | (with_reducible refine LeO.ite ?_ ?_)
      | (with_reducible refine LeO.bind ?_ (fun _ => ?_))
      | exact ih0 _ _ _
      | exact ih1 _ _ _ _
      | exact ih2 _ _ _
      | exact LeO.none _
      | refine LeO.ite ?_ ?_
      | refine LeO.bind ?_ (fun _ => ?_)
    · intro y0 y1 y2 y3
      unfold trivetref23_Order.l0
      repeat' first
      | (with_reducible exact ih0 _ _ _)
      | (with_reducible exact ih1 _ _ _ _)
      | (with_reducible exact ih2 _ _ _)
      | (with_reducible exact LeO.refl _)
      | (with_reducible exact LeO.none _)
      | (with_reducible refine LeO.ite ?_ ?_)
      | (with_reducible refine LeO.bind ?_ (fun _ => ?_))
      | exact ih0 _ _ _
      | exact ih1 _ _ _ _
      | exact ih2 _ _ _
      | exact LeO.none _
      | refine LeO.ite ?_ ?_
      | refine LeO.bind ?_ (fun _ => ?_)
    · intro y0 y1 y2
      unfold trivetref23_Order.l1
      repeat' first
      | (with_reducible exact ih0 _ _ _)
      | (with_reducible exact ih1 _ _ _ _)
      | (with_reducible exact ih2 _ _ _)
      | (with_reducible exact LeO.refl _)
      | (with_reducible exact LeO.none _)
      | (with_reducible refine LeO.ite ?_ ?_)
      | (with_reducible refine LeO.bind ?_ (fun _ => ?_))
      | exact ih0 _ _ _
      | exact ih1 _ _ _ _
      | exact ih2 _ _ _
      | exact LeO.none _
      | refine LeO.ite ?_ ?_
      | refine LeO.bind ?_ (fun _ => ?_)
theorem trivetref23_Order.mono : ∀ a0 a1 k, LeO (trivetref23_Order.f k a0 a1) (trivetref23_Order.f (k + 1) a0 a1) := by
  intro a0 a1 k
  obtain ⟨ih0, ih1, ih2⟩ := trivetref23_Order.mono_l k
  unfold trivetref23_Order.f
  repeat' first
      | (with_reducible exact ih0 _ _ _)
      | (with_reducible exact ih1 _ _ _ _)
      | (with_reducible exact ih2 _ _ _)
      | (with_reducible exact LeO.refl _)
      | (with_reducible exact LeO.none _)
      | (with_reducible refine LeO.ite ?_ ?_)
      | (with_reducible refine LeO.bind ?_ (fun _ => ?_))
      | exact ih0 _ _ _
      | exact ih1 _ _ _ _
      | exact ih2 _ _ _
      | exact LeO.none _
      | refine LeO.ite ?_ ?_
      | refine LeO.bind ?_ (fun _ => ?_)
set_option maxHeartbeats 8000000 in
set_option maxRecDepth 100000 in
theorem trivetref23_Order.calls (k : Nat) (a0 : Int) (a1 : Int) (r : List Int) (w : World) (h : trivetref23_Order.f k a0 a1 = some r) :
    Calls Try.prog 5 #[.int .i64 a0, .int .u64 a1] w fun e w' => ∃ v0_ : Value, e = .returned (v0_) ∧ Kd.R (Kd.int .i64) 3 w' w.heap.size (fun _ => True) v0_ r ∧ Below w.heap.size w w' := by
  have HB := Aside0.mk (Below.refl w.heap.size w)
  have H : (if a0 < 0 then (trivetref23_Order.j0 k a0 a1 true) else (trivetref23_Order.j0 k a0 a1 (decide (a0 > 1048576)))) = some r := h
  clear h
  have HC3 := Aside0.mk H
  clear H
  go_enter Try.func5, Try.ntmps5
  go_upto_region 1 with (fail)
  go_cut [16] (fun v16 wc => ∃ (kq : Nat) (x16_2 : Bool), v16 = .bool x16_2 ∧ Aside0 (trivetref23_Order.j0 kq a0 a1 x16_2 = some r) ∧ Aside0 (kq ≤ k) ∧ Aside0 (Below w.heap.size w wc))
  case first =>
    have H := HC3.out
    clear HC3
    by_cases c4 : a0 < 0
    · rw [if_pos c4] at H
      have c4b0 : decide (a0 < 0) = true := decide_eq_true c4
      clear c4
      (first | rw [c4b0] | (simp only [i64_w, i32_w]; rw [c4b0]) | skip)
      have H' := Aside0.mk H
      clear H
      go_wp2
      go_meet
      case rel => exact ⟨_, (true), (by first | rfl | (simp; done) | (simp [*]; done)), H', ⟨by first | omega | exact Nat.le_refl _⟩, ⟨by repeat (first | (with_reducible first | exact HB.out | apply below_alloc | apply pw_below_drewN | apply below_drew1) | exact HB.out)⟩⟩
    · rw [if_neg c4] at H
      have c4b0 : decide (a0 < 0) = false := decide_eq_false c4
      clear c4
      (first | rw [c4b0] | (simp only [i64_w, i32_w]; rw [c4b0]) | skip)
      have H' := Aside0.mk H
      clear H
      go_wp2
      go_meet
      case rel => exact ⟨_, (decide (a0 > 1048576)), (by first | rfl | (simp; done) | (simp [*]; done)), H', ⟨by first | omega | exact Nat.le_refl _⟩, ⟨by repeat (first | (with_reducible first | exact HB.out | apply below_alloc | apply pw_below_drewN | apply below_drew1) | exact HB.out)⟩⟩
  case rest =>
    clear HC3
    try clear p2
    try clear c4
    try clear c4b0
    obtain ⟨kq, x16_2, rfl, HA, HJ2, HB⟩ := hcut
    cases kq with
    | zero => exact absurd HA.out (by simp [trivetref23_Order.j0])
    | succ kj2 =>
      have H := HA.out
      clear HA
      simp only [trivetref23_Order.j0] at H
      by_cases c5 : x16_2 = true
      · subst c5
        have H1 : (some ([] : List Int)) = some r := by rw [if_pos rfl] at H; exact H
        clear H
        have H := H1
        clear H1
        obtain rfl := Option.some.inj H
        go_wp2
        go_ret
        exact ⟨_, by first | rfl | (simp [errW_none, errW_some] <;> rfl) | (simp [*, errW_none, errW_some] <;> rfl), by first | exact Kd.R_nil _ _ _ _ _ | exact Kd.N_nil _ _ _ _ _ | exact Kd.V_nil _ _ _ _ _ | exact Kd.Q_nil _ _ _ _ _ | exact Kd.S_nil _ _ _ _ _, by repeat (first | (with_reducible first | exact HB.out | apply below_alloc | apply pw_below_drewN | apply below_drew1) | exact HB.out)⟩
      · replace c5 := Bool.eq_false_iff.mpr c5
        subst c5
        have H1 : (trivetref23_Order.l0 kj2 a0 a1 ([] : List Int) 0) = some r := by rw [if_neg (show ¬ (false = true) by decide)] at H; exact H
        clear H
        have H := H1
        clear H1
        have H' := Aside0.mk H
        clear H
        go_wp2
        go_loopg [5, 6] kj2 (fun kq v5 v6 w' => ∃ (x5_2 : List Int) (x6_2 : Int), v6 = .int .i64 x6_2 ∧ Aside0 (trivetref23_Order.l0 kq a0 a1 x5_2 x6_2 = some r) ∧ Aside0 (kq ≤ kj2) ∧ Aside0 (Kd.R (Kd.int .i64) 3 w' w.heap.size (fun _ => True) v5 x5_2) ∧ Aside0 (Below w.heap.size w w'))
        case atStart => exact ⟨(([] : List Int)), (0), (by first | rfl | (simp; done) | (simp [*]; done)), H', ⟨Nat.le_refl _⟩, ⟨by first | exact Kd.R_nil _ _ _ _ _ | exact Kd.N_nil _ _ _ _ _ | exact Kd.V_nil _ _ _ _ _ | exact Kd.Q_nil _ _ _ _ _ | exact Kd.S_nil _ _ _ _ _⟩, ⟨by repeat (first | (with_reducible first | exact HB.out | apply below_alloc | apply pw_below_drewN | apply below_drew1) | exact HB.out)⟩⟩
        case round =>
          clear H'
          try clear p2
          try clear c4
          try clear c4b0
          try clear c5
          try clear p2
          obtain ⟨x5_2, x6_2, rfl, HA, HK2, HO_5, HB⟩ := hrel
          cases gk with
          | zero => exact absurd HA.out (by simp [trivetref23_Order.l0])
          | succ k2 =>
            have H := HA.out
            clear HA
            simp only [trivetref23_Order.l0] at H
            by_cases c6 : x6_2 < a0
            · rw [if_pos c6] at H
              have c6b0 : decide (x6_2 < a0) = true := decide_eq_true c6
              clear c6
              by_cases c7 : x5_2.length < 17592186044416
              · rw [if_pos c7] at H
                have LMc7 := Aside0.mk c7
                clear c7
                obtain ⟨y101, hy101⟩ : ∃ y_ : List Int, y_ = (x5_2 ++ [x6_2]) := ⟨_, rfl⟩
                replace H : (trivetref23_Order.l0 k2 a0 a1 y101 (wrap64 (x6_2 + 1))) = some r := by first | (rw [hy101]; with_reducible exact H) | (have H2_ := (Option.bind_some _ _).symm.trans H; rw [hy101]; with_reducible exact H2_) | (have H2_ := (Option.bind_some _ _).symm.trans H; with_reducible exact H2_) | with_reducible exact H | (rw [hy101]; exact H) | exact H
                have Ny101 := Aside0.mk hy101
                clear hy101
                have H' := Aside0.mk H
                clear H
                go_wp2_with (first | ((with_reducible refine gate_builtin (b := .append) (xs := #[.tmp 22, .tmp 24]) rfl ?_); at_builtin; refine Kd.R_append (Kd.int .i64) (w0 := w) w.heap.size rfl (.tmp 22) (.tmp 24) 23 3 (.int .i64 0) 8 rfl Try.underlying23 info3 rfl (by decide) (by omega) u5 x5_2 x6_2 [.int .i64 x6_2] (fun _ => True) (fun _ => False) rfl rfl ?aP (fun _ hk => hk.elim) ?aF ?aO ?aB ?aS ?aL ?_; (case aP => exact rfl); (case aB => exact (by repeat (first | (with_reducible first | exact HB.out | apply below_alloc | apply pw_below_drewN | apply below_drew1) | exact HB.out))); (case aF => exact (fun _ _ => trivial)); (case aO => exact (by (with_reducible repeat (first | apply Kd.R_alloc | apply Kd.R_drewN | apply Kd.R_drew)); exact HO_5.out)); (case aS => exact (below_size (by repeat (first | (with_reducible first | exact HB.out | apply below_alloc | apply pw_below_drewN | apply below_drew1) | exact HB.out)))); (case aL => have := LMc7.out; omega); intro v102 w8 ho hb hg hat; rw [← Ny101.out] at ho; have n0_ := Aside0.mk (hb); have n1_ := Aside0.mk (ho); clear HB; clear HO_5; have HB := n0_; have HO103 := n1_; clear n0_ n1_; clear ho hb hg hat))
                go_roundg k2
                case measure => have := HJ2.out; have := HK2.out; omega
                case rel => exact ⟨(y101), (wrap64 (x6_2 + 1)), (by first | rfl | (simp; done) | (simp [*]; done)), H', ⟨by have := HJ2.out; have := HK2.out; omega⟩, ⟨by (with_reducible repeat (first | apply Kd.R_alloc | apply Kd.R_drewN | apply Kd.R_drew)); exact HO103.out⟩, ⟨by repeat (first | (with_reducible first | exact HB.out | apply below_alloc | apply pw_below_drewN | apply below_drew1) | exact HB.out)⟩⟩
              · rw [if_neg c7] at H
                exact absurd H (by simp)
            · rw [if_neg c6] at H
              have c6b0 : decide (x6_2 < a0) = false := decide_eq_false c6
              clear c6
              have H' := Aside0.mk H
              clear H
              go_wp2
              go_loopg [7, 8] k2 (fun kq v7 v8 w' => ∃ (x5_3 : List Int) (x7_3 : Int) (x8_3 : Int), v7 = .int .u64 x7_3 ∧ v8 = .int .i64 x8_3 ∧ Aside0 (trivetref23_Order.l1 kq x5_3 x7_3 x8_3 = some r) ∧ Aside0 (kq ≤ k2) ∧ Aside0 (Kd.R (Kd.int .i64) 3 w' w.heap.size (fun _ => True) u5 x5_3) ∧ Aside0 (Below w.heap.size w w'))
              case atStart => exact ⟨(x5_2), (a1), (wrap64 (a0 - 1)), (by first | rfl | (simp; done) | (simp [*]; done)), (by first | rfl | (simp; done) | (simp [*]; done)), H', ⟨Nat.le_refl _⟩, ⟨by (with_reducible repeat (first | apply Kd.R_alloc | apply Kd.R_drewN | apply Kd.R_drew)); exact HO_5.out⟩, ⟨by repeat (first | (with_reducible first | exact HB.out | apply below_alloc | apply pw_below_drewN | apply below_drew1) | exact HB.out)⟩⟩
              case round =>
                clear H'
                try clear p2
                try clear c4
                try clear c4b0
                try clear c5
                try clear c6
                try clear c6b0
                try clear p6
                try clear c7
                try clear p2
                obtain ⟨x5_3, x7_3, x8_3, rfl, rfl, HA, HK3, HO_5, HB⟩ := hrel
                cases gk with
                | zero => exact absurd HA.out (by simp [trivetref23_Order.l1])
                | succ k3 =>
                  have H := HA.out
                  clear HA
                  simp only [trivetref23_Order.l1] at H
                  by_cases c9 : x8_3 ≥ 1
                  · rw [if_pos c9] at H
                    have c9b0 : decide (1 ≤ x8_3) = true := decide_eq_true c9
                    clear c9
                    by_cases c10 : (IntKind.u64.wrap (wrap64 (x8_3 + 1))) = 0
                    · rw [if_pos c10] at H
                      exact absurd H (by simp)
                    · rw [if_neg c10] at H
                      have c10b0 : ((IntKind.u64.wrap (wrap64 (x8_3 + 1))) == 0) = false := beq_eq_false_iff_ne.mpr c10
                      have c10b1 : ((IntKind.u64.wrap (wrap64 (x8_3 + 1))) != 0) = true := bne_iff_ne.mpr c10
                      by_cases c11 : 0 ≤ x8_3
                      · rw [if_pos c11] at H
                        have c11b0 : decide (0 ≤ x8_3) = true := decide_eq_true c11
                        clear c11
                        by_cases c12 : x8_3 < (x5_3.length : Int)
                        · rw [if_pos c12] at H
                          have c12b0 : decide (x8_3 < (x5_3.length : Int)) = true := decide_eq_true c12
                          clear c12
                          obtain ⟨ji13, hji13⟩ : ∃ j_ : Int, (wrap64 (Int.tmod (IntKind.u64.wrap (Int.tdiv (IntKind.u64.wrap ((IntKind.u64.wrap (x7_3 * 6364136223846793005)) + 1442695040888963407)) 8589934592)) (IntKind.u64.wrap (wrap64 (x8_3 + 1))))) = j_ := ⟨_, rfl⟩
                          replace H : (if 0 ≤ (ji13) then (if (ji13) < (x5_3.length : Int) then (trivetref23_Order.l1 k3 ((x5_3.set (x8_3 : Int).toNat (rd x5_3 (ji13))).set ((ji13) : Int).toNat (rd x5_3 x8_3)) (IntKind.u64.wrap ((IntKind.u64.wrap (x7_3 * 6364136223846793005)) + 1442695040888963407)) (wrap64 (x8_3 - 1))) else (none)) else (none)) = some r := by first | (rw [hji13] at H; exact H) | (simp only [hji13] at H ⊢; exact H)
                          have hji13w : (IntKind.i64.wrap (Int.tmod (IntKind.u64.wrap (Int.tdiv (IntKind.u64.wrap ((IntKind.u64.wrap (x7_3 * 6364136223846793005)) + 1442695040888963407)) 8589934592)) (IntKind.u64.wrap (wrap64 (x8_3 + 1))))) = ji13 := (i64_w _).trans hji13
                          by_cases c14 : 0 ≤ (ji13)
                          · rw [if_pos c14] at H
                            have c14b0 : decide (0 ≤ (ji13)) = true := decide_eq_true c14
                            clear c14
                            by_cases c15 : (ji13) < (x5_3.length : Int)
                            · rw [if_pos c15] at H
                              have c15b0 : decide ((ji13) < (x5_3.length : Int)) = true := decide_eq_true c15
                              clear c15
                              obtain ⟨y106, hy106⟩ : ∃ y_ : List Int, y_ = (x5_3.set (x8_3 : Int).toNat (rd x5_3 (ji13))) := ⟨_, rfl⟩
                              replace H : (trivetref23_Order.l1 k3 (y106.set ((ji13) : Int).toNat (rd x5_3 x8_3)) (IntKind.u64.wrap ((IntKind.u64.wrap (x7_3 * 6364136223846793005)) + 1442695040888963407)) (wrap64 (x8_3 - 1))) = some r := by first | (rw [hy106]; with_reducible exact H) | (have H2_ := (Option.bind_some _ _).symm.trans H; rw [hy106]; with_reducible exact H2_) | (have H2_ := (Option.bind_some _ _).symm.trans H; with_reducible exact H2_) | with_reducible exact H | (rw [hy106]; exact H) | exact H
                              have Ny106 := Aside0.mk hy106
                              clear hy106
                              obtain ⟨y107, hy107⟩ : ∃ y_ : List Int, y_ = (y106.set ((ji13) : Int).toNat (rd x5_3 x8_3)) := ⟨_, rfl⟩
                              replace H : (trivetref23_Order.l1 k3 y107 (IntKind.u64.wrap ((IntKind.u64.wrap (x7_3 * 6364136223846793005)) + 1442695040888963407)) (wrap64 (x8_3 - 1))) = some r := by first | (rw [hy107]; with_reducible exact H) | (have H2_ := (Option.bind_some _ _).symm.trans H; rw [hy107]; with_reducible exact H2_) | (have H2_ := (Option.bind_some _ _).symm.trans H; with_reducible exact H2_) | with_reducible exact H | (rw [hy107]; exact H) | exact H
                              have Ny107 := Aside0.mk hy107
                              clear hy107
                              have H' := Aside0.mk H
                              clear H
                              obtain ⟨Ao18, co18, eo18⟩ := Kd.R_slice HO_5.out
                              subst eo18
                              have p104 : 0 ≤ (x8_3 : Int) := of_decide_eq_true (by first | (with_reducible assumption) | assumption)
                              have q104 : x8_3 < (x5_3.length : Int) := of_decide_eq_true (by first | (with_reducible assumption) | assumption)
                              obtain ⟨ad104, e104, hx104_0⟩ := Kd.at_int (Kd.R_reads' HO_5.out).2.2 x8_3 p104 q104
                              cases e104
                              replace p104 := eq_true p104
                              replace q104 := eq_true q104
                              have p105 : 0 ≤ ((ji13) : Int) := of_decide_eq_true (by first | (with_reducible assumption) | assumption)
                              have q105 : (ji13) < (x5_3.length : Int) := of_decide_eq_true (by first | (with_reducible assumption) | assumption)
                              obtain ⟨ad105, e105, hx105_0⟩ := Kd.at_int (Kd.R_reads' HO_5.out).2.2 (ji13) p105 q105
                              obtain rfl : ad104 = ad105 := (by injection e105)
                              replace p105 := eq_true p105
                              replace q105 := eq_true q105
                              have p16 : 0 ≤ (x8_3 : Int) := of_decide_eq_true (by first | (with_reducible assumption) | assumption)
                              have q16 : (x8_3 : Int) < ((x5_3.length : Int) : Int) := of_decide_eq_true (by first | (with_reducible assumption) | assumption)
                              obtain ⟨go16, co16, eo16, gb16, gl16, cl16, HG16⟩ := Kd.R_form HO_5.out (by omega)
                              (first | cases eo16 | (injection eo16 with ea_ en_ ec_; (first | subst ea_ | (injection ea_ with ea_; subst ea_)); subst ec_; clear en_))
                              have GB16 := Aside0.mk gb16
                              have GG16 := Aside0.mk HG16
                              clear gb16 gl16 HG16
                              (first | simp only [add_plain] at hx104_0 | skip)
                              (first | simp only [add_plain] at hx105_0 | skip)
                              obtain ⟨hx16_0, hf16_0⟩ := Kd.R_celln 0 HO_5.out (x8_3 : Int) p16 q16
                              replace p16 := eq_true p16
                              replace q16 := eq_true q16
                              have HP19 := Kd.R_putg HO_5.out (x8_3 : Int) (rd x5_3 (ji13))
                              go_wp2_with (first | ((with_reducible refine gate_store (t := 3) (p := 53) rfl ?_); refine store_event (t := 3) (p := 53) (v := ?vo_w20) (w1 := (wr.setCell ⟨go16, (x8_3 : Int).toNat, none⟩ (.int .i64 (rd x5_3 (ji13))))) ?hg ?ho ?hn ?hr ?_; (case ho => rfl); (case hg => rfl); (case hn => rfl); (case hr => first | (go_simp; done) | (go_simp; rfl)); intro w20 hw; have hg : wr.grownBy w20 (some go16) := (by rw [hw]; exact HP19.2); have hp_ : Kd.R (Kd.int .i64) 3 w20 w.heap.size (fun _ => True) (.slice (some ⟨go16, 0, none⟩) x5_3.length co18) y106 := (by rw [hw, Ny106.out]; exact HP19.1); clear HP19; have n0_ := Aside0.mk (hp_); have n1_ := Aside0.mk ((by rw [hw]; exact below_set (HB.out) GB16.out : Below w.heap.size w w20)); clear HO_5; clear HB; have HO_5 := n0_; have HB := n1_; clear n0_ n1_; clear hg hw hp_; have p17 : 0 ≤ ((ji13) : Int) := of_decide_eq_true (by first | (with_reducible assumption) | assumption); have q17 : ((ji13) : Int) < ((x5_3.length : Int) : Int) := of_decide_eq_true (by first | (with_reducible assumption) | assumption); obtain ⟨hx17_0, hf17_0⟩ := Kd.R_celln 0 HO_5.out ((ji13) : Int) p17 q17; replace p17 := eq_true p17; replace q17 := eq_true q17; obtain ⟨hy21_, hz21_⟩ := Kd.R_celln 0 HO_5.out ((ji13) : Int) (of_decide_eq_true (by first | (with_reducible assumption) | assumption)) (of_decide_eq_true (by first | (with_reducible assumption) | assumption)); have HP21 := Kd.R_putg HO_5.out ((ji13) : Int) (rd x5_3 x8_3)) | ((with_reducible refine gate_store (t := 3) (p := 57) rfl ?_); refine store_event (t := 3) (p := 57) (v := ?vo_w22) (w1 := (w20.setCell ⟨go16, ((ji13) : Int).toNat, none⟩ (.int .i64 (rd x5_3 x8_3)))) ?hg ?ho ?hn ?hr ?_; (case ho => rfl); (case hg => rfl); (case hn => rfl); (case hr => first | (go_simp; done) | (go_simp; rfl)); intro w22 hw; have hg : w20.grownBy w22 (some go16) := (by rw [hw]; exact HP21.2); have hp_ : Kd.R (Kd.int .i64) 3 w22 w.heap.size (fun _ => True) (.slice (some ⟨go16, 0, none⟩) x5_3.length co18) y107 := (by rw [hw, Ny107.out]; exact HP21.1); clear HP21; have n0_ := Aside0.mk (hp_); have n1_ := Aside0.mk ((by rw [hw]; exact below_set (HB.out) GB16.out : Below w.heap.size w w22)); clear HO_5; clear HB; have HO_5 := n0_; have HB := n1_; clear n0_ n1_; clear hg hw hp_))
                              go_roundg k3
                              case measure => have := HJ2.out; have := HK2.out; have := HK3.out; omega
                              case rel => exact ⟨(y107), (IntKind.u64.wrap ((IntKind.u64.wrap (x7_3 * 6364136223846793005)) + 1442695040888963407)), (wrap64 (x8_3 - 1)), (by first | rfl | (simp; done) | (simp [*]; done)), (by first | rfl | (simp; done) | (simp [*]; done)), H', ⟨by have := HJ2.out; have := HK2.out; have := HK3.out; omega⟩, ⟨by (with_reducible repeat (first | apply Kd.R_alloc | apply Kd.R_drewN | apply Kd.R_drew)); exact HO_5.out⟩, ⟨by repeat (first | (with_reducible first | exact HB.out | apply below_alloc | apply pw_below_drewN | apply below_drew1) | exact HB.out)⟩⟩
                            · rw [if_neg c15] at H
                              exact absurd H (by simp)
                          · rw [if_neg c14] at H
                            exact absurd H (by simp)
                        · rw [if_neg c12] at H
                          exact absurd H (by simp)
                      · rw [if_neg c11] at H
                        exact absurd H (by simp)
                  · rw [if_neg c9] at H
                    have c9b0 : decide (1 ≤ x8_3) = false := decide_eq_false c9
                    clear c9
                    obtain rfl := Option.some.inj H
                    go_wp2
                    go_ret
                    exact ⟨_, by first | rfl | (simp [errW_none, errW_some] <;> rfl) | (simp [*, errW_none, errW_some] <;> rfl), by (with_reducible repeat (first | apply Kd.R_alloc | apply Kd.R_drewN | apply Kd.R_drew)); exact HO_5.out, by repeat (first | (with_reducible first | exact HB.out | apply below_alloc | apply pw_below_drewN | apply below_drew1) | exact HB.out)⟩

def lcg (s : Int) : Int := IntKind.u64.wrap (IntKind.u64.wrap (s * 6364136223846793005) + 1442695040888963407)
def pick (s m : Int) : Int := wrap64 ((lcg s / 8589934592).tmod m)
theorem lcg_bd (s : Int) : 0 ≤ lcg s ∧ lcg s < 18446744073709551616 := by
  unfold lcg; generalize IntKind.u64.wrap (s * 6364136223846793005) = y; simp only [IntKind.wrap]; simp [IntKind.signed, IntKind.bits]; omega
theorem pick_eq (s m : Int) (h : 1 ≤ m) (h2 : m ≤ 1048576) : pick s m = lcg s / 8589934592 % m := by
  have := lcg_bd s
  unfold pick
  generalize lcg s = y at *
  rw [Int.tmod_eq_emod_of_nonneg (by omega)]
  have := Int.emod_nonneg (y / 8589934592) (show m ≠ 0 by omega)
  have := Int.emod_lt_of_pos (y / 8589934592) (show 0 < m by omega)
  unfold wrap64; omega
theorem pick_bd (s m : Int) (h : 1 ≤ m) (h2 : m ≤ 1048576) : 0 ≤ pick s m ∧ pick s m < m := by
  rw [pick_eq s m h h2]; exact ⟨Int.emod_nonneg _ (by omega), Int.emod_lt_of_pos _ (by omega)⟩

set_option maxRecDepth 100000 in
set_option maxHeartbeats 400000 in
theorem grow_next (m s : Int) (b : Nat) (w : World) (hm0 : 1 ≤ m) (hm : m ≤ 1048576) (_hs0 : 0 ≤ s) (_hs : s < 18446744073709551616)
    (hc : w.cell? ⟨b, 0, none⟩ = some (.int .u64 s)) (hf : w.frozen? ⟨b, 0, none⟩ = false) :
    Calls Try.prog 12 #[.int .i64 m, .pointer (some ⟨b, 0, none⟩)] w fun e w' => e = .returned (.int .i64 (pick s m)) ∧ w' = w.setCell ⟨b, 0, none⟩ (.int .u64 (lcg s)) := by
  go_enter Try.func12, Try.ntmps12
  go_wp2
  go_ret
  exact ⟨rfl, rfl⟩

def swapL (l : List Int) (i k : Nat) : List Int := (l.set i (rd l k)).set k (rd l i)
/-- The row from place i on downwards. -/
def shuf : Nat → Int → List Int → List Int
  | 0, _, l => l
  | i + 1, s, l => shuf i (lcg s) (swapL l (i + 1) (pick s ((i : Int) + 1 + 1)).toNat)
def growRow (n s : Int) : List Int := if n < 0 ∨ n > 1048576 then [] else shuf (n.toNat - 1) s ((List.range n.toNat).map fun (j : Nat) => (j : Int))

theorem fill_done {n : Nat} {xs : List Int} (hl : xs.length = n) (h : ∀ j : Nat, j < n → rd xs (j : Int) = (j : Int)) : xs = (List.range n).map fun (j : Nat) => (j : Int) := by
  apply List.ext_getElem
  · simp [hl]
  · intro j h1 h2
    have := h j (by omega)
    simp [rd, List.getD_eq_getElem?_getD, List.getElem?_eq_getElem h1] at this
    simp [this]
theorem fill_step {n k : Nat} {xs : List Int} (hl : xs.length = n) (hk : k < n) (h : ∀ j : Nat, j < k → rd xs (j : Int) = (j : Int)) : ∀ j : Nat, j < k + 1 → rd (xs.set k (k : Int)) (j : Int) = (j : Int) := by
  intro j hj
  by_cases e : j = k
  · subst e; simp [rd, List.getD_eq_getElem?_getD, hl, hk]
  · have := h j (by omega)
    simp [rd, List.getD_eq_getElem?_getD] at this ⊢
    rw [List.getElem?_set_ne (by omega)]; exact this

/-- The row's block: what is known of the array that the call makes. -/
def RowAt (W : World) (B g cap : Nat) (xs : List Int) : Prop := Kd.R (Kd.int .i64) 3 W B (fun _ => True) (.slice (some ⟨g, 0, none⟩) xs.length cap) xs

theorem opened {W : World} {B m : Nat} {v : Value} (h : Kd.R (Kd.int .i64) 3 W B (fun _ => True) v (List.replicate (m : Int).toNat (0 : Int))) (hm : 1 ≤ m) :
    ∃ (g cap : Nat) (xs : List Int), xs.length = m ∧ v = .slice (some ⟨g, 0, none⟩) m cap ∧ Kd.R (Kd.int .i64) 3 W B (fun _ => True) (.slice (some ⟨g, 0, none⟩) m cap) xs ∧ B ≤ g ∧ g < W.heap.size ∧ True := by
  obtain ⟨g, cap, rfl, h1, h2, _⟩ := Kd.R_form h (by simp; omega)
  have e : (List.replicate (m : Int).toNat (0 : Int)).length = m := by simp
  rw [e] at h
  exact ⟨g, cap, _, e, by rw [e], h, h1, h2, trivial⟩
/-- While the row is filled: w: the world at the call; wr: now. -/
structure FillAt (wr w : World) (m g cap k : Nat) (s : Int) (ys : List Int) : Prop where
  len : ys.length = m
  row : Kd.R (Kd.int .i64) 3 wr w.heap.size (fun _ => True) (.slice (some ⟨g, 0, none⟩) m cap) ys
  le : w.heap.size + 1 ≤ g
  bel : Below w.heap.size w wr
  box : wr.heap[w.heap.size]? = some (.cells #[.int .u64 s] 22 (0, 0))
  val : ∀ j : Nat, j < k → rd ys (j : Int) = (j : Int)
theorem FillAt.start {w w1 : World} {m g cap : Nat} {s : Int} {xs : List Int} (hR : Kd.R (Kd.int .i64) 3 w1 (w.alloc (.cells #[.int .u64 s] 22)).heap.size (fun _ => True) (.slice (some ⟨g, 0, none⟩) m cap) xs)
    (hg : (w.alloc (.cells #[.int .u64 s] 22)).heap.size ≤ g) (_hS : g < w1.heap.size) (hl : xs.length = m) (hb : Below (w.alloc (.cells #[.int .u64 s] 22)).heap.size (w.alloc (.cells #[.int .u64 s] 22)) w1) : FillAt w1 w m g cap 0 s xs where
  len := hl
  row := Kd.R_lower hR (by simp)
  le := by simpa using hg
  bel := ((Below.refl w.heap.size w).alloc (Nat.le_refl _) _).trans (hb.mono (by simp))
  box := by rw [hb.block w.heap.size (by simp)]; simpa using heap_alloc_new w (.cells #[.int .u64 s] 22)
  val := fun j hj => by omega
theorem FillAt.cell {wr w : World} {m g cap k : Nat} {s : Int} {ys : List Int} (h : FillAt wr w m g cap k s ys) (hk : k < m) : wr.cell? ⟨g, k, none⟩ = some (.int .i64 (ys[k]?.getD 0)) ∧ wr.frozen? ⟨g, k, none⟩ = false := by
  have := Kd.R_celln (0 : Int) h.row (k : Int) (by omega) (by omega)
  simpa [rdOf, List.getD_eq_getElem?_getD] using this
theorem FillAt.step {wr w : World} {m g cap k : Nat} {s : Int} {ys : List Int} (h : FillAt wr w m g cap k s ys) (hk : k < m) : FillAt (wr.setCell ⟨g, k, none⟩ (.int .i64 k)) w m g cap (k + 1) s (ys.set k k) where
  len := by simp [h.len]
  row := by have := Kd.R_putn h.row (k : Int) (k : Int); rw [Int.toNat_natCast] at this; exact this
  le := h.le
  bel := h.bel.setCell (by show w.heap.size ≤ g; have := h.le; omega) _
  box := by rw [Below.heap_setCell _ _ _ _ (by show w.heap.size ≠ g; have := h.le; omega)]; exact h.box
  val := fill_step h.len hk h.val

structure ShufAt (wr w : World) (m g cap : Nat) (sd : Int) (zs : List Int) (rest : Prop) : Prop where
  len : zs.length = m
  row : Kd.R (Kd.int .i64) 3 wr w.heap.size (fun _ => True) (.slice (some ⟨g, 0, none⟩) m cap) zs
  le : w.heap.size + 1 ≤ g
  bel : Below w.heap.size w wr
  box : wr.heap[w.heap.size]? = some (.cells #[.int .u64 sd] 22 (0, 0))
  s0 : 0 ≤ sd
  s1 : sd < 18446744073709551616
  rest : rest
theorem ShufAt.start {wr w : World} {m g cap : Nat} {s : Int} {ys : List Int} (h : FillAt wr w m g cap m s ys) (hm : 1 ≤ m ∧ m ≤ 1048576) (h0 : 0 ≤ s) (h1 : s < 18446744073709551616) : ShufAt wr w m g cap s ys (shuf (m - 1) s ys = growRow m s) :=
  ⟨h.len, h.row, h.le, h.bel, h.box, h0, h1, by unfold growRow; rw [if_neg (by omega), fill_done h.len h.val]; simp⟩
theorem ShufAt.drew {wr w : World} {m g cap : Nat} {sd : Int} {zs : List Int} {P : Prop} (h : ShufAt wr w m g cap sd zs P) : ShufAt wr.drew w m g cap sd zs P :=
  ⟨h.len, Kd.R_drew h.row, h.le, h.bel.drew, h.box, h.s0, h.s1, h.rest⟩
theorem ShufAt.boxc {wr w : World} {m g cap : Nat} {sd : Int} {zs : List Int} {P : Prop} (h : ShufAt wr w m g cap sd zs P) : wr.cell? ⟨w.heap.size, 0, none⟩ = some (.int .u64 sd) := (blk_cell h.box 0).trans rfl
theorem ShufAt.boxf {wr w : World} {m g cap : Nat} {sd : Int} {zs : List Int} {P : Prop} (h : ShufAt wr w m g cap sd zs P) : wr.frozen? ⟨w.heap.size, 0, none⟩ = false := blk_frozen h.box 0

theorem ShufAt.cell {wr w : World} {m g cap : Nat} {sd : Int} {zs : List Int} {P : Prop} (h : ShufAt wr w m g cap sd zs P) {j : Nat} (hj : j < m) : wr.cell? ⟨g, j, none⟩ = some (.int .i64 (zs[j]?.getD 0)) ∧ wr.frozen? ⟨g, j, none⟩ = false := by
  have := Kd.R_celln (0 : Int) h.row (j : Int) (by omega) (by omega)
  simpa [rdOf, List.getD_eq_getElem?_getD] using this
theorem ShufAt.row' {wr w : World} {m g cap : Nat} {sd : Int} {zs : List Int} {P : Prop} (h : ShufAt wr w m g cap sd zs P) : Kd.R (Kd.int .i64) 3 wr w.heap.size (fun _ => True) (.slice (some ⟨g, 0, none⟩) m cap) zs := h.row
theorem ShufAt.next {wr w : World} {k g cap j p : Nat} {sd : Int} {zs fin : List Int} (h : ShufAt wr w k g cap sd zs (shuf j sd zs = fin)) (hp : pick sd ((j : Int) + 1) = p) (hj : 0 < j) :
    ∃ w1, wr.setCell ⟨w.heap.size, 0, none⟩ (.int .u64 (lcg sd)) = w1 ∧ ShufAt w1 w k g cap (lcg sd) zs (shuf (j - 1) (lcg sd) (swapL zs j p) = fin) := by
  have := lcg_bd sd
  refine ⟨_, rfl, h.len, Kd.R_set h.row' h.box (by decide) 0 _, h.le, h.bel.setCell (Nat.le_refl _) _, by simpa using blk_set h.box 0 (.int .u64 (lcg sd)), by omega, by omega, ?_⟩
  obtain ⟨i, rfl⟩ : ∃ i, j = i + 1 := ⟨j - 1, by omega⟩
  have := h.rest
  simp only [shuf] at this
  rw [← this, show pick sd ((i : Int) + 1 + 1) = (p : Int) from by rw [← hp]; congr 1]
  rfl
theorem ShufAt.swapped {w1 w : World} {k g cap j p : Nat} {sd : Int} {zs : List Int} {P : Prop} (h : ShufAt w1 w k g cap sd zs P) (_hj : j < k) (_hp : p < k) (_hj0 : 0 < j) :
    ShufAt ((w1.setCell ⟨g, j, none⟩ (.int .i64 (zs[p]?.getD 0))).setCell ⟨g, p, none⟩ (.int .i64 (zs[j]?.getD 0))) w k g cap sd (swapL zs j p) P where
  len := by simp [swapL, h.len]
  row := by
    have a := Kd.R_putn h.row (j : Int) (zs[p]?.getD 0)
    have b := Kd.R_putn a (p : Int) (zs[j]?.getD 0)
    rw [Int.toNat_natCast, Int.toNat_natCast] at b
    simp only [swapL, rd, List.getD_eq_getElem?_getD, Int.toNat_natCast]
    exact b
  le := h.le
  bel := (h.bel.setCell (show w.heap.size ≤ g by have := h.le; omega) _).setCell (show w.heap.size ≤ g by have := h.le; omega) _
  box := by
    rw [Below.heap_setCell _ _ _ _ (by show w.heap.size ≠ g; have := h.le; omega), Below.heap_setCell _ _ _ _ (by show w.heap.size ≠ g; have := h.le; omega)]; exact h.box
  s0 := h.s0
  s1 := h.s1
  rest := h.rest
set_option maxRecDepth 100000 in
set_option maxHeartbeats 1000000 in
theorem grow_any (n s : Int) (w : World) (hn : 1 ≤ n) (hn2 : n ≤ 1048576) (hs0 : 0 ≤ s) (hs : s < 18446744073709551616) :
    Calls Try.prog 6 #[.int .i64 n, .int .u64 s] w fun e w' => ∃ v : Value, e = .returned v ∧ Kd.R (Kd.int .i64) 3 w' w.heap.size (fun _ => True) v (growRow n s) ∧ Below w.heap.size w w' := by
  have hmf : ∀ (fn : Fn) (first cap : Array Value) (w : World), (Instr.makeFunc fn first cap).run Try.prog w = .ok (.func fn first cap) w := fun _ _ _ _ => rfl
  obtain ⟨m, rfl⟩ := Int.eq_ofNat_of_zero_le (show 0 ≤ n by omega)
  have hb0 : decide ((m : Int) < 0) = false := by simp
  have hb1 : decide (1048576 < (m : Int)) = false := by simp; omega
  go_enter Try.func6, Try.ntmps6
  have hl8 : (m : Int).toNat * 8 ≤ 281474976710656 := by omega
  go_wp2_with ((with_reducible refine gate_dst (N := 17) rfl ?_); refine Kd.R_make (Kd.int .i64) _ 3 rfl (N := 17) rfl 23 _ _ rfl (m : Int) rfl rfl Try.underlying23 (.int .i64 0) 8 info3 rfl (by decide) (by omega) (0 : Int) (ok := fun _ => True) (okp := fun _ => True) rfl (fun _ hk => hk) trivial (by omega) hl8 (Below.refl _ _) (Nat.le_refl _) ?_; intro v1 w1 ho1 hb1' hg1 hnew1; clear hg1 hnew1; obtain ⟨g, cap, xs, hxl, rfl, hR, hgB, hS, hFr⟩ := opened ho1 (by omega); clear ho1; have hXL := Lib.hid hxl; clear hxl)
  go_loopw [6, 20] (fun _ i wr => ∃ (k : Nat) (ys : List Int), k ≤ m ∧ i = .int .i64 k ∧ FillAt wr w m g cap k s ys) (fun _ i _ => m - (intOf i).toNat)
  case atStart => exact ⟨0, xs, Nat.zero_le _, rfl, FillAt.start hR hgB hS hXL.out hb1'⟩
  case round =>
    obtain ⟨k, ys, hk, rfl, HF⟩ := hrel
    by_cases hlt : k < m
    · obtain ⟨hc, hf⟩ := HF.cell hlt
      go_wp2
      go_roundw
      case rel => exact ⟨k + 1, ys.set k k, by omega, by go_num, HF.step hlt⟩
      case measure => simp [intOf]; omega
    · obtain rfl : k = m := by omega
      obtain ⟨wo, rfl⟩ : ∃ wo : World, wo = wr := ⟨_, rfl⟩
      have HS := ShufAt.start HF (by omega) hs0 hs
      clear HF hR hgB hS hFr hb1' hXL
      go_wp2_with fail
      go_loopw [8, 9] (fun i _ wr => ∃ (j : Nat) (sd : Int) (zs : List Int), j < k ∧ i = .int .i64 j ∧ ShufAt wr w k g cap sd zs (shuf j sd zs = growRow k s)) (fun i _ _ => (intOf i).toNat)
      case atStart => exact ⟨k - 1, s, _, by omega, by go_num, HS⟩
      case round =>
        obtain ⟨j, sd, zs, hj, rfl, HT⟩ := hrel
        by_cases hj0 : 0 < j
        · obtain ⟨hp0, hp1⟩ := pick_bd sd ((j : Int) + 1) (by omega) (by omega)
          obtain ⟨p, hp⟩ := Int.eq_ofNat_of_zero_le hp0
          have hpj : p ≤ j := by omega
          go_wp2_with (go_at_call 12; refine (grow_next ((j : Int) + 1) sd w.heap.size _ (by omega) (by omega) HT.s0 HT.s1 HT.boxc HT.boxf).mono ?_; rintro e w1 ⟨rfl, rfl⟩)
          obtain ⟨w1, hw1, HU⟩ := HT.next hp (by omega)
          rw [hw1]
          clear hw1 HT hp
          obtain ⟨cj, fj⟩ := HU.cell (show j < k by omega)
          obtain ⟨cp, fp⟩ := HU.cell (show p < k by omega)
          obtain ⟨v', hv'⟩ := cell?_setCell_some (w := w1) (p := ⟨g, j, none⟩) (x := .int .i64 (zs[p]?.getD 0)) cp
          go_region
          all_goals
            go_wp2
            go_roundw
            case rel => exact ⟨j - 1, lcg sd, _, by omega, by go_num, (HU.swapped (by omega) (by omega) (by omega)).drew⟩
            case measure => simp [intOf]; omega
        · obtain rfl : j = 0 := by omega
          go_wp2
          go_ret
          exact ⟨_, rfl, by rw [← HT.rest]; exact HT.row', HT.bel⟩

set_option maxRecDepth 100000 in
theorem grow_none (n s : Int) (w : World) (hn : n < 0 ∨ 1048576 < n) : Calls Try.prog 6 #[.int .i64 n, .int .u64 s] w fun e w' => e = .returned (.slice none 0 0) ∧ Below w.heap.size w w' := by
  by_cases h0 : n < 0
  · go_enter Try.func6, Try.ntmps6
    go_wp2
    go_ret
    exact ⟨rfl, (Below.refl _ _).alloc (Nat.le_refl _) _⟩
  · have h1 : 1048576 < n := by omega
    go_enter Try.func6, Try.ntmps6
    go_wp2
    go_ret
    exact ⟨rfl, (Below.refl _ _).alloc (Nat.le_refl _) _⟩

set_option maxRecDepth 100000 in
set_option maxHeartbeats 1000000 in
theorem grow_zero (s : Int) (w : World) :
    Calls Try.prog 6 #[.int .i64 0, .int .u64 s] w fun e w' => ∃ v : Value, e = .returned v ∧ Kd.R (Kd.int .i64) 3 w' w.heap.size (fun _ => True) v [] ∧ Below w.heap.size w w' := by
  have hmf : ∀ (fn : Fn) (first cap : Array Value) (w : World), (Instr.makeFunc fn first cap).run Try.prog w = .ok (.func fn first cap) w := fun _ _ _ _ => rfl
  go_enter Try.func6, Try.ntmps6
  go_wp2_with ((with_reducible refine gate_dst (N := 17) rfl ?_); refine Kd.R_make (Kd.int .i64) _ 3 rfl (N := 17) rfl 23 _ _ rfl (0 : Int) rfl rfl Try.underlying23 (.int .i64 0) 8 info3 rfl (by decide) (by omega) (0 : Int) (ok := fun _ => True) (okp := fun _ => True) rfl (fun _ hk => hk) trivial (by omega) (by decide) (Below.refl _ _) (Nat.le_refl _) ?_; intro v1 w1 ho1 hb1' hg1 hnew1; clear hg1 hnew1; obtain ⟨A, c, rfl⟩ := Kd.R_slice ho1; have HO := Lib.hid ho1; have HB := Lib.hid hb1'; clear ho1 hb1')
  refine wp_loop_rounds 1 ?_
  rw [rounds_succ]
  go_wp2
  refine wp_loop_rounds 1 ?_
  rw [rounds_succ]
  go_wp2
  go_ret
  exact ⟨_, rfl, Kd.R_lower HO.out (by simp), ((Below.refl w.heap.size w).alloc (Nat.le_refl _) _).trans (HB.out.mono (by simp))⟩

/-- A seed is a word of 64 bits. -/
def grow_Order.f (a0 a1 : Int) : Option (List Int) := if 0 ≤ a1 then if a1 < 18446744073709551616 then some (growRow a0 a1) else none else none
theorem grow_Order.calls (a0 a1 : Int) (r : List Int) (w : World) (h : grow_Order.f a0 a1 = some r) :
    Calls Try.prog 6 #[.int .i64 a0, .int .u64 a1] w fun e w' => ∃ v0_ : Value, e = .returned (v0_) ∧ Kd.R (Kd.int .i64) 3 w' w.heap.size (fun _ => True) v0_ r ∧ Below w.heap.size w w' := by
  unfold grow_Order.f at h
  by_cases h0 : 0 ≤ a1
  · rw [if_pos h0] at h
    by_cases h1 : a1 < 18446744073709551616
    · rw [if_pos h1] at h
      injection h with h
      subst h
      by_cases hn : a0 < 0 ∨ 1048576 < a0
      · refine (grow_none a0 a1 w hn).mono ?_
        rintro e w' ⟨rfl, hb⟩
        refine ⟨_, rfl, ?_, hb⟩
        unfold growRow
        rw [if_pos (by omega)]
        exact Kd.R_nil _ _ _ _ _
      · by_cases hz : a0 = 0
        · subst hz
          exact grow_zero a1 w
        · exact grow_any a0 a1 w (by omega) (by omega) h0 h1
    · rw [if_neg h1] at h; cases h
  · rw [if_neg h0] at h; cases h


/-! ### trivetref07_Ints: function 7 -/
def trivetref07_Ints.l0 : Nat → List Int → List Int → Int → Option (Bool)
  | 0, _, _, _ => none
  | k + 1, x0, x1, x5 => if x5 < (x0.length : Int) then (if 0 ≤ x5 then (if x5 < (x1.length : Int) then (if (rd x0 x5) = (rd x1 x5) then (trivetref07_Ints.l0 k x0 x1 (wrap64 (x5 + 1))) else (some false)) else (none)) else (none)) else (some true)
def trivetref07_Ints.f (k : Nat) (l0 : List Int) (l1 : List Int) : Option (Bool) := if (l0.length : Int) = (l1.length : Int) then (trivetref07_Ints.l0 k l0 l1 0) else (some false)
theorem trivetref07_Ints.mono_l : ∀ k, (∀ y0 y1 y2, LeO (trivetref07_Ints.l0 k y0 y1 y2) (trivetref07_Ints.l0 (k + 1) y0 y1 y2))
  | 0 => fun _ _ _ r h => by simp [trivetref07_Ints.l0] at h
  | k + 1 => by
    have ih0 := trivetref07_Ints.mono_l k
    · intro y0 y1 y2
      unfold trivetref07_Ints.l0
      repeat' first
      | (with_reducible exact ih0 _ _ _)
      | (with_reducible exact LeO.refl _)
      | (with_reducible exact LeO.none _)
      | (with_reducible refine LeO.ite ?_ ?_)
      | (with_reducible refine LeO.bind ?_ (fun _ => ?_))
      | exact ih0 _ _ _
      | exact LeO.none _
      | refine LeO.ite ?_ ?_
      | refine LeO.bind ?_ (fun _ => ?_)
theorem trivetref07_Ints.mono : ∀ a0 a1 k, LeO (trivetref07_Ints.f k a0 a1) (trivetref07_Ints.f (k + 1) a0 a1) := by
  intro a0 a1 k
  have ih0 := trivetref07_Ints.mono_l k
  unfold trivetref07_Ints.f
  repeat' first
      | (with_reducible exact ih0 _ _ _)
      | (with_reducible exact LeO.refl _)
      | (with_reducible exact LeO.none _)
      | (with_reducible refine LeO.ite ?_ ?_)
      | (with_reducible refine LeO.bind ?_ (fun _ => ?_))
      | exact ih0 _ _ _
      | exact LeO.none _
      | refine LeO.ite ?_ ?_
      | refine LeO.bind ?_ (fun _ => ?_)
set_option maxHeartbeats 8000000 in
set_option maxRecDepth 100000 in
theorem trivetref07_Ints.calls (k : Nat) (A0 : Option Addr) (c0 : Nat) (l0 : List Int) (A1 : Option Addr) (c1 : Nat) (l1 : List Int) (r : Bool) (w : World) (hr0 : Kd.C (Kd.int .i64) w A0 l0.length l0) (hc0 : l0.length ≤ c0) (hr1 : Kd.C (Kd.int .i64) w A1 l1.length l1) (hc1 : l1.length ≤ c1) (h : trivetref07_Ints.f k l0 l1 = some r) :
    Calls Try.prog 7 #[.slice A0 l0.length c0, .slice A1 l1.length c1] w fun e w' => e = .returned (.bool r) ∧ Drawn0 w w' := by
  have HR0 := Aside0.mk hr0
  have HC0 := Aside0.mk hc0
  clear hr0 hc0
  have HR1 := Aside0.mk hr1
  have HC1 := Aside0.mk hc1
  clear hr1 hc1
  have H : (if (l0.length : Int) = (l1.length : Int) then (trivetref07_Ints.l0 k l0 l1 0) else (some false)) = some r := h
  clear h
  by_cases c3 : (l0.length : Int) = (l1.length : Int)
  · rw [if_pos c3] at H
    have c3b0 : ((l0.length : Int) == (l1.length : Int)) = true := beq_iff_eq.mpr c3
    have c3b1 : ((l0.length : Int) != (l1.length : Int)) = false := bne_eq_false_iff_eq.mpr c3
    have c3b2 : (l0.length == l1.length) = true := by first | simpa using c3 | (simp at c3 ⊢; omega)
    clear c3
    have H' := Aside0.mk H
    clear H
    go_enter Try.func7, Try.ntmps7
    go_wp2
    repeat (go_quiet (fail); try go_wp2)
    go_loopg [5] k (fun kq v5 w' => ∃ (x5_1 : Int), v5 = .int .i64 x5_1 ∧ Aside0 (trivetref07_Ints.l0 kq l0 l1 x5_1 = some r) ∧ Aside0 (kq ≤ k) ∧ Drawn0 w w')
    case atStart => exact ⟨(0), (by first | rfl | (simp; done) | (simp [*]; done)), H', ⟨Nat.le_refl _⟩, by repeat (first | exact Drawn0.refl _ | apply Drawn0.step)⟩
    case round =>
      clear H'
      try clear c1
      try clear p2
      try clear c3
      try clear c3b0
      try clear c3b1
      try clear c3b2
      obtain ⟨x5_1, rfl, HA, HK1, ⟨m1, rfl⟩⟩ := hrel
      cases gk with
      | zero => exact absurd HA.out (by simp [trivetref07_Ints.l0])
      | succ k1 =>
        have H := HA.out
        clear HA
        simp only [trivetref07_Ints.l0] at H
        by_cases c4 : x5_1 < (l0.length : Int)
        · rw [if_pos c4] at H
          have c4b0 : decide (x5_1 < (l0.length : Int)) = true := decide_eq_true c4
          clear c4
          by_cases c5 : 0 ≤ x5_1
          · rw [if_pos c5] at H
            have c5b0 : decide (0 ≤ x5_1) = true := decide_eq_true c5
            clear c5
            by_cases c6 : x5_1 < (l1.length : Int)
            · rw [if_pos c6] at H
              have c6b0 : decide (x5_1 < (l1.length : Int)) = true := decide_eq_true c6
              clear c6
              by_cases c7 : (rd l0 x5_1) = (rd l1 x5_1)
              · rw [if_pos c7] at H
                have c7b0 : ((rd l0 x5_1) == (rd l1 x5_1)) = true := beq_iff_eq.mpr c7
                have c7b1 : ((rd l0 x5_1) != (rd l1 x5_1)) = false := bne_eq_false_iff_eq.mpr c7
                clear c7
                have H' := Aside0.mk H
                clear H
                have p108 : 0 ≤ (x5_1 : Int) := of_decide_eq_true (by first | (with_reducible assumption) | assumption)
                have q108 : x5_1 < (l0.length : Int) := of_decide_eq_true (by first | (with_reducible assumption) | assumption)
                obtain ⟨ad108, e108, hx108_0⟩ := Kd.at_int HR0.out x5_1 p108 q108
                cases e108
                replace p108 := eq_true p108
                replace q108 := eq_true q108
                have p109 : 0 ≤ (x5_1 : Int) := of_decide_eq_true (by first | (with_reducible assumption) | assumption)
                have q109 : x5_1 < (l1.length : Int) := of_decide_eq_true (by first | (with_reducible assumption) | assumption)
                obtain ⟨ad109, e109, hx109_0⟩ := Kd.at_int HR1.out x5_1 p109 q109
                cases e109
                replace p109 := eq_true p109
                replace q109 := eq_true q109
                go_wp2
                repeat (go_quiet (fail); try go_wp2)
                go_roundg k1
                case measure => have := HK1.out; omega
                case rel => exact ⟨(wrap64 (x5_1 + 1)), (by first | rfl | (simp; done) | (simp [*]; done)), H', ⟨by have := HK1.out; omega⟩, by repeat (first | exact Drawn0.refl _ | apply Drawn0.step)⟩
              · rw [if_neg c7] at H
                have c7b0 : ((rd l0 x5_1) == (rd l1 x5_1)) = false := beq_eq_false_iff_ne.mpr c7
                have c7b1 : ((rd l0 x5_1) != (rd l1 x5_1)) = true := bne_iff_ne.mpr c7
                obtain rfl := Option.some.inj H
                have p108 : 0 ≤ (x5_1 : Int) := of_decide_eq_true (by first | (with_reducible assumption) | assumption)
                have q108 : x5_1 < (l0.length : Int) := of_decide_eq_true (by first | (with_reducible assumption) | assumption)
                obtain ⟨ad108, e108, hx108_0⟩ := Kd.at_int HR0.out x5_1 p108 q108
                cases e108
                replace p108 := eq_true p108
                replace q108 := eq_true q108
                have p109 : 0 ≤ (x5_1 : Int) := of_decide_eq_true (by first | (with_reducible assumption) | assumption)
                have q109 : x5_1 < (l1.length : Int) := of_decide_eq_true (by first | (with_reducible assumption) | assumption)
                obtain ⟨ad109, e109, hx109_0⟩ := Kd.at_int HR1.out x5_1 p109 q109
                cases e109
                replace p109 := eq_true p109
                replace q109 := eq_true q109
                go_wp2
                repeat (go_quiet (fail); try go_wp2)
                go_ret
                exact ⟨by first | rfl | (simp; done) | (simp [*]; done), by repeat (first | exact Drawn0.refl _ | apply Drawn0.step)⟩
            · rw [if_neg c6] at H
              exact absurd H (by simp)
          · rw [if_neg c5] at H
            exact absurd H (by simp)
        · rw [if_neg c4] at H
          have c4b0 : decide (x5_1 < (l0.length : Int)) = false := decide_eq_false c4
          clear c4
          obtain rfl := Option.some.inj H
          go_wp2
          repeat (go_quiet (fail); try go_wp2)
          go_ret
          exact ⟨by first | rfl | (simp; done) | (simp [*]; done), by repeat (first | exact Drawn0.refl _ | apply Drawn0.step)⟩
  · rw [if_neg c3] at H
    have c3b0 : ((l0.length : Int) == (l1.length : Int)) = false := beq_eq_false_iff_ne.mpr c3
    have c3b1 : ((l0.length : Int) != (l1.length : Int)) = true := bne_iff_ne.mpr c3
    have c3b2 : (l0.length == l1.length) = false := by first | simpa using c3 | (simp at c3 ⊢; omega)
    obtain rfl := Option.some.inj H
    go_enter Try.func7, Try.ntmps7
    go_wp2
    repeat (go_quiet (fail); try go_wp2)
    go_ret
    exact ⟨by first | rfl | (simp; done) | (simp [*]; done), by repeat (first | exact Drawn0.refl _ | apply Drawn0.step)⟩

end Go.Proofs.Ythcklcfdeejkpaa.PG
