/- Lemmas of E3. Conditions stand in each. -/
import Derived.Test.YtaoichlepfiliaaGreatDoorQXE0
import Derived.Test.YtaoichlepfiliaaGreatDoorQXE1
import Derived.Test.YtaoichlepfiliaaGreatDoorQXE2
import Derived.Test.YtaoichlepfiliaaGreatDoorQXR6
set_option linter.unusedSimpArgs false
set_option linter.unusedVariables false
namespace Go.Proofs.YtaoichlepfiliaaGreatDoor.E
open Go.Proofs.YtaoichlepfiliaaGreatDoor.R
open Go.RowKit Go.Proofs.YtaoichlepfiliaaGreatDoorW.PrintWords Go.Proofs.YtaoichlepfiliaaGreatDoorW.PrintLast
def orient_may.l0 : Nat → List (S71) → Int → Int → Option (Bool)
 | 0, _, _, _ => none
 | k + 1, x5, x6, x7 => if x7 < x6 then (if 0 ≤ x7 then (if x7 < (x5.length : Int) then ((orient_coordinate.f ((rd_T71 x5 x7).f0)).bind fun t164 => (if t164 = true then ((orient_coordinate.f ((rd_T71 x5 x7).f1)).bind fun t165 => (if t165 = true then (orient_may.l0 k x5 x6 (wrap64 (x7 + 1))) else (some false))) else (some false))) else (none)) else (none)) else (some true)
def orient_may.f (k : Nat) (l0 : List (S71)) : Option (Bool) := orient_may.l0 k l0 (l0.length : Int) 0
set_option maxHeartbeats 8000000 in
set_option maxRecDepth 100000 in
theorem orient_may.calls (k : Nat) (A0 : Option Addr) (c0 : Nat) (l0 : List (S71)) (r : Bool) (w : World) (hr0 : Kd.C k71 w A0 l0.length l0) (hc0 : l0.length ≤ c0) (h : orient_may.f k l0 = some r) :
 Calls Tryz.prog 95 #[.slice A0 l0.length c0] w fun e w' => e = .returned (.bool r) ∧ Below w.heap.size w w' := by
 have hu71 := Tryz.underlying71
 have HR0 := Aside0.mk hr0
 have HC0 := Aside0.mk hc0
 clear hr0 hc0
 have HB := Aside0.mk (Below.refl w.heap.size w)
 have H : (orient_may.l0 k l0 (l0.length : Int) 0) = some r := h
 clear h
 have H' := Aside0.mk H
 clear H
 go_enter Tryz.func95, Tryz.ntmps95
 go_wp2
 go_loopg [7] k (fun kq v7 w' => ∃ (x7_1 : Int), v7 = .int .i64 x7_1 ∧ Aside0 (orient_may.l0 kq l0 (l0.length : Int) x7_1 = some r) ∧ Aside0 (kq ≤ k) ∧ Aside0 (Below w.heap.size w w'))
 case atStart => exact ⟨(0), (by first | rfl | (simp; done) | (simp [*]; done)), H', ⟨Nat.le_refl _⟩, ⟨by repeat (first | (with_reducible first | exact HB.out | apply below_alloc | apply pw_below_drewN | apply below_drew1) | exact HB.out)⟩⟩
 case round =>
  clear H'
  obtain ⟨x7_1, rfl, HA, HK1, HB⟩ := hrel
  cases gk with
  | zero => exact absurd HA.out (by simp [orient_may.l0])
  | succ k1 =>
   have H := HA.out
   clear HA
   simp only [orient_may.l0] at H
   by_cases c2 : x7_1 < (l0.length : Int)
   ·rw [if_pos c2] at H
    have c2b0 : decide (x7_1 < (l0.length : Int)) = true := decide_eq_true c2
    clear c2
    by_cases c3 : 0 ≤ x7_1
    ·rw [if_pos c3] at H
     have c3b0 : decide (0 ≤ x7_1) = true := decide_eq_true c3
     clear c3
     by_cases c4 : x7_1 < (l0.length : Int)
     ·rw [if_pos c4] at H
      have c4b0 : decide (x7_1 < (l0.length : Int)) = true := decide_eq_true c4
      clear c4
      replace H := Option.bind_eq_some_iff.mp H
      obtain ⟨t164, A50, H⟩ := H
      replace H : (if t164 = true then ((orient_coordinate.f ((rd_T71 l0 x7_1).f1)).bind fun t165 => (if t165 = true then (orient_may.l0 k1 l0 (l0.length : Int) (wrap64 (x7_1 + 1))) else (some false))) else (some false)) = some r := H
      have A5 := Aside0.mk A50
      clear A50
      by_cases c6 : t164 = true
      ·subst c6
       have H1 : ((orient_coordinate.f ((rd_T71 l0 x7_1).f1)).bind fun t165 => (if t165 = true then (orient_may.l0 k1 l0 (l0.length : Int) (wrap64 (x7_1 + 1))) else (some false))) = some r := by rw [if_pos rfl] at H; exact H
       clear H
       have H := H1
       clear H1
       replace H := Option.bind_eq_some_iff.mp H
       obtain ⟨t165, A70, H⟩ := H
       replace H : (if t165 = true then (orient_may.l0 k1 l0 (l0.length : Int) (wrap64 (x7_1 + 1))) else (some false)) = some r := H
       have A7 := Aside0.mk A70
       clear A70
       by_cases c8 : t165 = true
       ·subst c8
        have H1 : (orient_may.l0 k1 l0 (l0.length : Int) (wrap64 (x7_1 + 1))) = some r := by rw [if_pos rfl] at H; exact H
        clear H
        have H := H1
        clear H1
        have H' := Aside0.mk H
        clear H
        have p162 : 0 ≤ (x7_1 : Int) := of_decide_eq_true (by first | (with_reducible assumption) | assumption)
        have q162 : x7_1 < (l0.length : Int) := of_decide_eq_true (by first | (with_reducible assumption) | assumption)
        obtain ⟨ad162, e162, hx162_0, hx162_1⟩ := at_T71 HR0.out x7_1 p162 q162
        cases e162
        replace hx162_0 := (HB.out.cell (World.block_lt_of_cell? w _ hx162_0)).trans hx162_0
        replace hx162_1 := (HB.out.cell (World.block_lt_of_cell? w _ hx162_1)).trans hx162_1
        replace p162 := eq_true p162
        replace q162 := eq_true q162
        go_wp2_with (first | ((with_reducible refine gate_dst (N := 4) rfl ?_); refine box_event ?hg (N := 4) ?hd (cs := #[.float .f64 0, .float .f64 0]) (t := 71) ?hr ?_; (case hd => rfl); (case hg => rfl); (case hr => first | (go_simp; done) | (go_simp; rfl)); intro gb163 hg w9 hbox hb; have n0_ := Aside0.mk (below_step (by repeat (first | (with_reducible first | exact HB.out | apply below_alloc | apply pw_below_drewN | apply below_drew1) | exact HB.out)) hb); have n1_ := Aside0.mk (hbox); have n2_ := Aside0.mk ((by rw [hg]; exact (below_size (by repeat (first | (with_reducible first | exact HB.out | apply below_alloc | apply pw_below_drewN | apply below_drew1) | exact HB.out))) : w.heap.size ≤ gb163)); have n3_ := Aside0.mk ((by rw [hg]; exact (below_size (by repeat (first | (with_reducible first | exact HB.out | apply below_alloc | apply pw_below_drewN | apply below_drew1) | exact HB.out))) : w.heap.size ≤ gb163)); clear HB; have HB := n0_; have BK163 := n1_; have GW163 := n2_; have GE163 := n3_; clear n0_ n1_ n2_ n3_; clear hb hbox hg; have hcz10_0 : w9.cell? ⟨gb163, 0, none⟩ = some (.float .f64 0) := (blk_cell BK163.out 0).trans rfl; have hcz10_1 : w9.cell? ⟨gb163, 1, none⟩ = some (.float .f64 0) := (blk_cell BK163.out 1).trans rfl; have hfz10_0 := blk_frozen BK163.out 0; have hfz10_1 := blk_frozen BK163.out 1) | ((with_reducible refine gate_callee (f := 116) rfl ?_); refine goesL_ (some 13) rfl rfl Tryz.func116 (by kernel_rfl) rfl #[.float .f64 ((rd_T71 l0 x7_1).f0)] rfl (by (try simp only [List.map_toArray, List.map_cons, List.map_nil]); first | done | rfl | (simp only [List.length_drop, List.length_take]; rfl)) ?_; (with_reducible refine (orient_coordinate.calls ((rd_T71 l0 x7_1).f0) true _ A5.out).mono ?_); rintro e w' ⟨rfl, ⟨nd, rfl⟩⟩; refine ⟨_, rfl, ?_⟩) | (go_at_call 116; (with_reducible refine (orient_coordinate.calls ((rd_T71 l0 x7_1).f1) true _ A7.out).mono ?_); rintro e w' ⟨rfl, ⟨nd, rfl⟩⟩))
        go_roundg k1
        case measure => have := HK1.out; omega
        case rel => exact ⟨(wrap64 (x7_1 + 1)), (by first | rfl | (simp; done) | (simp [*]; done)), H', ⟨by have := HK1.out; omega⟩, ⟨by repeat (first | (with_reducible first | exact HB.out | apply below_alloc | apply pw_below_drewN | apply below_drew1 | refine below_set ?_ GE163.out) | exact HB.out)⟩⟩
       ·replace c8 := Bool.eq_false_iff.mpr c8
        subst c8
        have H1 : (some false) = some r := by rw [if_neg (show ¬ (false = true) by decide)] at H; exact H
        clear H
        have H := H1
        clear H1
        obtain rfl := Option.some.inj H
        have p162 : 0 ≤ (x7_1 : Int) := of_decide_eq_true (by first | (with_reducible assumption) | assumption)
        have q162 : x7_1 < (l0.length : Int) := of_decide_eq_true (by first | (with_reducible assumption) | assumption)
        obtain ⟨ad162, e162, hx162_0, hx162_1⟩ := at_T71 HR0.out x7_1 p162 q162
        cases e162
        replace hx162_0 := (HB.out.cell (World.block_lt_of_cell? w _ hx162_0)).trans hx162_0
        replace hx162_1 := (HB.out.cell (World.block_lt_of_cell? w _ hx162_1)).trans hx162_1
        replace p162 := eq_true p162
        replace q162 := eq_true q162
        go_wp2_with (first | ((with_reducible refine gate_dst (N := 4) rfl ?_); refine box_event ?hg (N := 4) ?hd (cs := #[.float .f64 0, .float .f64 0]) (t := 71) ?hr ?_; (case hd => rfl); (case hg => rfl); (case hr => first | (go_simp; done) | (go_simp; rfl)); intro gb163 hg w11 hbox hb; have n0_ := Aside0.mk (below_step (by repeat (first | (with_reducible first | exact HB.out | apply below_alloc | apply pw_below_drewN | apply below_drew1) | exact HB.out)) hb); have n1_ := Aside0.mk (hbox); have n2_ := Aside0.mk ((by rw [hg]; exact (below_size (by repeat (first | (with_reducible first | exact HB.out | apply below_alloc | apply pw_below_drewN | apply below_drew1) | exact HB.out))) : w.heap.size ≤ gb163)); have n3_ := Aside0.mk ((by rw [hg]; exact (below_size (by repeat (first | (with_reducible first | exact HB.out | apply below_alloc | apply pw_below_drewN | apply below_drew1) | exact HB.out))) : w.heap.size ≤ gb163)); clear HB; have HB := n0_; have BK163 := n1_; have GW163 := n2_; have GE163 := n3_; clear n0_ n1_ n2_ n3_; clear hb hbox hg; have hcz12_0 : w11.cell? ⟨gb163, 0, none⟩ = some (.float .f64 0) := (blk_cell BK163.out 0).trans rfl; have hcz12_1 : w11.cell? ⟨gb163, 1, none⟩ = some (.float .f64 0) := (blk_cell BK163.out 1).trans rfl; have hfz12_0 := blk_frozen BK163.out 0; have hfz12_1 := blk_frozen BK163.out 1) | ((with_reducible refine gate_callee (f := 116) rfl ?_); refine goesL_ (some 13) rfl rfl Tryz.func116 (by kernel_rfl) rfl #[.float .f64 ((rd_T71 l0 x7_1).f0)] rfl (by (try simp only [List.map_toArray, List.map_cons, List.map_nil]); first | done | rfl | (simp only [List.length_drop, List.length_take]; rfl)) ?_; (with_reducible refine (orient_coordinate.calls ((rd_T71 l0 x7_1).f0) true _ A5.out).mono ?_); rintro e w' ⟨rfl, ⟨nd, rfl⟩⟩; refine ⟨_, rfl, ?_⟩) | (go_at_call 116; (with_reducible refine (orient_coordinate.calls ((rd_T71 l0 x7_1).f1) false _ A7.out).mono ?_); rintro e w' ⟨rfl, ⟨nd, rfl⟩⟩))
        go_ret
        exact ⟨by first | rfl | (simp [errW_none, errW_some] <;> rfl) | (simp [*, errW_none, errW_some] <;> rfl), by repeat (first | (with_reducible first | exact HB.out | apply below_alloc | apply pw_below_drewN | apply below_drew1 | refine below_set ?_ GE163.out) | exact HB.out)⟩
      ·replace c6 := Bool.eq_false_iff.mpr c6
       subst c6
       have H1 : (some false) = some r := by rw [if_neg (show ¬ (false = true) by decide)] at H; exact H
       clear H
       have H := H1
       clear H1
       obtain rfl := Option.some.inj H
       have p162 : 0 ≤ (x7_1 : Int) := of_decide_eq_true (by first | (with_reducible assumption) | assumption)
       have q162 : x7_1 < (l0.length : Int) := of_decide_eq_true (by first | (with_reducible assumption) | assumption)
       obtain ⟨ad162, e162, hx162_0, hx162_1⟩ := at_T71 HR0.out x7_1 p162 q162
       cases e162
       replace hx162_0 := (HB.out.cell (World.block_lt_of_cell? w _ hx162_0)).trans hx162_0
       replace hx162_1 := (HB.out.cell (World.block_lt_of_cell? w _ hx162_1)).trans hx162_1
       replace p162 := eq_true p162
       replace q162 := eq_true q162
       go_wp2_with (first | ((with_reducible refine gate_dst (N := 4) rfl ?_); refine box_event ?hg (N := 4) ?hd (cs := #[.float .f64 0, .float .f64 0]) (t := 71) ?hr ?_; (case hd => rfl); (case hg => rfl); (case hr => first | (go_simp; done) | (go_simp; rfl)); intro gb163 hg w13 hbox hb; have n0_ := Aside0.mk (below_step (by repeat (first | (with_reducible first | exact HB.out | apply below_alloc | apply pw_below_drewN | apply below_drew1) | exact HB.out)) hb); have n1_ := Aside0.mk (hbox); have n2_ := Aside0.mk ((by rw [hg]; exact (below_size (by repeat (first | (with_reducible first | exact HB.out | apply below_alloc | apply pw_below_drewN | apply below_drew1) | exact HB.out))) : w.heap.size ≤ gb163)); have n3_ := Aside0.mk ((by rw [hg]; exact (below_size (by repeat (first | (with_reducible first | exact HB.out | apply below_alloc | apply pw_below_drewN | apply below_drew1) | exact HB.out))) : w.heap.size ≤ gb163)); clear HB; have HB := n0_; have BK163 := n1_; have GW163 := n2_; have GE163 := n3_; clear n0_ n1_ n2_ n3_; clear hb hbox hg; have hcz14_0 : w13.cell? ⟨gb163, 0, none⟩ = some (.float .f64 0) := (blk_cell BK163.out 0).trans rfl; have hcz14_1 : w13.cell? ⟨gb163, 1, none⟩ = some (.float .f64 0) := (blk_cell BK163.out 1).trans rfl; have hfz14_0 := blk_frozen BK163.out 0; have hfz14_1 := blk_frozen BK163.out 1) | ((with_reducible refine gate_callee (f := 116) rfl ?_); refine goesL_ (some 13) rfl rfl Tryz.func116 (by kernel_rfl) rfl #[.float .f64 ((rd_T71 l0 x7_1).f0)] rfl (by (try simp only [List.map_toArray, List.map_cons, List.map_nil]); first | done | rfl | (simp only [List.length_drop, List.length_take]; rfl)) ?_; (with_reducible refine (orient_coordinate.calls ((rd_T71 l0 x7_1).f0) false _ A5.out).mono ?_); rintro e w' ⟨rfl, ⟨nd, rfl⟩⟩; refine ⟨_, rfl, ?_⟩))
       go_ret
       exact ⟨by first | rfl | (simp [errW_none, errW_some] <;> rfl) | (simp [*, errW_none, errW_some] <;> rfl), by repeat (first | (with_reducible first | exact HB.out | apply below_alloc | apply pw_below_drewN | apply below_drew1 | refine below_set ?_ GE163.out) | exact HB.out)⟩
     ·rw [if_neg c4] at H
      exact absurd H (by simp)
    ·rw [if_neg c3] at H
     exact absurd H (by simp)
   ·rw [if_neg c2] at H
    have c2b0 : decide (x7_1 < (l0.length : Int)) = false := decide_eq_false c2
    clear c2
    obtain rfl := Option.some.inj H
    go_wp2
    go_ret
    exact ⟨by first | rfl | (simp [errW_none, errW_some] <;> rfl) | (simp [*, errW_none, errW_some] <;> rfl), by repeat (first | (with_reducible first | exact HB.out | apply below_alloc | apply pw_below_drewN | apply below_drew1) | exact HB.out)⟩
def orient_Fast.f (k : Nat) (a0_0 : Nat) (a0_1 : Nat) (a1_0 : Nat) (a1_1 : Nat) (a2_0 : Nat) (a2_1 : Nat) : Option (Int × Bool) := (orient_may.f k (([(⟨a0_0, a0_1⟩ : S71), (⟨a1_0, a1_1⟩ : S71), (⟨a2_0, a2_1⟩ : S71)] : List (S71)))).bind fun t172 => (if t172 = true then ((floatBits .sub .f64 a1_0 a0_0).bind fun t173 => ((floatBits .sub .f64 a2_1 a0_1).bind fun t174 => ((floatBits .mul .f64 t173 t174).bind fun t175 => ((floatBits .sub .f64 a1_1 a0_1).bind fun t176 => ((floatBits .sub .f64 a2_0 a0_0).bind fun t177 => ((floatBits .mul .f64 t176 t177).bind fun t178 => ((floatBits .sub .f64 t175 t178).bind fun t179 => ((math_Abs.f t175).bind fun t180 => ((math_Abs.f t178).bind fun t181 => ((floatBits .add .f64 t180 t181).bind fun t182 => ((floatBits .mul .f64 4382002437431492608 t182).bind fun t183 => ((math_Abs.f t179).bind fun t184 => (if (FloatKind.f64.format.order t184 t183 == some .gt) = true then ((orient_sign.f t179).bind fun t185 => (some (t185, true))) else (some (0, false))))))))))))))) else (some (0, false)))
theorem lit_three {w : World} {B t : Nat} (a b c d e f : Nat) (h : w.heap[B]? = some (.cells #[.float .f64 a, .float .f64 b, .float .f64 c, .float .f64 d, .float .f64 e, .float .f64 f] t (0, 0))) : Kd.C k71 w (some ⟨B, 0, none⟩) 3 [(⟨a, b⟩ : S71), ⟨c, d⟩, ⟨e, f⟩] := by
 refine ⟨rfl, by decide, fun _ => ⟨_, rfl, fun j p hj => ?_⟩⟩
 refine ⟨[.float .f64 p.f0, .float .f64 p.f1], rfl, ⟨[.float .f64 p.f0], [.float .f64 p.f1], rfl, rfl, rfl⟩, fun i u hi => ?_⟩
 have hs : k71.sz = 2 := rfl
 rw [hs, Addr.add_lit]
 match j, hj with
 | 0, hj => simp at hj; subst hj; match i, hi with
  | 0, hi => exact (blk_cell h _).trans hi
  | 1, hi => exact (blk_cell h _).trans hi
  | i + 2, hi => simp at hi
 | 1, hj => simp at hj; subst hj; match i, hi with
  | 0, hi => exact (blk_cell h _).trans hi
  | 1, hi => exact (blk_cell h _).trans hi
  | i + 2, hi => simp at hi
 | 2, hj => simp at hj; subst hj; match i, hi with
  | 0, hi => exact (blk_cell h _).trans hi
  | 1, hi => exact (blk_cell h _).trans hi
  | i + 2, hi => simp at hi
 | j + 3, hj => simp at hj
theorem box3 (w : World) (a b c d e f : Nat) : ∃ W1, W1 = ((w.alloc (.cells #[.float .f64 a, .float .f64 b] 71)).alloc (.cells #[.float .f64 c, .float .f64 d] 71)).alloc (.cells #[.float .f64 e, .float .f64 f] 71) ∧ Below w.heap.size w W1 ∧ W1.heap[w.heap.size]? = some (.cells #[.float .f64 a, .float .f64 b] 71 (0, 0)) ∧ W1.heap[w.heap.size + 1]? = some (.cells #[.float .f64 c, .float .f64 d] 71 (0, 0)) ∧ W1.heap[w.heap.size + 1 + 1]? = some (.cells #[.float .f64 e, .float .f64 f] 71 (0, 0)) := by
 refine ⟨_, rfl, below_alloc (below_alloc (below_alloc (Below.refl _ _) _) _) _, blk_alloc (blk_alloc (blk_new _ _) _) _, blk_alloc ?_ _, ?_⟩
 ·have := blk_new (w.alloc (.cells #[.float .f64 a, .float .f64 b] 71)) (.cells #[.float .f64 c, .float .f64 d] 71)
  simpa using this
 ·have := blk_new ((w.alloc (.cells #[.float .f64 a, .float .f64 b] 71)).alloc (.cells #[.float .f64 c, .float .f64 d] 71)) (.cells #[.float .f64 e, .float .f64 f] 71)
  simpa using this
structure Box3 (w W : World) (a b c d e f : Nat) : Prop where
 bel : Below w.heap.size w W
 a0 : W.cell? ⟨w.heap.size, 0, none⟩ = some (.float .f64 a)
 a1 : W.cell? ⟨w.heap.size, 1, none⟩ = some (.float .f64 b)
 b0 : W.cell? ⟨w.heap.size + 1, 0, none⟩ = some (.float .f64 c)
 b1 : W.cell? ⟨w.heap.size + 1, 1, none⟩ = some (.float .f64 d)
 c0 : W.cell? ⟨w.heap.size + 1 + 1, 0, none⟩ = some (.float .f64 e)
 c1 : W.cell? ⟨w.heap.size + 1 + 1, 1, none⟩ = some (.float .f64 f)
theorem Box3.below {w W W' : World} {a b c d e f : Nat} (h : Box3 w W a b c d e f) (hb : Below W.heap.size W W') : Box3 w W' a b c d e f := by
 have hc : ∀ {p : Addr} {v : Value}, W.cell? p = some v → W'.cell? p = some v := fun h => (hb.cell (World.block_lt_of_cell? W _ h)).trans h
 exact ⟨h.bel.trans (hb.mono h.bel.size), hc h.a0, hc h.a1, hc h.b0, hc h.b1, hc h.c0, hc h.c1⟩
theorem Box3.start (w : World) (a b c d e f : Nat) : ∃ W1, W1 = ((w.alloc (.cells #[.float .f64 a, .float .f64 b] 71)).alloc (.cells #[.float .f64 c, .float .f64 d] 71)).alloc (.cells #[.float .f64 e, .float .f64 f] 71) ∧ Box3 w W1 a b c d e f := by
 obtain ⟨W1, h, hb, x, y, z⟩ := box3 w a b c d e f
 exact ⟨W1, h, hb, blk_cell x 0, blk_cell x 1, blk_cell y 0, blk_cell y 1, blk_cell z 0, blk_cell z 1⟩
theorem may_three {k : Nat} {a b c d e f : Nat} {m : Bool} (h : orient_may.f k [(⟨a, b⟩ : S71), ⟨c, d⟩, ⟨e, f⟩] = some m) (W : World) : Calls Tryz.prog 95 #[.slice (some ⟨W.heap.size, 0, none⟩) 3 3] (W.alloc (.cells #[.float .f64 a, .float .f64 b, .float .f64 c, .float .f64 d, .float .f64 e, .float .f64 f] 71)) fun r w' => r = .returned (.bool m) ∧ Below W.heap.size W w' := by
 have hb : Below W.heap.size W (W.alloc (.cells #[.float .f64 a, .float .f64 b, .float .f64 c, .float .f64 d, .float .f64 e, .float .f64 f] 71)) := below_alloc (Below.refl _ _) _
 exact (orient_may.calls k (some ⟨W.heap.size, 0, none⟩) 3 [(⟨a, b⟩ : S71), ⟨c, d⟩, ⟨e, f⟩] m _ (lit_three a b c d e f (blk_new _ _)) (Nat.le_refl _) h).mono fun r w' ⟨he, hb'⟩ => ⟨he, hb.trans (hb'.mono hb.size)⟩
set_option maxRecDepth 100000 in
set_option maxHeartbeats 8000000 in
theorem orient_Fast.calls (k : Nat) (a0_0 : Nat) (a0_1 : Nat) (a1_0 : Nat) (a1_1 : Nat) (a2_0 : Nat) (a2_1 : Nat) (r1 : Int) (r2 : Bool) (w : World) (h : orient_Fast.f k a0_0 a0_1 a1_0 a1_1 a2_0 a2_1 = some (r1, r2)) :
 Calls Tryz.prog 94 #[.agg #[.float .f64 a0_0, .float .f64 a0_1], .agg #[.float .f64 a1_0, .float .f64 a1_1], .agg #[.float .f64 a2_0, .float .f64 a2_1]] w fun e w' => e = .returned (.tuple #[.int .i64 r1, .bool r2]) ∧ Below w.heap.size w w' := by
 obtain ⟨W1, hW1, HX⟩ := Box3.start w a0_0 a0_1 a1_0 a1_1 a2_0 a2_1
 obtain ⟨m, hm, h⟩ := Option.bind_eq_some_iff.mp h
 have hmy := fun W => may_three hm W
 have h0 := HX.a0
 have h1 := HX.a1
 have h2 := HX.b0
 have h3 := HX.b1
 have h4 := HX.c0
 have h5 := HX.c1
 have HB := Aside0.mk HX
 clear HX hm
 cases m with
 | false =>
  rw [if_neg (by decide)] at h
  injection h with h
  injection h with e1 e2
  subst e1 e2
  go_enter Tryz.func94, Tryz.ntmps94
  go_upto_region 1 with (fail)
  rw [← hW1]
  clear hW1
  go_wp2_with (go_at_call 95; (with_reducible refine (hmy _).mono ?_); rintro e w' ⟨rfl, hb⟩)
  go_ret2
  exact ⟨rfl, HB.out.bel.trans (hb.mono HB.out.bel.size)⟩
 | true =>
  rw [if_pos rfl] at h
  obtain ⟨t1, f1, h⟩ := Option.bind_eq_some_iff.mp h
  obtain ⟨t2, f2, h⟩ := Option.bind_eq_some_iff.mp h
  obtain ⟨t3, f3, h⟩ := Option.bind_eq_some_iff.mp h
  obtain ⟨t4, f4, h⟩ := Option.bind_eq_some_iff.mp h
  obtain ⟨t5, f5, h⟩ := Option.bind_eq_some_iff.mp h
  obtain ⟨t6, f6, h⟩ := Option.bind_eq_some_iff.mp h
  obtain ⟨t7, f7, h⟩ := Option.bind_eq_some_iff.mp h
  obtain ⟨t8, f8, h⟩ := Option.bind_eq_some_iff.mp h
  obtain ⟨t9, f9, h⟩ := Option.bind_eq_some_iff.mp h
  obtain ⟨u1, g1, h⟩ := Option.bind_eq_some_iff.mp h
  obtain ⟨u2, g2, h⟩ := Option.bind_eq_some_iff.mp h
  obtain ⟨u3, g3, h⟩ := Option.bind_eq_some_iff.mp h
  have a8 := fun W => math_Abs.calls t3 t8 W f8
  have a9 := fun W => math_Abs.calls t6 t9 W f9
  have a3 := fun W => math_Abs.calls t7 u3 W g3
  have k1 := fun w_ => run_float_arith (P := Tryz.prog) w_ .sub 69 .f64 _ _ _ f1
  have k2 := fun w_ => run_float_arith (P := Tryz.prog) w_ .sub 69 .f64 _ _ _ f2
  have k3 := fun w_ => run_float_arith (P := Tryz.prog) w_ .mul 69 .f64 _ _ _ f3
  have k4 := fun w_ => run_float_arith (P := Tryz.prog) w_ .sub 69 .f64 _ _ _ f4
  have k5 := fun w_ => run_float_arith (P := Tryz.prog) w_ .sub 69 .f64 _ _ _ f5
  have k6 := fun w_ => run_float_arith (P := Tryz.prog) w_ .mul 69 .f64 _ _ _ f6
  have k7 := fun w_ => run_float_arith (P := Tryz.prog) w_ .sub 69 .f64 _ _ _ f7
  have k8 := fun w_ => run_float_arith (P := Tryz.prog) w_ .add 69 .f64 _ _ _ g1
  have k9 := fun w_ => run_float_arith (P := Tryz.prog) w_ .mul 69 .f64 _ _ _ g2
  clear f1 f2 f3 f4 f5 f6 f7 g1 g2
  clear f8 f9 g3
  by_cases c : (FloatKind.f64.format.order u3 u2 == some .gt) = true
  ·rw [if_pos c] at h
   obtain ⟨s, hs, h⟩ := Option.bind_eq_some_iff.mp h
   injection h with h
   injection h with e1 e2
   subst e1 e2
   have hsg := fun W => orient_sign.calls t7 s W hs
   clear hs
   go_enter Tryz.func94, Tryz.ntmps94
   go_upto_region 1 with (fail)
   rw [← hW1]
   clear hW1
   go_upto_region 3 with (go_at_call 95; (with_reducible refine (hmy _).mono ?_); rintro e w' ⟨rfl, hb⟩)
   replace HB := Aside0.mk (HB.out.below hb)
   replace h0 := HB.out.a0
   replace h1 := HB.out.a1
   replace h2 := HB.out.b0
   replace h3 := HB.out.b1
   replace h4 := HB.out.c0
   replace h5 := HB.out.c1
   clear hb
   go_wp2_with (first
    | (go_at_call 114; (with_reducible first | refine (a8 _).mono ?_ | refine (a9 _).mono ?_ | refine (a3 _).mono ?_); rintro e w' ⟨rfl, ⟨nd, rfl⟩⟩)
    | (go_at_call 115; (with_reducible refine (hsg _).mono ?_); rintro e w' ⟨rfl, ⟨nd, rfl⟩⟩))
   go_ret2
   exact ⟨rfl, by repeat (first | exact HB.out.bel | apply pw_below_drewN)⟩
  ·have c' : (FloatKind.f64.format.order u3 u2 == some .gt) = false := by simpa using c
   rw [if_neg c] at h
   injection h with h
   injection h with e1 e2
   subst e1 e2
   clear c
   go_enter Tryz.func94, Tryz.ntmps94
   go_upto_region 1 with (fail)
   rw [← hW1]
   clear hW1
   go_upto_region 3 with (go_at_call 95; (with_reducible refine (hmy _).mono ?_); rintro e w' ⟨rfl, hb⟩)
   replace HB := Aside0.mk (HB.out.below hb)
   replace h0 := HB.out.a0
   replace h1 := HB.out.a1
   replace h2 := HB.out.b0
   replace h3 := HB.out.b1
   replace h4 := HB.out.c0
   replace h5 := HB.out.c1
   clear hb
   go_wp2_with (go_at_call 114; (with_reducible first | refine (a8 _).mono ?_ | refine (a9 _).mono ?_ | refine (a3 _).mono ?_); rintro e w' ⟨rfl, ⟨nd, rfl⟩⟩)
   go_ret2
   exact ⟨rfl, by repeat (first | exact HB.out.bel | apply pw_below_drewN)⟩
def orient_exactly_1.l0 : Nat → List Nat → List Nat → Int → Int → Option (List Nat)
 | 0, _, _, _, _ => none
 | k + 1, x7, x18, x19, x20 => if x20 < x19 then (if 0 ≤ x20 then (if x20 < (x18.length : Int) then (if (FloatKind.f64.format.order (rdOf (0 : Nat) x18 x20) 0 != some .eq) = true then (if x7.length < 17592186044416 then (orient_exactly_1.l0 k (x7 ++ [rdOf (0 : Nat) x18 x20]) x18 x19 (wrap64 (x20 + 1))) else (none)) else (orient_exactly_1.l0 k x7 x18 x19 (wrap64 (x20 + 1)))) else (none)) else (none)) else (some x7)
def orient_exactly_1.f (k : Nat) (a0 : Nat) (a1 : Nat) : Option (List Nat) := (eft_Diff.f a0 a1).bind fun bt186 => ((some (([bt186.2, bt186.1] : List Nat) : List Nat)).bind fun y188 => (orient_exactly_1.l0 k ([] : List Nat) y188 (y188.length : Int) 0))
set_option maxHeartbeats 8000000 in
set_option maxRecDepth 100000 in
theorem orient_exactly_1.calls (k : Nat) (a0 : Nat) (a1 : Nat) (r : List Nat) (w : World) (h : orient_exactly_1.f k a0 a1 = some r) :
 Calls Tryz.prog 117 #[.float .f64 a0, .float .f64 a1] w fun e w' => ∃ v0_ : Value, e = .returned (v0_) ∧ Kd.R Kd.f64 69 w' w.heap.size (fun _ => True) v0_ r ∧ Below w.heap.size w w' := by
 have HB := Aside0.mk (Below.refl w.heap.size w)
 have H : ((eft_Diff.f a0 a1).bind fun bt186 => ((some (([bt186.2, bt186.1] : List Nat) : List Nat)).bind fun y188 => (orient_exactly_1.l0 k ([] : List Nat) y188 (y188.length : Int) 0))) = some r := h
 clear h
 replace H := Option.bind_eq_some_iff.mp H
 obtain ⟨⟨t186, t187⟩, A30, H⟩ := H
 replace H : ((some (([t187, t186] : List Nat) : List Nat)).bind fun y188 => (orient_exactly_1.l0 k ([] : List Nat) y188 (y188.length : Int) 0)) = some r := H
 have A3 := Aside0.mk A30
 clear A30
 obtain ⟨y188, hy188⟩ : ∃ y_ : List Nat, y_ = (([t187, t186] : List Nat)) := ⟨_, rfl⟩
 replace H : (orient_exactly_1.l0 k ([] : List Nat) y188 (y188.length : Int) 0) = some r := by first | (rw [hy188]; with_reducible exact H) | (have H2_ := (Option.bind_some _ _).symm.trans H; rw [hy188]; with_reducible exact H2_) | (have H2_ := (Option.bind_some _ _).symm.trans H; with_reducible exact H2_) | with_reducible exact H | (rw [hy188]; exact H) | exact H
 have Ny188 := Aside0.mk hy188
 clear hy188
 have H' := Aside0.mk H
 clear H
 go_enter Tryz.func117, Tryz.ntmps117
 go_wp2_with (first | ((with_reducible refine gate_callee (f := 118) rfl ?_); refine goesL_ (some 13) rfl rfl Tryz.func118 (by kernel_rfl) rfl #[.float .f64 a0, .float .f64 a1] rfl (by (try simp only [List.map_toArray, List.map_cons, List.map_nil]); first | done | rfl | (simp only [List.length_drop, List.length_take]; rfl)) ?_; (with_reducible refine (eft_Diff.calls a0 a1 t186 t187 _ A3.out).mono ?_); rintro e w4 ⟨rfl, hb⟩; refine ⟨_, rfl, ?_⟩; have n0_ := Aside0.mk (below_step (by repeat (first | (with_reducible first | exact HB.out | apply below_alloc | apply pw_below_drewN | apply below_drew1) | exact HB.out)) hb); clear HB; have HB := n0_; clear n0_; (try clear hb); (try clear hb2); (try clear hk); (try clear hi)) | ((with_reducible refine gate_dst (N := 18) rfl ?_); refine Kd.R_lit Kd.f64 _ 69 ?hg (N := 18) ?hd (xs := ([t187, t186] : List Nat)) (inner := [.float .f64 t187, .float .f64 t186]) (ok := fun _ => True) (okp := fun _ => True) ?hr ?hp (fun _ hk => hk) trivial (Below.refl _ _) (Nat.le_refl _) (by simp) ?_; (case hd => rfl); (case hg => rfl); (case hr => first | (go_simp; done) | (go_simp; rfl)); (case hp => exact (Reps.one (show Kd.M Kd.f64 _ _ _ t187 [.float .f64 t187] from rfl) (Reps.one (show Kd.M Kd.f64 _ _ _ t186 [.float .f64 t186] from rfl) (Reps.none _ _)))); intro v189 w5 ho6 hb hg_ hnew_; clear hg_ hnew_; (first | rw [← Ny188.out] at ho6 | (simp only [Int.reduceToNat] at ho6; rw [← Ny188.out] at ho6)); have n0_ := Aside0.mk (Kd.R_lower ho6 (below_size (by repeat (first | (with_reducible first | exact HB.out | apply below_alloc | apply pw_below_drewN | apply below_drew1) | exact HB.out)))); have n1_ := Aside0.mk (below_step (by repeat (first | (with_reducible first | exact HB.out | apply below_alloc | apply pw_below_drewN | apply below_drew1) | exact HB.out)) hb); clear HB; have HO190 := n0_; have HB := n1_; clear n0_ n1_; clear hb ho6; obtain ⟨Ao7, co7, eo7⟩ := Kd.R_slice HO190.out; subst eo7))
 go_loopg [7, 20] k (fun kq v7 v20 w' => ∃ (x7_1 : List Nat) (x20_1 : Int), v20 = .int .i64 x20_1 ∧ Aside0 (orient_exactly_1.l0 kq x7_1 y188 (y188.length : Int) x20_1 = some r) ∧ Aside0 (kq ≤ k) ∧ Aside0 (Kd.R Kd.f64 69 w' w.heap.size (fun k_ => some k_ ≠ ((.slice Ao7 y188.length co7) : Value).ownBlock) v7 x7_1) ∧ Aside0 (Kd.R Kd.f64 69 w' w.heap.size (fun k_ => some k_ ≠ (v7 : Value).ownBlock) (.slice Ao7 y188.length co7) y188) ∧ Aside0 (Below w.heap.size w w'))
 case atStart => exact ⟨(([] : List Nat)), (0), (by first | rfl | (simp; done) | (simp [*]; done)), H', ⟨Nat.le_refl _⟩, ⟨by first | exact Kd.R_nil _ _ _ _ _ | exact Kd.N_nil _ _ _ _ _ | exact Kd.V_nil _ _ _ _ _ | exact Kd.Q_nil _ _ _ _ _ | exact Kd.S_nil _ _ _ _ _⟩, ⟨by (with_reducible repeat (first | apply Kd.R_alloc | apply Kd.R_drewN | apply Kd.R_drew)); exact Kd.R_mono HO190.out (fun _ hk => (by simp [Value.ownBlock]))⟩, ⟨by repeat (first | (with_reducible first | exact HB.out | apply below_alloc | apply pw_below_drewN | apply below_drew1) | exact HB.out)⟩⟩
 case round =>
  clear H'
  try clear c1
  try clear p2
  obtain ⟨x7_1, x20_1, rfl, HA, HK1, HO_7, HO_18, HB⟩ := hrel
  cases gk with
  | zero => exact absurd HA.out (by simp [orient_exactly_1.l0])
  | succ k1 =>
   have H := HA.out
   clear HA
   simp only [orient_exactly_1.l0] at H
   by_cases c8 : x20_1 < (y188.length : Int)
   ·rw [if_pos c8] at H
    have c8b0 : decide (x20_1 < (y188.length : Int)) = true := decide_eq_true c8
    clear c8
    by_cases c9 : 0 ≤ x20_1
    ·rw [if_pos c9] at H
     have c9b0 : decide (0 ≤ x20_1) = true := decide_eq_true c9
     clear c9
     by_cases c10 : x20_1 < (y188.length : Int)
     ·rw [if_pos c10] at H
      have c10b0 : decide (x20_1 < (y188.length : Int)) = true := decide_eq_true c10
      clear c10
      by_cases c11 : (FloatKind.f64.format.order (rdOf (0 : Nat) y188 x20_1) 0 != some .eq) = true
      ·rw [if_pos c11] at H
       have c11b0 : (FloatKind.f64.format.order (rdOf (0 : Nat) y188 x20_1) 0 != some .eq) = true := c11
       (try (have c11b1 : decide (FloatKind.f64.format.order (rdOf (0 : Nat) y188 x20_1) 0 = some .eq) = false := by simpa using c11))
       (try (have c11b2 : (FloatKind.f64.format.order (rdOf (0 : Nat) y188 x20_1) 0 == some .eq) = false := by simpa using c11))
       (try (have c11b3 : ¬ (FloatKind.f64.format.order (rdOf (0 : Nat) y188 x20_1) 0 = some .eq) := by simpa using c11))
       clear c11
       by_cases c12 : x7_1.length < 17592186044416
       ·rw [if_pos c12] at H
        have LMc12 := Aside0.mk c12
        clear c12
        obtain ⟨y192, hy192⟩ : ∃ y_ : List Nat, y_ = (x7_1 ++ [rdOf (0 : Nat) y188 x20_1]) := ⟨_, rfl⟩
        replace H : (orient_exactly_1.l0 k1 y192 y188 (y188.length : Int) (wrap64 (x20_1 + 1))) = some r := by first | (rw [hy192]; with_reducible exact H) | (have H2_ := (Option.bind_some _ _).symm.trans H; rw [hy192]; with_reducible exact H2_) | (have H2_ := (Option.bind_some _ _).symm.trans H; with_reducible exact H2_) | with_reducible exact H | (rw [hy192]; exact H) | exact H
        have Ny192 := Aside0.mk hy192
        clear hy192
        have H' := Aside0.mk H
        clear H
        have p191 : 0 ≤ (x20_1 : Int) := of_decide_eq_true (by first | (with_reducible assumption) | assumption)
        have q191 : x20_1 < (y188.length : Int) := of_decide_eq_true (by first | (with_reducible assumption) | assumption)
        obtain ⟨ad191, e191, hx191_0⟩ := Kd.at_f64 (Kd.R_reads' HO_18.out).2.2 x20_1 p191 q191
        cases e191
        replace p191 := eq_true p191
        replace q191 := eq_true q191
        go_wp2_with (first | ((with_reducible refine gate_builtin (b := .append) (xs := #[.tmp 26, .tmp 28]) rfl ?_); at_builtin; refine Kd.R_append Kd.f64 (w0 := w) w.heap.size rfl (.tmp 26) (.tmp 28) 150 69 (.float .f64 0) 8 rfl Tryz.underlying150 info69 rfl (by decide) (by omega) u7 x7_1 (rdOf (0 : Nat) y188 x20_1) [.float .f64 (rdOf (0 : Nat) y188 x20_1)] (fun k_ => some k_ ≠ (.slice (some ad191) y188.length co7 : Value).ownBlock) (fun _ => False) rfl rfl ?aP (fun _ hk => hk.elim) ?aF ?aO ?aB ?aS ?aL ?_; (case aP => exact rfl); (case aB => exact (by repeat (first | (with_reducible first | exact HB.out | apply below_alloc | apply pw_below_drewN | apply below_drew1) | exact HB.out))); (case aF => exact (fun k_ hk => Kd.fresh' (Kd.R_lt (by (with_reducible repeat (first | apply Kd.R_alloc | apply Kd.R_drewN | apply Kd.R_drew)); exact HO_18.out)) k_ hk)); (case aO => exact (by (with_reducible repeat (first | apply Kd.R_alloc | apply Kd.R_drewN | apply Kd.R_drew)); exact HO_7.out)); (case aS => exact (below_size (by repeat (first | (with_reducible first | exact HB.out | apply below_alloc | apply pw_below_drewN | apply below_drew1) | exact HB.out)))); (case aL => have := LMc12.out; omega); intro v193 w13 ho hb hg hat; rw [← Ny192.out] at ho; have n0_ := Aside0.mk (Kd.R_after (ok := (fun _ => True)) (by (with_reducible repeat (first | apply Kd.R_alloc | apply Kd.R_drewN | apply Kd.R_drew)); exact Kd.R_mono HO_18.out (fun _ hk => ⟨trivial, hk⟩)) hg hat); have n1_ := Aside0.mk (hb); have n2_ := Aside0.mk (ho); clear HO_18; clear HB; clear HO_7; have HO_18 := n0_; have HB := n1_; have HO194 := n2_; clear n0_ n1_ n2_; clear ho hb hg hat))
        go_roundg k1
        case measure => have := HK1.out; omega
        case rel => exact ⟨(y192), (wrap64 (x20_1 + 1)), (by first | rfl | (simp; done) | (simp [*]; done)), H', ⟨by have := HK1.out; omega⟩, ⟨by (with_reducible repeat (first | apply Kd.R_alloc | apply Kd.R_drewN | apply Kd.R_drew)); exact HO194.out⟩, ⟨by (with_reducible repeat (first | apply Kd.R_alloc | apply Kd.R_drewN | apply Kd.R_drew)); exact Kd.R_mono HO_18.out (fun _ hk => hk.2)⟩, ⟨by repeat (first | (with_reducible first | exact HB.out | apply below_alloc | apply pw_below_drewN | apply below_drew1) | exact HB.out)⟩⟩
       ·rw [if_neg c12] at H
        exact absurd H (by simp)
      ·rw [if_neg c11] at H
       have c11b0 : (FloatKind.f64.format.order (rdOf (0 : Nat) y188 x20_1) 0 != some .eq) = false := by simpa using c11
       (try (have c11b1 : decide (FloatKind.f64.format.order (rdOf (0 : Nat) y188 x20_1) 0 = some .eq) = true := by simpa using c11))
       (try (have c11b2 : (FloatKind.f64.format.order (rdOf (0 : Nat) y188 x20_1) 0 == some .eq) = true := by simpa using c11))
       clear c11
       have H' := Aside0.mk H
       clear H
       have p191 : 0 ≤ (x20_1 : Int) := of_decide_eq_true (by first | (with_reducible assumption) | assumption)
       have q191 : x20_1 < (y188.length : Int) := of_decide_eq_true (by first | (with_reducible assumption) | assumption)
       obtain ⟨ad191, e191, hx191_0⟩ := Kd.at_f64 (Kd.R_reads' HO_18.out).2.2 x20_1 p191 q191
       cases e191
       replace p191 := eq_true p191
       replace q191 := eq_true q191
       go_wp2
       go_roundg k1
       case measure => have := HK1.out; omega
       case rel => exact ⟨(x7_1), (wrap64 (x20_1 + 1)), (by first | rfl | (simp; done) | (simp [*]; done)), H', ⟨by have := HK1.out; omega⟩, ⟨by (with_reducible repeat (first | apply Kd.R_alloc | apply Kd.R_drewN | apply Kd.R_drew)); exact HO_7.out⟩, ⟨by (with_reducible repeat (first | apply Kd.R_alloc | apply Kd.R_drewN | apply Kd.R_drew)); exact HO_18.out⟩, ⟨by repeat (first | (with_reducible first | exact HB.out | apply below_alloc | apply pw_below_drewN | apply below_drew1) | exact HB.out)⟩⟩
     ·rw [if_neg c10] at H
      exact absurd H (by simp)
    ·rw [if_neg c9] at H
     exact absurd H (by simp)
   ·rw [if_neg c8] at H
    have c8b0 : decide (x20_1 < (y188.length : Int)) = false := decide_eq_false c8
    clear c8
    obtain rfl := Option.some.inj H
    go_wp2
    go_ret
    exact ⟨_, by first | rfl | (simp [errW_none, errW_some] <;> rfl) | (simp [*, errW_none, errW_some] <;> rfl), by (with_reducible repeat (first | apply Kd.R_alloc | apply Kd.R_drewN | apply Kd.R_drew)); exact Kd.R_mono HO_7.out (fun _ hk => trivial), by repeat (first | (with_reducible first | exact HB.out | apply below_alloc | apply pw_below_drewN | apply below_drew1) | exact HB.out)⟩
end Go.Proofs.YtaoichlepfiliaaGreatDoor.E
