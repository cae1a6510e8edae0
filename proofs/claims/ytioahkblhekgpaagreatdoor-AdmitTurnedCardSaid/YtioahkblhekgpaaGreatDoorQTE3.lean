/- What the proof needs of E3: only what is used is left (wip/tools/prune.py). Conditions stand in each sentence. -/
import Derived.Test.YtioahkblhekgpaaGreatDoorQTE0
import Derived.Test.YtioahkblhekgpaaGreatDoorQTE1
import Derived.Test.YtioahkblhekgpaaGreatDoorQTE2
import Derived.Test.YtioahkblhekgpaaGreatDoorQTR6
set_option linter.unusedVariables false
set_option linter.unusedSimpArgs false
namespace Go.Proofs.YtioahkblhekgpaaGreatDoor.R
end Go.Proofs.YtioahkblhekgpaaGreatDoor.R
namespace Go.Proofs.YtioahkblhekgpaaGreatDoorW.PrintLast
end Go.Proofs.YtioahkblhekgpaaGreatDoorW.PrintLast
namespace Go.Proofs.YtioahkblhekgpaaGreatDoorW.PrintMore
end Go.Proofs.YtioahkblhekgpaaGreatDoorW.PrintMore
namespace Go.Proofs.YtioahkblhekgpaaGreatDoorW.PrintWords
end Go.Proofs.YtioahkblhekgpaaGreatDoorW.PrintWords
namespace Go.Proofs.YtioahkblhekgpaaGreatDoor.E
open Go.Proofs.YtioahkblhekgpaaGreatDoor.R
open Go.RowKit Go.Proofs.YtioahkblhekgpaaGreatDoorW.PrintWords Go.Proofs.YtioahkblhekgpaaGreatDoorW.PrintLast Go.Proofs.YtioahkblhekgpaaGreatDoorW.PrintMore
set_option linter.unusedVariables false
set_option linter.unusedSimpArgs false
def orient_may.l0 : Nat → List (S32) → Int → Int → Option (Bool)
  | 0, _, _, _ => none
  | k + 1, x5, x6, x7 => if x7 < x6 then (if 0 ≤ x7 then (if x7 < (x5.length : Int) then ((orient_coordinate.f ((rd_T32 x5 x7).f0)).bind fun t164 => (if t164 = true then ((orient_coordinate.f ((rd_T32 x5 x7).f1)).bind fun t165 => (if t165 = true then (orient_may.l0 k x5 x6 (wrap64 (x7 + 1))) else (some false))) else (some false))) else (none)) else (none)) else (some true)
def orient_may.f (k : Nat) (l0 : List (S32)) : Option (Bool) := orient_may.l0 k l0 (l0.length : Int) 0
set_option maxHeartbeats 8000000 in
set_option maxRecDepth 100000 in
theorem orient_may.calls (k : Nat) (A0 : Option Addr) (c0 : Nat) (l0 : List (S32)) (r : Bool) (w : World) (hr0 : Kd.C k32 w A0 l0.length l0) (hc0 : l0.length ≤ c0) (h : orient_may.f k l0 = some r) :
    Calls Tryz.prog 57 #[.slice A0 l0.length c0] w fun e w' => e = .returned (.bool r) ∧ Below w.heap.size w w' := by
  have hu32 := Tryz.underlying32
  have HR0 := Aside0.mk hr0
  have HC0 := Aside0.mk hc0
  clear hr0 hc0
  have HB := Aside0.mk (Below.refl w.heap.size w)
  have H : (orient_may.l0 k l0 (l0.length : Int) 0) = some r := h
  clear h
  have H' := Aside0.mk H
  clear H
  go_enter Tryz.func57, Tryz.ntmps57
  go_wp2
  go_loopg [7] k (fun kq v7 w' => ∃ (x7_1 : Int), v7 = .int .i64 x7_1 ∧ Aside0 (orient_may.l0 kq l0 (l0.length : Int) x7_1 = some r) ∧ Aside0 (kq ≤ k) ∧ Aside0 (Below w.heap.size w w'))
  case atStart => exact ⟨(0), (by (rfl)), H', ⟨Nat.le_refl _⟩, ⟨by repeat (((with_reducible (exact HB.out))))⟩⟩
  case round =>
    clear H'
    obtain ⟨x7_1, rfl, HA, HK1, HB⟩ := hrel
    cases gk with
    | zero => exact absurd HA.out (by simp [orient_may.l0])
    | succ k1 =>
      have H := HA.out
      clear HA
      simp only [orient_may.l0] at H
      by_cases c2 : x7_1 < (l0.length : Int)
      · rw [if_pos c2] at H
        have c2b0 : decide (x7_1 < (l0.length : Int)) = true := decide_eq_true c2
        clear c2
        by_cases c3 : 0 ≤ x7_1
        · rw [if_pos c3] at H
          have c3b0 : decide (0 ≤ x7_1) = true := decide_eq_true c3
          clear c3
          by_cases c4 : x7_1 < (l0.length : Int)
          · rw [if_pos c4] at H
            have c4b0 : decide (x7_1 < (l0.length : Int)) = true := decide_eq_true c4
            clear c4
            replace H := Option.bind_eq_some_iff.mp H
            obtain ⟨t164, A50, H⟩ := H
            replace H : (if t164 = true then ((orient_coordinate.f ((rd_T32 l0 x7_1).f1)).bind fun t165 => (if t165 = true then (orient_may.l0 k1 l0 (l0.length : Int) (wrap64 (x7_1 + 1))) else (some false))) else (some false)) = some r := H
            have A5 := Aside0.mk A50
            clear A50
            by_cases c6 : t164 = true
            · subst c6
              have H1 : ((orient_coordinate.f ((rd_T32 l0 x7_1).f1)).bind fun t165 => (if t165 = true then (orient_may.l0 k1 l0 (l0.length : Int) (wrap64 (x7_1 + 1))) else (some false))) = some r := by rw [if_pos rfl] at H; exact H
              clear H
              have H := H1
              clear H1
              replace H := Option.bind_eq_some_iff.mp H
              obtain ⟨t165, A70, H⟩ := H
              replace H : (if t165 = true then (orient_may.l0 k1 l0 (l0.length : Int) (wrap64 (x7_1 + 1))) else (some false)) = some r := H
              have A7 := Aside0.mk A70
              clear A70
              by_cases c8 : t165 = true
              · subst c8
                have H1 : (orient_may.l0 k1 l0 (l0.length : Int) (wrap64 (x7_1 + 1))) = some r := by rw [if_pos rfl] at H; exact H
                clear H
                have H := H1
                clear H1
                have H' := Aside0.mk H
                clear H
                have p162 : 0 ≤ (x7_1 : Int) := of_decide_eq_true (by ((with_reducible assumption)))
                have q162 : x7_1 < (l0.length : Int) := of_decide_eq_true (by ((with_reducible assumption)))
                obtain ⟨ad162, e162, hx162_0, hx162_1⟩ := at_T32 HR0.out x7_1 p162 q162
                cases e162
                replace hx162_0 := (HB.out.cell (World.block_lt_of_cell? w _ hx162_0)).trans hx162_0
                replace hx162_1 := (HB.out.cell (World.block_lt_of_cell? w _ hx162_1)).trans hx162_1
                replace p162 := eq_true p162
                replace q162 := eq_true q162
                go_wp2_with (first | ((with_reducible refine gate_dst (N := 4) rfl ?_); refine box_event ?hg (N := 4) ?hd (cs := #[.float .f64 0, .float .f64 0]) (t := 32) ?hr ?_; (case hd => rfl); (case hg => rfl); (case hr => ((go_simp; done))); intro gb163 hg w9 hbox hb; have n0_ := Aside0.mk (below_step (by repeat (((with_reducible (exact HB.out))))) hb); have n1_ := Aside0.mk (hbox); have n2_ := Aside0.mk ((by rw [hg]; exact (below_size (by repeat (((with_reducible (exact HB.out)))))) : w.heap.size ≤ gb163)); have n3_ := Aside0.mk ((by rw [hg]; exact (below_size (by repeat (((with_reducible (exact HB.out)))))) : w.heap.size ≤ gb163)); clear HB; have HB := n0_; have BK163 := n1_; have GW163 := n2_; have GE163 := n3_; clear n0_ n1_ n2_ n3_; clear hb hbox hg; have hcz10_0 : w9.cell? ⟨gb163, 0, none⟩ = some (.float .f64 0) := (blk_cell BK163.out 0).trans rfl; have hcz10_1 : w9.cell? ⟨gb163, 1, none⟩ = some (.float .f64 0) := (blk_cell BK163.out 1).trans rfl; have hfz10_0 := blk_frozen BK163.out 0; have hfz10_1 := blk_frozen BK163.out 1)| ((with_reducible refine gate_callee (f := 78) rfl ?_); refine goesL_ (some 13) rfl rfl Tryz.func78 (by kernel_rfl) rfl #[.float .f64 ((rd_T32 l0 x7_1).f0)] rfl (by (try simp only [List.map_toArray, List.map_cons, List.map_nil]); (rfl)) ?_; (with_reducible refine (orient_coordinate.calls ((rd_T32 l0 x7_1).f0) true _ A5.out).mono ?_); rintro e w' ⟨rfl, ⟨nd, rfl⟩⟩; refine ⟨_, rfl, ?_⟩)| (go_at_call 78; (with_reducible refine (orient_coordinate.calls ((rd_T32 l0 x7_1).f1) true _ A7.out).mono ?_); rintro e w' ⟨rfl, ⟨nd, rfl⟩⟩) )
                go_roundg k1
                case measure => have := HK1.out; omega
                case rel => exact ⟨(wrap64 (x7_1 + 1)), (by (rfl)), H', ⟨by have := HK1.out; omega⟩, ⟨by repeat (((with_reducible first | exact HB.out| apply pw_below_drewN| refine below_set ?_ GE163.out )))⟩⟩
              · replace c8 := Bool.eq_false_iff.mpr c8
                subst c8
                have H1 : (some false) = some r := by rw [if_neg (show ¬ (false = true) by decide)] at H; exact H
                clear H
                have H := H1
                clear H1
                obtain rfl := Option.some.inj H
                have p162 : 0 ≤ (x7_1 : Int) := of_decide_eq_true (by ((with_reducible assumption)))
                have q162 : x7_1 < (l0.length : Int) := of_decide_eq_true (by ((with_reducible assumption)))
                obtain ⟨ad162, e162, hx162_0, hx162_1⟩ := at_T32 HR0.out x7_1 p162 q162
                cases e162
                replace hx162_0 := (HB.out.cell (World.block_lt_of_cell? w _ hx162_0)).trans hx162_0
                replace hx162_1 := (HB.out.cell (World.block_lt_of_cell? w _ hx162_1)).trans hx162_1
                replace p162 := eq_true p162
                replace q162 := eq_true q162
                go_wp2_with (first | ((with_reducible refine gate_dst (N := 4) rfl ?_); refine box_event ?hg (N := 4) ?hd (cs := #[.float .f64 0, .float .f64 0]) (t := 32) ?hr ?_; (case hd => rfl); (case hg => rfl); (case hr => ((go_simp; done))); intro gb163 hg w11 hbox hb; have n0_ := Aside0.mk (below_step (by repeat (((with_reducible (exact HB.out))))) hb); have n1_ := Aside0.mk (hbox); have n2_ := Aside0.mk ((by rw [hg]; exact (below_size (by repeat (((with_reducible (exact HB.out)))))) : w.heap.size ≤ gb163)); have n3_ := Aside0.mk ((by rw [hg]; exact (below_size (by repeat (((with_reducible (exact HB.out)))))) : w.heap.size ≤ gb163)); clear HB; have HB := n0_; have BK163 := n1_; have GW163 := n2_; have GE163 := n3_; clear n0_ n1_ n2_ n3_; clear hb hbox hg; have hcz12_0 : w11.cell? ⟨gb163, 0, none⟩ = some (.float .f64 0) := (blk_cell BK163.out 0).trans rfl; have hcz12_1 : w11.cell? ⟨gb163, 1, none⟩ = some (.float .f64 0) := (blk_cell BK163.out 1).trans rfl; have hfz12_0 := blk_frozen BK163.out 0; have hfz12_1 := blk_frozen BK163.out 1)| ((with_reducible refine gate_callee (f := 78) rfl ?_); refine goesL_ (some 13) rfl rfl Tryz.func78 (by kernel_rfl) rfl #[.float .f64 ((rd_T32 l0 x7_1).f0)] rfl (by (try simp only [List.map_toArray, List.map_cons, List.map_nil]); (rfl)) ?_; (with_reducible refine (orient_coordinate.calls ((rd_T32 l0 x7_1).f0) true _ A5.out).mono ?_); rintro e w' ⟨rfl, ⟨nd, rfl⟩⟩; refine ⟨_, rfl, ?_⟩)| (go_at_call 78; (with_reducible refine (orient_coordinate.calls ((rd_T32 l0 x7_1).f1) false _ A7.out).mono ?_); rintro e w' ⟨rfl, ⟨nd, rfl⟩⟩) )
                go_ret
                exact ⟨by (rfl), by repeat (((with_reducible first | exact HB.out| apply pw_below_drewN| refine below_set ?_ GE163.out )))⟩
            · replace c6 := Bool.eq_false_iff.mpr c6
              subst c6
              have H1 : (some false) = some r := by rw [if_neg (show ¬ (false = true) by decide)] at H; exact H
              clear H
              have H := H1
              clear H1
              obtain rfl := Option.some.inj H
              have p162 : 0 ≤ (x7_1 : Int) := of_decide_eq_true (by ((with_reducible assumption)))
              have q162 : x7_1 < (l0.length : Int) := of_decide_eq_true (by ((with_reducible assumption)))
              obtain ⟨ad162, e162, hx162_0, hx162_1⟩ := at_T32 HR0.out x7_1 p162 q162
              cases e162
              replace hx162_0 := (HB.out.cell (World.block_lt_of_cell? w _ hx162_0)).trans hx162_0
              replace hx162_1 := (HB.out.cell (World.block_lt_of_cell? w _ hx162_1)).trans hx162_1
              replace p162 := eq_true p162
              replace q162 := eq_true q162
              go_wp2_with (first | ((with_reducible refine gate_dst (N := 4) rfl ?_); refine box_event ?hg (N := 4) ?hd (cs := #[.float .f64 0, .float .f64 0]) (t := 32) ?hr ?_; (case hd => rfl); (case hg => rfl); (case hr => ((go_simp; done))); intro gb163 hg w13 hbox hb; have n0_ := Aside0.mk (below_step (by repeat (((with_reducible (exact HB.out))))) hb); have n1_ := Aside0.mk (hbox); have n2_ := Aside0.mk ((by rw [hg]; exact (below_size (by repeat (((with_reducible (exact HB.out)))))) : w.heap.size ≤ gb163)); have n3_ := Aside0.mk ((by rw [hg]; exact (below_size (by repeat (((with_reducible (exact HB.out)))))) : w.heap.size ≤ gb163)); clear HB; have HB := n0_; have BK163 := n1_; have GW163 := n2_; have GE163 := n3_; clear n0_ n1_ n2_ n3_; clear hb hbox hg; have hcz14_0 : w13.cell? ⟨gb163, 0, none⟩ = some (.float .f64 0) := (blk_cell BK163.out 0).trans rfl; have hcz14_1 : w13.cell? ⟨gb163, 1, none⟩ = some (.float .f64 0) := (blk_cell BK163.out 1).trans rfl; have hfz14_0 := blk_frozen BK163.out 0; have hfz14_1 := blk_frozen BK163.out 1)| ((with_reducible refine gate_callee (f := 78) rfl ?_); refine goesL_ (some 13) rfl rfl Tryz.func78 (by kernel_rfl) rfl #[.float .f64 ((rd_T32 l0 x7_1).f0)] rfl (by (try simp only [List.map_toArray, List.map_cons, List.map_nil]); (rfl)) ?_; (with_reducible refine (orient_coordinate.calls ((rd_T32 l0 x7_1).f0) false _ A5.out).mono ?_); rintro e w' ⟨rfl, ⟨nd, rfl⟩⟩; refine ⟨_, rfl, ?_⟩) )
              go_ret
              exact ⟨by (rfl), by repeat (((with_reducible first | exact HB.out| apply pw_below_drewN| refine below_set ?_ GE163.out )))⟩
          · rw [if_neg c4] at H
            exact absurd H (by simp)
        · rw [if_neg c3] at H
          exact absurd H (by simp)
      · rw [if_neg c2] at H
        have c2b0 : decide (x7_1 < (l0.length : Int)) = false := decide_eq_false c2
        clear c2
        obtain rfl := Option.some.inj H
        go_wp2
        go_ret
        exact ⟨by (rfl), by repeat (((with_reducible (exact HB.out))))⟩
def orient_Fast.f (k : Nat) (a0_0 : Nat) (a0_1 : Nat) (a1_0 : Nat) (a1_1 : Nat) (a2_0 : Nat) (a2_1 : Nat) : Option (Int × Bool) := (orient_may.f k (([(⟨a0_0, a0_1⟩ : S32), (⟨a1_0, a1_1⟩ : S32), (⟨a2_0, a2_1⟩ : S32)] : List (S32)))).bind fun t172 => (if t172 = true then ((floatBits .sub .f64 a1_0 a0_0).bind fun t173 => ((floatBits .sub .f64 a2_1 a0_1).bind fun t174 => ((floatBits .mul .f64 t173 t174).bind fun t175 => ((floatBits .sub .f64 a1_1 a0_1).bind fun t176 => ((floatBits .sub .f64 a2_0 a0_0).bind fun t177 => ((floatBits .mul .f64 t176 t177).bind fun t178 => ((floatBits .sub .f64 t175 t178).bind fun t179 => ((math_Abs.f t175).bind fun t180 => ((math_Abs.f t178).bind fun t181 => ((floatBits .add .f64 t180 t181).bind fun t182 => ((floatBits .mul .f64 4382002437431492608 t182).bind fun t183 => ((math_Abs.f t179).bind fun t184 => (if (FloatKind.f64.format.order t184 t183 == some .gt) = true then ((orient_sign.f t179).bind fun t185 => (some (t185, true))) else (some (0, false))))))))))))))) else (some (0, false)))
set_option maxHeartbeats 8000000 in
set_option maxRecDepth 100000 in
theorem orient_Fast.calls (k : Nat) (a0_0 : Nat) (a0_1 : Nat) (a1_0 : Nat) (a1_1 : Nat) (a2_0 : Nat) (a2_1 : Nat) (r1 : Int) (r2 : Bool) (w : World) (h : orient_Fast.f k a0_0 a0_1 a1_0 a1_1 a2_0 a2_1 = some (r1, r2)) :
    Calls Tryz.prog 56 #[.agg #[.float .f64 a0_0, .float .f64 a0_1], .agg #[.float .f64 a1_0, .float .f64 a1_1], .agg #[.float .f64 a2_0, .float .f64 a2_1]] w fun e w' => e = .returned (.tuple #[.int .i64 r1, .bool r2]) ∧ Below w.heap.size w w' := by
  have hu32 := Tryz.underlying32
  have HB := Aside0.mk (Below.refl w.heap.size w)
  have H : ((orient_may.f k (([(⟨a0_0, a0_1⟩ : S32), (⟨a1_0, a1_1⟩ : S32), (⟨a2_0, a2_1⟩ : S32)] : List (S32)))).bind fun t172 => (if t172 = true then ((floatBits .sub .f64 a1_0 a0_0).bind fun t173 => ((floatBits .sub .f64 a2_1 a0_1).bind fun t174 => ((floatBits .mul .f64 t173 t174).bind fun t175 => ((floatBits .sub .f64 a1_1 a0_1).bind fun t176 => ((floatBits .sub .f64 a2_0 a0_0).bind fun t177 => ((floatBits .mul .f64 t176 t177).bind fun t178 => ((floatBits .sub .f64 t175 t178).bind fun t179 => ((math_Abs.f t175).bind fun t180 => ((math_Abs.f t178).bind fun t181 => ((floatBits .add .f64 t180 t181).bind fun t182 => ((floatBits .mul .f64 4382002437431492608 t182).bind fun t183 => ((math_Abs.f t179).bind fun t184 => (if (FloatKind.f64.format.order t184 t183 == some .gt) = true then ((orient_sign.f t179).bind fun t185 => (some (t185, true))) else (some (0, false))))))))))))))) else (some (0, false)))) = some (r1, r2) := h
  clear h
  obtain ⟨y169, hy169⟩ : ∃ y_ : List (S32), y_ = (([(⟨a0_0, a0_1⟩ : S32), (⟨a1_0, a1_1⟩ : S32), (⟨a2_0, a2_1⟩ : S32)] : List (S32))) := ⟨_, rfl⟩
  replace H : ((orient_may.f k y169).bind fun t172 => (if t172 = true then ((floatBits .sub .f64 a1_0 a0_0).bind fun t173 => ((floatBits .sub .f64 a2_1 a0_1).bind fun t174 => ((floatBits .mul .f64 t173 t174).bind fun t175 => ((floatBits .sub .f64 a1_1 a0_1).bind fun t176 => ((floatBits .sub .f64 a2_0 a0_0).bind fun t177 => ((floatBits .mul .f64 t176 t177).bind fun t178 => ((floatBits .sub .f64 t175 t178).bind fun t179 => ((math_Abs.f t175).bind fun t180 => ((math_Abs.f t178).bind fun t181 => ((floatBits .add .f64 t180 t181).bind fun t182 => ((floatBits .mul .f64 4382002437431492608 t182).bind fun t183 => ((math_Abs.f t179).bind fun t184 => (if (FloatKind.f64.format.order t184 t183 == some .gt) = true then ((orient_sign.f t179).bind fun t185 => (some (t185, true))) else (some (0, false))))))))))))))) else (some (0, false)))) = some (r1, r2) := by ((rw [hy169]; with_reducible exact H))
  have Ny169 := Aside0.mk hy169
  clear hy169
  replace H := Option.bind_eq_some_iff.mp H
  obtain ⟨t172, A40, H⟩ := H
  replace H : (if t172 = true then ((floatBits .sub .f64 a1_0 a0_0).bind fun t173 => ((floatBits .sub .f64 a2_1 a0_1).bind fun t174 => ((floatBits .mul .f64 t173 t174).bind fun t175 => ((floatBits .sub .f64 a1_1 a0_1).bind fun t176 => ((floatBits .sub .f64 a2_0 a0_0).bind fun t177 => ((floatBits .mul .f64 t176 t177).bind fun t178 => ((floatBits .sub .f64 t175 t178).bind fun t179 => ((math_Abs.f t175).bind fun t180 => ((math_Abs.f t178).bind fun t181 => ((floatBits .add .f64 t180 t181).bind fun t182 => ((floatBits .mul .f64 4382002437431492608 t182).bind fun t183 => ((math_Abs.f t179).bind fun t184 => (if (FloatKind.f64.format.order t184 t183 == some .gt) = true then ((orient_sign.f t179).bind fun t185 => (some (t185, true))) else (some (0, false))))))))))))))) else (some (0, false))) = some (r1, r2) := H
  have A4 := Aside0.mk A40
  clear A40
  by_cases c5 : t172 = true
  · subst c5
    have H1 : ((floatBits .sub .f64 a1_0 a0_0).bind fun t173 => ((floatBits .sub .f64 a2_1 a0_1).bind fun t174 => ((floatBits .mul .f64 t173 t174).bind fun t175 => ((floatBits .sub .f64 a1_1 a0_1).bind fun t176 => ((floatBits .sub .f64 a2_0 a0_0).bind fun t177 => ((floatBits .mul .f64 t176 t177).bind fun t178 => ((floatBits .sub .f64 t175 t178).bind fun t179 => ((math_Abs.f t175).bind fun t180 => ((math_Abs.f t178).bind fun t181 => ((floatBits .add .f64 t180 t181).bind fun t182 => ((floatBits .mul .f64 4382002437431492608 t182).bind fun t183 => ((math_Abs.f t179).bind fun t184 => (if (FloatKind.f64.format.order t184 t183 == some .gt) = true then ((orient_sign.f t179).bind fun t185 => (some (t185, true))) else (some (0, false))))))))))))))) = some (r1, r2) := by rw [if_pos rfl] at H; exact H
    clear H
    have H := H1
    clear H1
    replace H := Option.bind_eq_some_iff.mp H
    obtain ⟨t173, hfop_, H⟩ := H
    replace H : ((floatBits .sub .f64 a2_1 a0_1).bind fun t174 => ((floatBits .mul .f64 t173 t174).bind fun t175 => ((floatBits .sub .f64 a1_1 a0_1).bind fun t176 => ((floatBits .sub .f64 a2_0 a0_0).bind fun t177 => ((floatBits .mul .f64 t176 t177).bind fun t178 => ((floatBits .sub .f64 t175 t178).bind fun t179 => ((math_Abs.f t175).bind fun t180 => ((math_Abs.f t178).bind fun t181 => ((floatBits .add .f64 t180 t181).bind fun t182 => ((floatBits .mul .f64 4382002437431492608 t182).bind fun t183 => ((math_Abs.f t179).bind fun t184 => (if (FloatKind.f64.format.order t184 t183 == some .gt) = true then ((orient_sign.f t179).bind fun t185 => (some (t185, true))) else (some (0, false)))))))))))))) = some (r1, r2) := H
    have hfw6 := fun w_ => run_float_arith (P := Tryz.prog) w_ .sub 30 .f64 a1_0 a0_0 t173 hfop_
    clear hfop_
    replace H := Option.bind_eq_some_iff.mp H
    obtain ⟨t174, hfop_, H⟩ := H
    replace H : ((floatBits .mul .f64 t173 t174).bind fun t175 => ((floatBits .sub .f64 a1_1 a0_1).bind fun t176 => ((floatBits .sub .f64 a2_0 a0_0).bind fun t177 => ((floatBits .mul .f64 t176 t177).bind fun t178 => ((floatBits .sub .f64 t175 t178).bind fun t179 => ((math_Abs.f t175).bind fun t180 => ((math_Abs.f t178).bind fun t181 => ((floatBits .add .f64 t180 t181).bind fun t182 => ((floatBits .mul .f64 4382002437431492608 t182).bind fun t183 => ((math_Abs.f t179).bind fun t184 => (if (FloatKind.f64.format.order t184 t183 == some .gt) = true then ((orient_sign.f t179).bind fun t185 => (some (t185, true))) else (some (0, false))))))))))))) = some (r1, r2) := H
    have hfw7 := fun w_ => run_float_arith (P := Tryz.prog) w_ .sub 30 .f64 a2_1 a0_1 t174 hfop_
    clear hfop_
    replace H := Option.bind_eq_some_iff.mp H
    obtain ⟨t175, hfop_, H⟩ := H
    replace H : ((floatBits .sub .f64 a1_1 a0_1).bind fun t176 => ((floatBits .sub .f64 a2_0 a0_0).bind fun t177 => ((floatBits .mul .f64 t176 t177).bind fun t178 => ((floatBits .sub .f64 t175 t178).bind fun t179 => ((math_Abs.f t175).bind fun t180 => ((math_Abs.f t178).bind fun t181 => ((floatBits .add .f64 t180 t181).bind fun t182 => ((floatBits .mul .f64 4382002437431492608 t182).bind fun t183 => ((math_Abs.f t179).bind fun t184 => (if (FloatKind.f64.format.order t184 t183 == some .gt) = true then ((orient_sign.f t179).bind fun t185 => (some (t185, true))) else (some (0, false)))))))))))) = some (r1, r2) := H
    have hfw8 := fun w_ => run_float_arith (P := Tryz.prog) w_ .mul 30 .f64 t173 t174 t175 hfop_
    clear hfop_
    replace H := Option.bind_eq_some_iff.mp H
    obtain ⟨t176, hfop_, H⟩ := H
    replace H : ((floatBits .sub .f64 a2_0 a0_0).bind fun t177 => ((floatBits .mul .f64 t176 t177).bind fun t178 => ((floatBits .sub .f64 t175 t178).bind fun t179 => ((math_Abs.f t175).bind fun t180 => ((math_Abs.f t178).bind fun t181 => ((floatBits .add .f64 t180 t181).bind fun t182 => ((floatBits .mul .f64 4382002437431492608 t182).bind fun t183 => ((math_Abs.f t179).bind fun t184 => (if (FloatKind.f64.format.order t184 t183 == some .gt) = true then ((orient_sign.f t179).bind fun t185 => (some (t185, true))) else (some (0, false))))))))))) = some (r1, r2) := H
    have hfw9 := fun w_ => run_float_arith (P := Tryz.prog) w_ .sub 30 .f64 a1_1 a0_1 t176 hfop_
    clear hfop_
    replace H := Option.bind_eq_some_iff.mp H
    obtain ⟨t177, hfop_, H⟩ := H
    replace H : ((floatBits .mul .f64 t176 t177).bind fun t178 => ((floatBits .sub .f64 t175 t178).bind fun t179 => ((math_Abs.f t175).bind fun t180 => ((math_Abs.f t178).bind fun t181 => ((floatBits .add .f64 t180 t181).bind fun t182 => ((floatBits .mul .f64 4382002437431492608 t182).bind fun t183 => ((math_Abs.f t179).bind fun t184 => (if (FloatKind.f64.format.order t184 t183 == some .gt) = true then ((orient_sign.f t179).bind fun t185 => (some (t185, true))) else (some (0, false)))))))))) = some (r1, r2) := H
    have hfw10 := fun w_ => run_float_arith (P := Tryz.prog) w_ .sub 30 .f64 a2_0 a0_0 t177 hfop_
    clear hfop_
    replace H := Option.bind_eq_some_iff.mp H
    obtain ⟨t178, hfop_, H⟩ := H
    replace H : ((floatBits .sub .f64 t175 t178).bind fun t179 => ((math_Abs.f t175).bind fun t180 => ((math_Abs.f t178).bind fun t181 => ((floatBits .add .f64 t180 t181).bind fun t182 => ((floatBits .mul .f64 4382002437431492608 t182).bind fun t183 => ((math_Abs.f t179).bind fun t184 => (if (FloatKind.f64.format.order t184 t183 == some .gt) = true then ((orient_sign.f t179).bind fun t185 => (some (t185, true))) else (some (0, false))))))))) = some (r1, r2) := H
    have hfw11 := fun w_ => run_float_arith (P := Tryz.prog) w_ .mul 30 .f64 t176 t177 t178 hfop_
    clear hfop_
    replace H := Option.bind_eq_some_iff.mp H
    obtain ⟨t179, hfop_, H⟩ := H
    replace H : ((math_Abs.f t175).bind fun t180 => ((math_Abs.f t178).bind fun t181 => ((floatBits .add .f64 t180 t181).bind fun t182 => ((floatBits .mul .f64 4382002437431492608 t182).bind fun t183 => ((math_Abs.f t179).bind fun t184 => (if (FloatKind.f64.format.order t184 t183 == some .gt) = true then ((orient_sign.f t179).bind fun t185 => (some (t185, true))) else (some (0, false)))))))) = some (r1, r2) := H
    have hfw12 := fun w_ => run_float_arith (P := Tryz.prog) w_ .sub 30 .f64 t175 t178 t179 hfop_
    clear hfop_
    replace H := Option.bind_eq_some_iff.mp H
    obtain ⟨t180, A130, H⟩ := H
    replace H : ((math_Abs.f t178).bind fun t181 => ((floatBits .add .f64 t180 t181).bind fun t182 => ((floatBits .mul .f64 4382002437431492608 t182).bind fun t183 => ((math_Abs.f t179).bind fun t184 => (if (FloatKind.f64.format.order t184 t183 == some .gt) = true then ((orient_sign.f t179).bind fun t185 => (some (t185, true))) else (some (0, false))))))) = some (r1, r2) := H
    have A13 := Aside0.mk A130
    clear A130
    replace H := Option.bind_eq_some_iff.mp H
    obtain ⟨t181, A140, H⟩ := H
    replace H : ((floatBits .add .f64 t180 t181).bind fun t182 => ((floatBits .mul .f64 4382002437431492608 t182).bind fun t183 => ((math_Abs.f t179).bind fun t184 => (if (FloatKind.f64.format.order t184 t183 == some .gt) = true then ((orient_sign.f t179).bind fun t185 => (some (t185, true))) else (some (0, false)))))) = some (r1, r2) := H
    have A14 := Aside0.mk A140
    clear A140
    replace H := Option.bind_eq_some_iff.mp H
    obtain ⟨t182, hfop_, H⟩ := H
    replace H : ((floatBits .mul .f64 4382002437431492608 t182).bind fun t183 => ((math_Abs.f t179).bind fun t184 => (if (FloatKind.f64.format.order t184 t183 == some .gt) = true then ((orient_sign.f t179).bind fun t185 => (some (t185, true))) else (some (0, false))))) = some (r1, r2) := H
    have hfw15 := fun w_ => run_float_arith (P := Tryz.prog) w_ .add 30 .f64 t180 t181 t182 hfop_
    clear hfop_
    replace H := Option.bind_eq_some_iff.mp H
    obtain ⟨t183, hfop_, H⟩ := H
    replace H : ((math_Abs.f t179).bind fun t184 => (if (FloatKind.f64.format.order t184 t183 == some .gt) = true then ((orient_sign.f t179).bind fun t185 => (some (t185, true))) else (some (0, false)))) = some (r1, r2) := H
    have hfw16 := fun w_ => run_float_arith (P := Tryz.prog) w_ .mul 30 .f64 4382002437431492608 t182 t183 hfop_
    clear hfop_
    replace H := Option.bind_eq_some_iff.mp H
    obtain ⟨t184, A170, H⟩ := H
    replace H : (if (FloatKind.f64.format.order t184 t183 == some .gt) = true then ((orient_sign.f t179).bind fun t185 => (some (t185, true))) else (some (0, false))) = some (r1, r2) := H
    have A17 := Aside0.mk A170
    clear A170
    by_cases c18 : (FloatKind.f64.format.order t184 t183 == some .gt) = true
    · rw [if_pos c18] at H
      have c18b0 : (FloatKind.f64.format.order t184 t183 == some .gt) = true := c18
      (try (have c18b1 : decide (FloatKind.f64.format.order t184 t183 = some .gt) = true := by simpa using c18))
      (try (have c18b2 : (FloatKind.f64.format.order t184 t183 == some .gt) = true := by simpa using c18))
      clear c18
      replace H := Option.bind_eq_some_iff.mp H
      obtain ⟨t185, A190, H⟩ := H
      replace H : (some (t185, true)) = some (r1, r2) := H
      have A19 := Aside0.mk A190
      clear A190
      simp only [Option.some.injEq, Prod.mk.injEq] at H
      obtain ⟨rfl, rfl⟩ := H
      go_enter Tryz.func56, Tryz.ntmps56
      go_wp2_with (first | ((with_reducible refine gate_dst (N := 3) rfl ?_); refine box_event ?hg (N := 3) ?hd (cs := #[.float .f64 a0_0, .float .f64 a0_1]) (t := 32) ?hr ?_; (case hd => rfl); (case hg => rfl); (case hr => ((go_simp; done))); intro gb166 hg w20 hbox hb; have n0_ := Aside0.mk (below_step (by repeat (((with_reducible (exact HB.out))))) hb); have n1_ := Aside0.mk (hbox); have n2_ := Aside0.mk ((by rw [hg]; exact (below_size (by repeat (((with_reducible (exact HB.out)))))) : w.heap.size ≤ gb166)); have n3_ := Aside0.mk ((by rw [hg]; exact (below_size (by repeat (((with_reducible (exact HB.out)))))) : w.heap.size ≤ gb166)); clear HB; have HB := n0_; have BK166 := n1_; have GW166 := n2_; have GE166 := n3_; clear n0_ n1_ n2_ n3_; clear hb hbox hg)| ((with_reducible refine gate_dst (N := 4) rfl ?_); refine box_event ?hg (N := 4) ?hd (cs := #[.float .f64 a1_0, .float .f64 a1_1]) (t := 32) ?hr ?_; (case hd => rfl); (case hg => rfl); (case hr => ((go_simp; done))); intro gb167 hg w21 hbox hb; have n0_ := Aside0.mk (blk_below (g := gb166) (o := .cells #[.float .f64 a0_0, .float .f64 a0_1] 32 (0, 0)) (by (with_reducible repeat (fail)); exact BK166.out) hb); have n1_ := Aside0.mk (below_step (by repeat (((with_reducible (exact HB.out))))) hb); have n2_ := Aside0.mk (hbox); have n3_ := Aside0.mk ((by rw [hg]; exact (below_size (by repeat (((with_reducible (exact HB.out)))))) : w.heap.size ≤ gb167)); have n4_ := Aside0.mk ((by rw [hg]; exact (below_size (by repeat (((with_reducible (exact HB.out)))))) : w.heap.size ≤ gb167)); have n5_ := Aside0.mk ((by rw [hg]; exact Nat.ne_of_lt (blk_lt (g := gb166) (o := .cells #[.float .f64 a0_0, .float .f64 a0_1] 32 (0, 0)) (by (with_reducible repeat (fail)); exact BK166.out)) : gb166 ≠ gb167)); have n6_ := Aside0.mk ((by rw [hg]; exact Nat.ne_of_gt (blk_lt (g := gb166) (o := .cells #[.float .f64 a0_0, .float .f64 a0_1] 32 (0, 0)) (by (with_reducible repeat (fail)); exact BK166.out)) : gb167 ≠ gb166)); clear BK166; clear HB; have BK166 := n0_; have HB := n1_; have BK167 := n2_; have GW167 := n3_; have GE167 := n4_; have NB166_167 := n5_; have NB167_166 := n6_; clear n0_ n1_ n2_ n3_ n4_ n5_ n6_; clear hb hbox hg)| ((with_reducible refine gate_dst (N := 5) rfl ?_); refine box_event ?hg (N := 5) ?hd (cs := #[.float .f64 a2_0, .float .f64 a2_1]) (t := 32) ?hr ?_; (case hd => rfl); (case hg => rfl); (case hr => ((go_simp; done))); intro gb168 hg w22 hbox hb; have n0_ := Aside0.mk (blk_below (g := gb166) (o := .cells #[.float .f64 a0_0, .float .f64 a0_1] 32 (0, 0)) (by (with_reducible repeat (fail)); exact BK166.out) hb); have n1_ := Aside0.mk (blk_below (g := gb167) (o := .cells #[.float .f64 a1_0, .float .f64 a1_1] 32 (0, 0)) (by (with_reducible repeat (fail)); exact BK167.out) hb); have n2_ := Aside0.mk (below_step (by repeat (((with_reducible (exact HB.out))))) hb); have n3_ := Aside0.mk (hbox); have n4_ := Aside0.mk ((by rw [hg]; exact (below_size (by repeat (((with_reducible (exact HB.out)))))) : w.heap.size ≤ gb168)); have n5_ := Aside0.mk ((by rw [hg]; exact (below_size (by repeat (((with_reducible (exact HB.out)))))) : w.heap.size ≤ gb168)); have n6_ := Aside0.mk ((by rw [hg]; exact Nat.ne_of_lt (blk_lt (g := gb166) (o := .cells #[.float .f64 a0_0, .float .f64 a0_1] 32 (0, 0)) (by (with_reducible repeat (fail)); exact BK166.out)) : gb166 ≠ gb168)); have n7_ := Aside0.mk ((by rw [hg]; exact Nat.ne_of_gt (blk_lt (g := gb166) (o := .cells #[.float .f64 a0_0, .float .f64 a0_1] 32 (0, 0)) (by (with_reducible repeat (fail)); exact BK166.out)) : gb168 ≠ gb166)); have n8_ := Aside0.mk ((by rw [hg]; exact Nat.ne_of_lt (blk_lt (g := gb167) (o := .cells #[.float .f64 a1_0, .float .f64 a1_1] 32 (0, 0)) (by (with_reducible repeat (fail)); exact BK167.out)) : gb167 ≠ gb168)); have n9_ := Aside0.mk ((by rw [hg]; exact Nat.ne_of_gt (blk_lt (g := gb167) (o := .cells #[.float .f64 a1_0, .float .f64 a1_1] 32 (0, 0)) (by (with_reducible repeat (fail)); exact BK167.out)) : gb168 ≠ gb167)); clear BK166; clear BK167; clear HB; have BK166 := n0_; have BK167 := n1_; have HB := n2_; have BK168 := n3_; have GW168 := n4_; have GE168 := n5_; have NB166_168 := n6_; have NB168_166 := n7_; have NB167_168 := n8_; have NB168_167 := n9_; clear n0_ n1_ n2_ n3_ n4_ n5_ n6_ n7_ n8_ n9_; clear hb hbox hg; have hnb23 := NB166_167.out; have hnc23 := NB167_166.out; have hnb24 := NB166_168.out; have hnc24 := NB168_166.out; have hcz25_0 : w22.cell? ⟨gb166, 0, none⟩ = some (.float .f64 a0_0) := (blk_cell BK166.out 0).trans rfl; have hcz25_1 : w22.cell? ⟨gb166, 1, none⟩ = some (.float .f64 a0_1) := (blk_cell BK166.out 1).trans rfl; have hfz25_0 := blk_frozen BK166.out 0; have hfz25_1 := blk_frozen BK166.out 1; have hnb26 := NB167_168.out; have hnc26 := NB168_167.out; have hcz27_0 : w22.cell? ⟨gb167, 0, none⟩ = some (.float .f64 a1_0) := (blk_cell BK167.out 0).trans rfl; have hcz27_1 : w22.cell? ⟨gb167, 1, none⟩ = some (.float .f64 a1_1) := (blk_cell BK167.out 1).trans rfl; have hfz27_0 := blk_frozen BK167.out 0; have hfz27_1 := blk_frozen BK167.out 1; have hcz28_0 : w22.cell? ⟨gb168, 0, none⟩ = some (.float .f64 a2_0) := (blk_cell BK168.out 0).trans rfl; have hcz28_1 : w22.cell? ⟨gb168, 1, none⟩ = some (.float .f64 a2_1) := (blk_cell BK168.out 1).trans rfl; have hfz28_0 := blk_frozen BK168.out 0; have hfz28_1 := blk_frozen BK168.out 1)| ((with_reducible refine gate_dst (N := 15) rfl ?_); refine Kd.R_lit k32 _ 32 ?hg (N := 15) ?hd (xs := ([(⟨a0_0, a0_1⟩ : S32), (⟨a1_0, a1_1⟩ : S32), (⟨a2_0, a2_1⟩ : S32)] : List (S32))) (inner := [.float .f64 a0_0, .float .f64 a0_1, .float .f64 a1_0, .float .f64 a1_1, .float .f64 a2_0, .float .f64 a2_1]) (ok := fun _ => True) (okp := fun _ => True) ?hr ?hp (fun _ hk => hk) trivial (Below.refl _ _) (Nat.le_refl _) (by simp) ?_; (case hd => rfl); (case hg => rfl); (case hr => ((go_simp; done))); (case hp => exact (Reps.c2 (show Kd.M k32 _ _ _ (⟨a0_0, a0_1⟩ : S32) [.float .f64 a0_0, .float .f64 a0_1] from (k32_mkM _ _ _ (⟨a0_0, a0_1⟩ : S32) )) (Reps.c2 (show Kd.M k32 _ _ _ (⟨a1_0, a1_1⟩ : S32) [.float .f64 a1_0, .float .f64 a1_1] from (k32_mkM _ _ _ (⟨a1_0, a1_1⟩ : S32) )) (Reps.c2 (show Kd.M k32 _ _ _ (⟨a2_0, a2_1⟩ : S32) [.float .f64 a2_0, .float .f64 a2_1] from (k32_mkM _ _ _ (⟨a2_0, a2_1⟩ : S32) )) (Reps.none _ _))))); intro v170 w29 ho30 hb hg_ hnew_; clear hg_ hnew_; ((rw [← Ny169.out] at ho30)); have n0_ := Aside0.mk (Kd.R_lower (Kd.R_newB (Kd.R_newB (Kd.R_newB ho30 (g := gb166) (o := .cells #[.float .f64 a0_0, .float .f64 a0_1] 32 (0, 0)) (by (with_reducible repeat (fail)); exact BK166.out)) (g := gb167) (o := .cells #[.float .f64 a1_0, .float .f64 a1_1] 32 (0, 0)) (by (with_reducible repeat (fail)); exact BK167.out)) (g := gb168) (o := .cells #[.float .f64 a2_0, .float .f64 a2_1] 32 (0, 0)) (by (with_reducible repeat (fail)); exact BK168.out)) (below_size (by repeat (((with_reducible (exact HB.out))))))); have n1_ := Aside0.mk (blk_below (g := gb166) (o := .cells #[.float .f64 a0_0, .float .f64 a0_1] 32 (0, 0)) (by (with_reducible repeat (fail)); exact BK166.out) hb); have n2_ := Aside0.mk (blk_below (g := gb167) (o := .cells #[.float .f64 a1_0, .float .f64 a1_1] 32 (0, 0)) (by (with_reducible repeat (fail)); exact BK167.out) hb); have n3_ := Aside0.mk (blk_below (g := gb168) (o := .cells #[.float .f64 a2_0, .float .f64 a2_1] 32 (0, 0)) (by (with_reducible repeat (fail)); exact BK168.out) hb); have n4_ := Aside0.mk (below_step (by repeat (((with_reducible (exact HB.out))))) hb); clear BK166; clear BK167; clear BK168; clear HB; have HO171 := n0_; have BK166 := n1_; have BK167 := n2_; have BK168 := n3_; have HB := n4_; clear n0_ n1_ n2_ n3_ n4_; clear hb ho30; obtain ⟨Ao31, co31, eo31⟩ := Kd.R_slice HO171.out; subst eo31)| ((with_reducible refine gate_callee (f := 57) rfl ?_); refine goesL_ (some 16) rfl rfl Tryz.func57 (by kernel_rfl) rfl #[.slice Ao31 y169.length co31] rfl (by (try simp only [List.map_toArray, List.map_cons, List.map_nil]); (rfl)) ?_; (with_reducible refine (orient_may.calls k _ _ y169 true _ ?side1 ?side2 A4.out).mono ?_); (case side1 => repeat ((exact (Kd.R_reads' HO171.out).2.2))); (case side2 => exact (Kd.R_reads' HO171.out).2.1); rintro e w32 ⟨rfl, hb⟩; refine ⟨_, rfl, ?_⟩; have n0_ := Aside0.mk (Kd.R_below (by (with_reducible repeat (fail)); exact HO171.out) hb); have n1_ := Aside0.mk (blk_below (g := gb166) (o := .cells #[.float .f64 a0_0, .float .f64 a0_1] 32 (0, 0)) (by (with_reducible repeat (fail)); exact BK166.out) hb); have n2_ := Aside0.mk (blk_below (g := gb167) (o := .cells #[.float .f64 a1_0, .float .f64 a1_1] 32 (0, 0)) (by (with_reducible repeat (fail)); exact BK167.out) hb); have n3_ := Aside0.mk (blk_below (g := gb168) (o := .cells #[.float .f64 a2_0, .float .f64 a2_1] 32 (0, 0)) (by (with_reducible repeat (fail)); exact BK168.out) hb); have n4_ := Aside0.mk (below_step (by repeat (((with_reducible (exact HB.out))))) hb); clear HO171; clear BK166; clear BK167; clear BK168; clear HB; have HO171 := n0_; have BK166 := n1_; have BK167 := n2_; have BK168 := n3_; have HB := n4_; clear n0_ n1_ n2_ n3_ n4_; (try clear hb); (try clear hb2); (try clear hk); (try clear hi); have hcz33_0 : w32.cell? ⟨gb167, 0, none⟩ = some (.float .f64 a1_0) := (blk_cell BK167.out 0).trans rfl; have hcz33_1 : w32.cell? ⟨gb167, 1, none⟩ = some (.float .f64 a1_1) := (blk_cell BK167.out 1).trans rfl; have hfz33_0 := blk_frozen BK167.out 0; have hfz33_1 := blk_frozen BK167.out 1; have hcz34_0 : w32.cell? ⟨gb166, 0, none⟩ = some (.float .f64 a0_0) := (blk_cell BK166.out 0).trans rfl; have hcz34_1 : w32.cell? ⟨gb166, 1, none⟩ = some (.float .f64 a0_1) := (blk_cell BK166.out 1).trans rfl; have hfz34_0 := blk_frozen BK166.out 0; have hfz34_1 := blk_frozen BK166.out 1; have hcz35_0 : w32.cell? ⟨gb168, 0, none⟩ = some (.float .f64 a2_0) := (blk_cell BK168.out 0).trans rfl; have hcz35_1 : w32.cell? ⟨gb168, 1, none⟩ = some (.float .f64 a2_1) := (blk_cell BK168.out 1).trans rfl; have hfz35_0 := blk_frozen BK168.out 0; have hfz35_1 := blk_frozen BK168.out 1)| ((with_reducible refine gate_callee (f := 76) rfl ?_); refine goesL_ (some 44) rfl rfl Tryz.func76 (by kernel_rfl) rfl #[.float .f64 t175] rfl (by (try simp only [List.map_toArray, List.map_cons, List.map_nil]); (rfl)) ?_; (with_reducible refine (math_Abs.calls t175 t180 _ A13.out).mono ?_); rintro e w' ⟨rfl, ⟨nd, rfl⟩⟩; refine ⟨_, rfl, ?_⟩)| ((with_reducible refine gate_callee (f := 76) rfl ?_); refine goesL_ (some 46) rfl rfl Tryz.func76 (by kernel_rfl) rfl #[.float .f64 t178] rfl (by (try simp only [List.map_toArray, List.map_cons, List.map_nil]); (rfl)) ?_; (with_reducible refine (math_Abs.calls t178 t181 _ A14.out).mono ?_); rintro e w' ⟨rfl, ⟨nd, rfl⟩⟩; refine ⟨_, rfl, ?_⟩)| ((with_reducible refine gate_callee (f := 76) rfl ?_); refine goesL_ (some 50) rfl rfl Tryz.func76 (by kernel_rfl) rfl #[.float .f64 t179] rfl (by (try simp only [List.map_toArray, List.map_cons, List.map_nil]); (rfl)) ?_; (with_reducible refine (math_Abs.calls t179 t184 _ A17.out).mono ?_); rintro e w' ⟨rfl, ⟨nd, rfl⟩⟩; refine ⟨_, rfl, ?_⟩)| ((with_reducible refine gate_callee (f := 77) rfl ?_); refine goesL_ (some 54) rfl rfl Tryz.func77 (by kernel_rfl) rfl #[.float .f64 t179] rfl (by (try simp only [List.map_toArray, List.map_cons, List.map_nil]); (rfl)) ?_; (with_reducible refine (orient_sign.calls t179 t185 _ A19.out).mono ?_); rintro e w' ⟨rfl, ⟨nd, rfl⟩⟩; refine ⟨_, rfl, ?_⟩) )
      go_ret2
      exact ⟨by (rfl), by repeat (((with_reducible first | exact HB.out| apply pw_below_drewN )))⟩
    · rw [if_neg c18] at H
      have c18b0 : (FloatKind.f64.format.order t184 t183 == some .gt) = false := by simpa using c18
      (try (have c18b1 : decide (FloatKind.f64.format.order t184 t183 = some .gt) = false := by simpa using c18))
      (try (have c18b2 : (FloatKind.f64.format.order t184 t183 == some .gt) = false := by simpa using c18))
      (try (have c18b3 : ¬ (FloatKind.f64.format.order t184 t183 = some .gt) := by simpa using c18))
      clear c18
      simp only [Option.some.injEq, Prod.mk.injEq] at H
      obtain ⟨rfl, rfl⟩ := H
      go_enter Tryz.func56, Tryz.ntmps56
      go_wp2_with (first | ((with_reducible refine gate_dst (N := 3) rfl ?_); refine box_event ?hg (N := 3) ?hd (cs := #[.float .f64 a0_0, .float .f64 a0_1]) (t := 32) ?hr ?_; (case hd => rfl); (case hg => rfl); (case hr => ((go_simp; done))); intro gb166 hg w36 hbox hb; have n0_ := Aside0.mk (below_step (by repeat (((with_reducible (exact HB.out))))) hb); have n1_ := Aside0.mk (hbox); have n2_ := Aside0.mk ((by rw [hg]; exact (below_size (by repeat (((with_reducible (exact HB.out)))))) : w.heap.size ≤ gb166)); have n3_ := Aside0.mk ((by rw [hg]; exact (below_size (by repeat (((with_reducible (exact HB.out)))))) : w.heap.size ≤ gb166)); clear HB; have HB := n0_; have BK166 := n1_; have GW166 := n2_; have GE166 := n3_; clear n0_ n1_ n2_ n3_; clear hb hbox hg)| ((with_reducible refine gate_dst (N := 4) rfl ?_); refine box_event ?hg (N := 4) ?hd (cs := #[.float .f64 a1_0, .float .f64 a1_1]) (t := 32) ?hr ?_; (case hd => rfl); (case hg => rfl); (case hr => ((go_simp; done))); intro gb167 hg w37 hbox hb; have n0_ := Aside0.mk (blk_below (g := gb166) (o := .cells #[.float .f64 a0_0, .float .f64 a0_1] 32 (0, 0)) (by (with_reducible repeat (fail)); exact BK166.out) hb); have n1_ := Aside0.mk (below_step (by repeat (((with_reducible (exact HB.out))))) hb); have n2_ := Aside0.mk (hbox); have n3_ := Aside0.mk ((by rw [hg]; exact (below_size (by repeat (((with_reducible (exact HB.out)))))) : w.heap.size ≤ gb167)); have n4_ := Aside0.mk ((by rw [hg]; exact (below_size (by repeat (((with_reducible (exact HB.out)))))) : w.heap.size ≤ gb167)); have n5_ := Aside0.mk ((by rw [hg]; exact Nat.ne_of_lt (blk_lt (g := gb166) (o := .cells #[.float .f64 a0_0, .float .f64 a0_1] 32 (0, 0)) (by (with_reducible repeat (fail)); exact BK166.out)) : gb166 ≠ gb167)); have n6_ := Aside0.mk ((by rw [hg]; exact Nat.ne_of_gt (blk_lt (g := gb166) (o := .cells #[.float .f64 a0_0, .float .f64 a0_1] 32 (0, 0)) (by (with_reducible repeat (fail)); exact BK166.out)) : gb167 ≠ gb166)); clear BK166; clear HB; have BK166 := n0_; have HB := n1_; have BK167 := n2_; have GW167 := n3_; have GE167 := n4_; have NB166_167 := n5_; have NB167_166 := n6_; clear n0_ n1_ n2_ n3_ n4_ n5_ n6_; clear hb hbox hg)| ((with_reducible refine gate_dst (N := 5) rfl ?_); refine box_event ?hg (N := 5) ?hd (cs := #[.float .f64 a2_0, .float .f64 a2_1]) (t := 32) ?hr ?_; (case hd => rfl); (case hg => rfl); (case hr => ((go_simp; done))); intro gb168 hg w38 hbox hb; have n0_ := Aside0.mk (blk_below (g := gb166) (o := .cells #[.float .f64 a0_0, .float .f64 a0_1] 32 (0, 0)) (by (with_reducible repeat (fail)); exact BK166.out) hb); have n1_ := Aside0.mk (blk_below (g := gb167) (o := .cells #[.float .f64 a1_0, .float .f64 a1_1] 32 (0, 0)) (by (with_reducible repeat (fail)); exact BK167.out) hb); have n2_ := Aside0.mk (below_step (by repeat (((with_reducible (exact HB.out))))) hb); have n3_ := Aside0.mk (hbox); have n4_ := Aside0.mk ((by rw [hg]; exact (below_size (by repeat (((with_reducible (exact HB.out)))))) : w.heap.size ≤ gb168)); have n5_ := Aside0.mk ((by rw [hg]; exact (below_size (by repeat (((with_reducible (exact HB.out)))))) : w.heap.size ≤ gb168)); have n6_ := Aside0.mk ((by rw [hg]; exact Nat.ne_of_lt (blk_lt (g := gb166) (o := .cells #[.float .f64 a0_0, .float .f64 a0_1] 32 (0, 0)) (by (with_reducible repeat (fail)); exact BK166.out)) : gb166 ≠ gb168)); have n7_ := Aside0.mk ((by rw [hg]; exact Nat.ne_of_gt (blk_lt (g := gb166) (o := .cells #[.float .f64 a0_0, .float .f64 a0_1] 32 (0, 0)) (by (with_reducible repeat (fail)); exact BK166.out)) : gb168 ≠ gb166)); have n8_ := Aside0.mk ((by rw [hg]; exact Nat.ne_of_lt (blk_lt (g := gb167) (o := .cells #[.float .f64 a1_0, .float .f64 a1_1] 32 (0, 0)) (by (with_reducible repeat (fail)); exact BK167.out)) : gb167 ≠ gb168)); have n9_ := Aside0.mk ((by rw [hg]; exact Nat.ne_of_gt (blk_lt (g := gb167) (o := .cells #[.float .f64 a1_0, .float .f64 a1_1] 32 (0, 0)) (by (with_reducible repeat (fail)); exact BK167.out)) : gb168 ≠ gb167)); clear BK166; clear BK167; clear HB; have BK166 := n0_; have BK167 := n1_; have HB := n2_; have BK168 := n3_; have GW168 := n4_; have GE168 := n5_; have NB166_168 := n6_; have NB168_166 := n7_; have NB167_168 := n8_; have NB168_167 := n9_; clear n0_ n1_ n2_ n3_ n4_ n5_ n6_ n7_ n8_ n9_; clear hb hbox hg; have hnb39 := NB166_167.out; have hnc39 := NB167_166.out; have hnb40 := NB166_168.out; have hnc40 := NB168_166.out; have hcz41_0 : w38.cell? ⟨gb166, 0, none⟩ = some (.float .f64 a0_0) := (blk_cell BK166.out 0).trans rfl; have hcz41_1 : w38.cell? ⟨gb166, 1, none⟩ = some (.float .f64 a0_1) := (blk_cell BK166.out 1).trans rfl; have hfz41_0 := blk_frozen BK166.out 0; have hfz41_1 := blk_frozen BK166.out 1; have hnb42 := NB167_168.out; have hnc42 := NB168_167.out; have hcz43_0 : w38.cell? ⟨gb167, 0, none⟩ = some (.float .f64 a1_0) := (blk_cell BK167.out 0).trans rfl; have hcz43_1 : w38.cell? ⟨gb167, 1, none⟩ = some (.float .f64 a1_1) := (blk_cell BK167.out 1).trans rfl; have hfz43_0 := blk_frozen BK167.out 0; have hfz43_1 := blk_frozen BK167.out 1; have hcz44_0 : w38.cell? ⟨gb168, 0, none⟩ = some (.float .f64 a2_0) := (blk_cell BK168.out 0).trans rfl; have hcz44_1 : w38.cell? ⟨gb168, 1, none⟩ = some (.float .f64 a2_1) := (blk_cell BK168.out 1).trans rfl; have hfz44_0 := blk_frozen BK168.out 0; have hfz44_1 := blk_frozen BK168.out 1)| ((with_reducible refine gate_dst (N := 15) rfl ?_); refine Kd.R_lit k32 _ 32 ?hg (N := 15) ?hd (xs := ([(⟨a0_0, a0_1⟩ : S32), (⟨a1_0, a1_1⟩ : S32), (⟨a2_0, a2_1⟩ : S32)] : List (S32))) (inner := [.float .f64 a0_0, .float .f64 a0_1, .float .f64 a1_0, .float .f64 a1_1, .float .f64 a2_0, .float .f64 a2_1]) (ok := fun _ => True) (okp := fun _ => True) ?hr ?hp (fun _ hk => hk) trivial (Below.refl _ _) (Nat.le_refl _) (by simp) ?_; (case hd => rfl); (case hg => rfl); (case hr => ((go_simp; done))); (case hp => exact (Reps.c2 (show Kd.M k32 _ _ _ (⟨a0_0, a0_1⟩ : S32) [.float .f64 a0_0, .float .f64 a0_1] from (k32_mkM _ _ _ (⟨a0_0, a0_1⟩ : S32) )) (Reps.c2 (show Kd.M k32 _ _ _ (⟨a1_0, a1_1⟩ : S32) [.float .f64 a1_0, .float .f64 a1_1] from (k32_mkM _ _ _ (⟨a1_0, a1_1⟩ : S32) )) (Reps.c2 (show Kd.M k32 _ _ _ (⟨a2_0, a2_1⟩ : S32) [.float .f64 a2_0, .float .f64 a2_1] from (k32_mkM _ _ _ (⟨a2_0, a2_1⟩ : S32) )) (Reps.none _ _))))); intro v170 w45 ho46 hb hg_ hnew_; clear hg_ hnew_; ((rw [← Ny169.out] at ho46)); have n0_ := Aside0.mk (Kd.R_lower (Kd.R_newB (Kd.R_newB (Kd.R_newB ho46 (g := gb166) (o := .cells #[.float .f64 a0_0, .float .f64 a0_1] 32 (0, 0)) (by (with_reducible repeat (fail)); exact BK166.out)) (g := gb167) (o := .cells #[.float .f64 a1_0, .float .f64 a1_1] 32 (0, 0)) (by (with_reducible repeat (fail)); exact BK167.out)) (g := gb168) (o := .cells #[.float .f64 a2_0, .float .f64 a2_1] 32 (0, 0)) (by (with_reducible repeat (fail)); exact BK168.out)) (below_size (by repeat (((with_reducible (exact HB.out))))))); have n1_ := Aside0.mk (blk_below (g := gb166) (o := .cells #[.float .f64 a0_0, .float .f64 a0_1] 32 (0, 0)) (by (with_reducible repeat (fail)); exact BK166.out) hb); have n2_ := Aside0.mk (blk_below (g := gb167) (o := .cells #[.float .f64 a1_0, .float .f64 a1_1] 32 (0, 0)) (by (with_reducible repeat (fail)); exact BK167.out) hb); have n3_ := Aside0.mk (blk_below (g := gb168) (o := .cells #[.float .f64 a2_0, .float .f64 a2_1] 32 (0, 0)) (by (with_reducible repeat (fail)); exact BK168.out) hb); have n4_ := Aside0.mk (below_step (by repeat (((with_reducible (exact HB.out))))) hb); clear BK166; clear BK167; clear BK168; clear HB; have HO171 := n0_; have BK166 := n1_; have BK167 := n2_; have BK168 := n3_; have HB := n4_; clear n0_ n1_ n2_ n3_ n4_; clear hb ho46; obtain ⟨Ao47, co47, eo47⟩ := Kd.R_slice HO171.out; subst eo47)| ((with_reducible refine gate_callee (f := 57) rfl ?_); refine goesL_ (some 16) rfl rfl Tryz.func57 (by kernel_rfl) rfl #[.slice Ao47 y169.length co47] rfl (by (try simp only [List.map_toArray, List.map_cons, List.map_nil]); (rfl)) ?_; (with_reducible refine (orient_may.calls k _ _ y169 true _ ?side1 ?side2 A4.out).mono ?_); (case side1 => repeat ((exact (Kd.R_reads' HO171.out).2.2))); (case side2 => exact (Kd.R_reads' HO171.out).2.1); rintro e w48 ⟨rfl, hb⟩; refine ⟨_, rfl, ?_⟩; have n0_ := Aside0.mk (Kd.R_below (by (with_reducible repeat (fail)); exact HO171.out) hb); have n1_ := Aside0.mk (blk_below (g := gb166) (o := .cells #[.float .f64 a0_0, .float .f64 a0_1] 32 (0, 0)) (by (with_reducible repeat (fail)); exact BK166.out) hb); have n2_ := Aside0.mk (blk_below (g := gb167) (o := .cells #[.float .f64 a1_0, .float .f64 a1_1] 32 (0, 0)) (by (with_reducible repeat (fail)); exact BK167.out) hb); have n3_ := Aside0.mk (blk_below (g := gb168) (o := .cells #[.float .f64 a2_0, .float .f64 a2_1] 32 (0, 0)) (by (with_reducible repeat (fail)); exact BK168.out) hb); have n4_ := Aside0.mk (below_step (by repeat (((with_reducible (exact HB.out))))) hb); clear HO171; clear BK166; clear BK167; clear BK168; clear HB; have HO171 := n0_; have BK166 := n1_; have BK167 := n2_; have BK168 := n3_; have HB := n4_; clear n0_ n1_ n2_ n3_ n4_; (try clear hb); (try clear hb2); (try clear hk); (try clear hi); have hcz49_0 : w48.cell? ⟨gb167, 0, none⟩ = some (.float .f64 a1_0) := (blk_cell BK167.out 0).trans rfl; have hcz49_1 : w48.cell? ⟨gb167, 1, none⟩ = some (.float .f64 a1_1) := (blk_cell BK167.out 1).trans rfl; have hfz49_0 := blk_frozen BK167.out 0; have hfz49_1 := blk_frozen BK167.out 1; have hcz50_0 : w48.cell? ⟨gb166, 0, none⟩ = some (.float .f64 a0_0) := (blk_cell BK166.out 0).trans rfl; have hcz50_1 : w48.cell? ⟨gb166, 1, none⟩ = some (.float .f64 a0_1) := (blk_cell BK166.out 1).trans rfl; have hfz50_0 := blk_frozen BK166.out 0; have hfz50_1 := blk_frozen BK166.out 1; have hcz51_0 : w48.cell? ⟨gb168, 0, none⟩ = some (.float .f64 a2_0) := (blk_cell BK168.out 0).trans rfl; have hcz51_1 : w48.cell? ⟨gb168, 1, none⟩ = some (.float .f64 a2_1) := (blk_cell BK168.out 1).trans rfl; have hfz51_0 := blk_frozen BK168.out 0; have hfz51_1 := blk_frozen BK168.out 1)| ((with_reducible refine gate_callee (f := 76) rfl ?_); refine goesL_ (some 44) rfl rfl Tryz.func76 (by kernel_rfl) rfl #[.float .f64 t175] rfl (by (try simp only [List.map_toArray, List.map_cons, List.map_nil]); (rfl)) ?_; (with_reducible refine (math_Abs.calls t175 t180 _ A13.out).mono ?_); rintro e w' ⟨rfl, ⟨nd, rfl⟩⟩; refine ⟨_, rfl, ?_⟩)| ((with_reducible refine gate_callee (f := 76) rfl ?_); refine goesL_ (some 46) rfl rfl Tryz.func76 (by kernel_rfl) rfl #[.float .f64 t178] rfl (by (try simp only [List.map_toArray, List.map_cons, List.map_nil]); (rfl)) ?_; (with_reducible refine (math_Abs.calls t178 t181 _ A14.out).mono ?_); rintro e w' ⟨rfl, ⟨nd, rfl⟩⟩; refine ⟨_, rfl, ?_⟩)| ((with_reducible refine gate_callee (f := 76) rfl ?_); refine goesL_ (some 50) rfl rfl Tryz.func76 (by kernel_rfl) rfl #[.float .f64 t179] rfl (by (try simp only [List.map_toArray, List.map_cons, List.map_nil]); (rfl)) ?_; (with_reducible refine (math_Abs.calls t179 t184 _ A17.out).mono ?_); rintro e w' ⟨rfl, ⟨nd, rfl⟩⟩; refine ⟨_, rfl, ?_⟩) )
      go_ret2
      exact ⟨by (rfl), by repeat (((with_reducible first | exact HB.out| apply pw_below_drewN )))⟩
  · replace c5 := Bool.eq_false_iff.mpr c5
    subst c5
    have H1 : (some (0, false)) = some (r1, r2) := by rw [if_neg (show ¬ (false = true) by decide)] at H; exact H
    clear H
    have H := H1
    clear H1
    simp only [Option.some.injEq, Prod.mk.injEq] at H
    obtain ⟨rfl, rfl⟩ := H
    go_enter Tryz.func56, Tryz.ntmps56
    go_wp2_with (first | ((with_reducible refine gate_dst (N := 3) rfl ?_); refine box_event ?hg (N := 3) ?hd (cs := #[.float .f64 a0_0, .float .f64 a0_1]) (t := 32) ?hr ?_; (case hd => rfl); (case hg => rfl); (case hr => ((go_simp; done))); intro gb166 hg w52 hbox hb; have n0_ := Aside0.mk (below_step (by repeat (((with_reducible (exact HB.out))))) hb); have n1_ := Aside0.mk (hbox); have n2_ := Aside0.mk ((by rw [hg]; exact (below_size (by repeat (((with_reducible (exact HB.out)))))) : w.heap.size ≤ gb166)); have n3_ := Aside0.mk ((by rw [hg]; exact (below_size (by repeat (((with_reducible (exact HB.out)))))) : w.heap.size ≤ gb166)); clear HB; have HB := n0_; have BK166 := n1_; have GW166 := n2_; have GE166 := n3_; clear n0_ n1_ n2_ n3_; clear hb hbox hg)| ((with_reducible refine gate_dst (N := 4) rfl ?_); refine box_event ?hg (N := 4) ?hd (cs := #[.float .f64 a1_0, .float .f64 a1_1]) (t := 32) ?hr ?_; (case hd => rfl); (case hg => rfl); (case hr => ((go_simp; done))); intro gb167 hg w53 hbox hb; have n0_ := Aside0.mk (blk_below (g := gb166) (o := .cells #[.float .f64 a0_0, .float .f64 a0_1] 32 (0, 0)) (by (with_reducible repeat (fail)); exact BK166.out) hb); have n1_ := Aside0.mk (below_step (by repeat (((with_reducible (exact HB.out))))) hb); have n2_ := Aside0.mk (hbox); have n3_ := Aside0.mk ((by rw [hg]; exact (below_size (by repeat (((with_reducible (exact HB.out)))))) : w.heap.size ≤ gb167)); have n4_ := Aside0.mk ((by rw [hg]; exact (below_size (by repeat (((with_reducible (exact HB.out)))))) : w.heap.size ≤ gb167)); have n5_ := Aside0.mk ((by rw [hg]; exact Nat.ne_of_lt (blk_lt (g := gb166) (o := .cells #[.float .f64 a0_0, .float .f64 a0_1] 32 (0, 0)) (by (with_reducible repeat (fail)); exact BK166.out)) : gb166 ≠ gb167)); have n6_ := Aside0.mk ((by rw [hg]; exact Nat.ne_of_gt (blk_lt (g := gb166) (o := .cells #[.float .f64 a0_0, .float .f64 a0_1] 32 (0, 0)) (by (with_reducible repeat (fail)); exact BK166.out)) : gb167 ≠ gb166)); clear BK166; clear HB; have BK166 := n0_; have HB := n1_; have BK167 := n2_; have GW167 := n3_; have GE167 := n4_; have NB166_167 := n5_; have NB167_166 := n6_; clear n0_ n1_ n2_ n3_ n4_ n5_ n6_; clear hb hbox hg)| ((with_reducible refine gate_dst (N := 5) rfl ?_); refine box_event ?hg (N := 5) ?hd (cs := #[.float .f64 a2_0, .float .f64 a2_1]) (t := 32) ?hr ?_; (case hd => rfl); (case hg => rfl); (case hr => ((go_simp; done))); intro gb168 hg w54 hbox hb; have n0_ := Aside0.mk (blk_below (g := gb166) (o := .cells #[.float .f64 a0_0, .float .f64 a0_1] 32 (0, 0)) (by (with_reducible repeat (fail)); exact BK166.out) hb); have n1_ := Aside0.mk (blk_below (g := gb167) (o := .cells #[.float .f64 a1_0, .float .f64 a1_1] 32 (0, 0)) (by (with_reducible repeat (fail)); exact BK167.out) hb); have n2_ := Aside0.mk (below_step (by repeat (((with_reducible (exact HB.out))))) hb); have n3_ := Aside0.mk (hbox); have n4_ := Aside0.mk ((by rw [hg]; exact (below_size (by repeat (((with_reducible (exact HB.out)))))) : w.heap.size ≤ gb168)); have n5_ := Aside0.mk ((by rw [hg]; exact (below_size (by repeat (((with_reducible (exact HB.out)))))) : w.heap.size ≤ gb168)); have n6_ := Aside0.mk ((by rw [hg]; exact Nat.ne_of_lt (blk_lt (g := gb166) (o := .cells #[.float .f64 a0_0, .float .f64 a0_1] 32 (0, 0)) (by (with_reducible repeat (fail)); exact BK166.out)) : gb166 ≠ gb168)); have n7_ := Aside0.mk ((by rw [hg]; exact Nat.ne_of_gt (blk_lt (g := gb166) (o := .cells #[.float .f64 a0_0, .float .f64 a0_1] 32 (0, 0)) (by (with_reducible repeat (fail)); exact BK166.out)) : gb168 ≠ gb166)); have n8_ := Aside0.mk ((by rw [hg]; exact Nat.ne_of_lt (blk_lt (g := gb167) (o := .cells #[.float .f64 a1_0, .float .f64 a1_1] 32 (0, 0)) (by (with_reducible repeat (fail)); exact BK167.out)) : gb167 ≠ gb168)); have n9_ := Aside0.mk ((by rw [hg]; exact Nat.ne_of_gt (blk_lt (g := gb167) (o := .cells #[.float .f64 a1_0, .float .f64 a1_1] 32 (0, 0)) (by (with_reducible repeat (fail)); exact BK167.out)) : gb168 ≠ gb167)); clear BK166; clear BK167; clear HB; have BK166 := n0_; have BK167 := n1_; have HB := n2_; have BK168 := n3_; have GW168 := n4_; have GE168 := n5_; have NB166_168 := n6_; have NB168_166 := n7_; have NB167_168 := n8_; have NB168_167 := n9_; clear n0_ n1_ n2_ n3_ n4_ n5_ n6_ n7_ n8_ n9_; clear hb hbox hg; have hnb55 := NB166_167.out; have hnc55 := NB167_166.out; have hnb56 := NB166_168.out; have hnc56 := NB168_166.out; have hcz57_0 : w54.cell? ⟨gb166, 0, none⟩ = some (.float .f64 a0_0) := (blk_cell BK166.out 0).trans rfl; have hcz57_1 : w54.cell? ⟨gb166, 1, none⟩ = some (.float .f64 a0_1) := (blk_cell BK166.out 1).trans rfl; have hfz57_0 := blk_frozen BK166.out 0; have hfz57_1 := blk_frozen BK166.out 1; have hnb58 := NB167_168.out; have hnc58 := NB168_167.out; have hcz59_0 : w54.cell? ⟨gb167, 0, none⟩ = some (.float .f64 a1_0) := (blk_cell BK167.out 0).trans rfl; have hcz59_1 : w54.cell? ⟨gb167, 1, none⟩ = some (.float .f64 a1_1) := (blk_cell BK167.out 1).trans rfl; have hfz59_0 := blk_frozen BK167.out 0; have hfz59_1 := blk_frozen BK167.out 1; have hcz60_0 : w54.cell? ⟨gb168, 0, none⟩ = some (.float .f64 a2_0) := (blk_cell BK168.out 0).trans rfl; have hcz60_1 : w54.cell? ⟨gb168, 1, none⟩ = some (.float .f64 a2_1) := (blk_cell BK168.out 1).trans rfl; have hfz60_0 := blk_frozen BK168.out 0; have hfz60_1 := blk_frozen BK168.out 1)| ((with_reducible refine gate_dst (N := 15) rfl ?_); refine Kd.R_lit k32 _ 32 ?hg (N := 15) ?hd (xs := ([(⟨a0_0, a0_1⟩ : S32), (⟨a1_0, a1_1⟩ : S32), (⟨a2_0, a2_1⟩ : S32)] : List (S32))) (inner := [.float .f64 a0_0, .float .f64 a0_1, .float .f64 a1_0, .float .f64 a1_1, .float .f64 a2_0, .float .f64 a2_1]) (ok := fun _ => True) (okp := fun _ => True) ?hr ?hp (fun _ hk => hk) trivial (Below.refl _ _) (Nat.le_refl _) (by simp) ?_; (case hd => rfl); (case hg => rfl); (case hr => ((go_simp; done))); (case hp => exact (Reps.c2 (show Kd.M k32 _ _ _ (⟨a0_0, a0_1⟩ : S32) [.float .f64 a0_0, .float .f64 a0_1] from (k32_mkM _ _ _ (⟨a0_0, a0_1⟩ : S32) )) (Reps.c2 (show Kd.M k32 _ _ _ (⟨a1_0, a1_1⟩ : S32) [.float .f64 a1_0, .float .f64 a1_1] from (k32_mkM _ _ _ (⟨a1_0, a1_1⟩ : S32) )) (Reps.c2 (show Kd.M k32 _ _ _ (⟨a2_0, a2_1⟩ : S32) [.float .f64 a2_0, .float .f64 a2_1] from (k32_mkM _ _ _ (⟨a2_0, a2_1⟩ : S32) )) (Reps.none _ _))))); intro v170 w61 ho62 hb hg_ hnew_; clear hg_ hnew_; ((rw [← Ny169.out] at ho62)); have n0_ := Aside0.mk (Kd.R_lower (Kd.R_newB (Kd.R_newB (Kd.R_newB ho62 (g := gb166) (o := .cells #[.float .f64 a0_0, .float .f64 a0_1] 32 (0, 0)) (by (with_reducible repeat (fail)); exact BK166.out)) (g := gb167) (o := .cells #[.float .f64 a1_0, .float .f64 a1_1] 32 (0, 0)) (by (with_reducible repeat (fail)); exact BK167.out)) (g := gb168) (o := .cells #[.float .f64 a2_0, .float .f64 a2_1] 32 (0, 0)) (by (with_reducible repeat (fail)); exact BK168.out)) (below_size (by repeat (((with_reducible (exact HB.out))))))); have n1_ := Aside0.mk (blk_below (g := gb166) (o := .cells #[.float .f64 a0_0, .float .f64 a0_1] 32 (0, 0)) (by (with_reducible repeat (fail)); exact BK166.out) hb); have n2_ := Aside0.mk (blk_below (g := gb167) (o := .cells #[.float .f64 a1_0, .float .f64 a1_1] 32 (0, 0)) (by (with_reducible repeat (fail)); exact BK167.out) hb); have n3_ := Aside0.mk (blk_below (g := gb168) (o := .cells #[.float .f64 a2_0, .float .f64 a2_1] 32 (0, 0)) (by (with_reducible repeat (fail)); exact BK168.out) hb); have n4_ := Aside0.mk (below_step (by repeat (((with_reducible (exact HB.out))))) hb); clear BK166; clear BK167; clear BK168; clear HB; have HO171 := n0_; have BK166 := n1_; have BK167 := n2_; have BK168 := n3_; have HB := n4_; clear n0_ n1_ n2_ n3_ n4_; clear hb ho62; obtain ⟨Ao63, co63, eo63⟩ := Kd.R_slice HO171.out; subst eo63)| ((with_reducible refine gate_callee (f := 57) rfl ?_); refine goesL_ (some 16) rfl rfl Tryz.func57 (by kernel_rfl) rfl #[.slice Ao63 y169.length co63] rfl (by (try simp only [List.map_toArray, List.map_cons, List.map_nil]); (rfl)) ?_; (with_reducible refine (orient_may.calls k _ _ y169 false _ ?side1 ?side2 A4.out).mono ?_); (case side1 => repeat ((exact (Kd.R_reads' HO171.out).2.2))); (case side2 => exact (Kd.R_reads' HO171.out).2.1); rintro e w64 ⟨rfl, hb⟩; refine ⟨_, rfl, ?_⟩; have n0_ := Aside0.mk (Kd.R_below (by (with_reducible repeat (fail)); exact HO171.out) hb); have n1_ := Aside0.mk (blk_below (g := gb166) (o := .cells #[.float .f64 a0_0, .float .f64 a0_1] 32 (0, 0)) (by (with_reducible repeat (fail)); exact BK166.out) hb); have n2_ := Aside0.mk (blk_below (g := gb167) (o := .cells #[.float .f64 a1_0, .float .f64 a1_1] 32 (0, 0)) (by (with_reducible repeat (fail)); exact BK167.out) hb); have n3_ := Aside0.mk (blk_below (g := gb168) (o := .cells #[.float .f64 a2_0, .float .f64 a2_1] 32 (0, 0)) (by (with_reducible repeat (fail)); exact BK168.out) hb); have n4_ := Aside0.mk (below_step (by repeat (((with_reducible (exact HB.out))))) hb); clear HO171; clear BK166; clear BK167; clear BK168; clear HB; have HO171 := n0_; have BK166 := n1_; have BK167 := n2_; have BK168 := n3_; have HB := n4_; clear n0_ n1_ n2_ n3_ n4_; (try clear hb); (try clear hb2); (try clear hk); (try clear hi)) )
    go_ret2
    exact ⟨by (rfl), by repeat (((with_reducible (exact HB.out))))⟩
def orient_exactly_1.l0 : Nat → List Nat → List Nat → Int → Int → Option (List Nat)
  | 0, _, _, _, _ => none
  | k + 1, x7, x18, x19, x20 => if x20 < x19 then (if 0 ≤ x20 then (if x20 < (x18.length : Int) then (if (FloatKind.f64.format.order (rdOf (0 : Nat) x18 x20) 0 != some .eq) = true then (if x7.length < 17592186044416 then (orient_exactly_1.l0 k (x7 ++ [rdOf (0 : Nat) x18 x20]) x18 x19 (wrap64 (x20 + 1))) else (none)) else (orient_exactly_1.l0 k x7 x18 x19 (wrap64 (x20 + 1)))) else (none)) else (none)) else (some x7)
def orient_exactly_1.f (k : Nat) (a0 : Nat) (a1 : Nat) : Option (List Nat) := (eft_Diff.f a0 a1).bind fun bt186 => ((some (([bt186.2, bt186.1] : List Nat) : List Nat)).bind fun y188 => (orient_exactly_1.l0 k ([] : List Nat) y188 (y188.length : Int) 0))
set_option maxHeartbeats 8000000 in
set_option maxRecDepth 100000 in
theorem orient_exactly_1.calls (k : Nat) (a0 : Nat) (a1 : Nat) (r : List Nat) (w : World) (h : orient_exactly_1.f k a0 a1 = some r) :
    Calls Tryz.prog 79 #[.float .f64 a0, .float .f64 a1] w fun e w' => ∃ v0_ : Value, e = .returned (v0_) ∧ Kd.R Kd.f64 30 w' w.heap.size (fun _ => True) v0_ r ∧ Below w.heap.size w w' := by
  have HB := Aside0.mk (Below.refl w.heap.size w)
  have H : ((eft_Diff.f a0 a1).bind fun bt186 => ((some (([bt186.2, bt186.1] : List Nat) : List Nat)).bind fun y188 => (orient_exactly_1.l0 k ([] : List Nat) y188 (y188.length : Int) 0))) = some r := h
  clear h
  replace H := Option.bind_eq_some_iff.mp H
  obtain ⟨⟨t186, t187⟩, A30, H⟩ := H
  replace H : ((some (([t187, t186] : List Nat) : List Nat)).bind fun y188 => (orient_exactly_1.l0 k ([] : List Nat) y188 (y188.length : Int) 0)) = some r := H
  have A3 := Aside0.mk A30
  clear A30
  obtain ⟨y188, hy188⟩ : ∃ y_ : List Nat, y_ = (([t187, t186] : List Nat)) := ⟨_, rfl⟩
  replace H : (orient_exactly_1.l0 k ([] : List Nat) y188 (y188.length : Int) 0) = some r := by ((have H2_ := (Option.bind_some _ _).symm.trans H; rw [hy188]; with_reducible exact H2_))
  have Ny188 := Aside0.mk hy188
  clear hy188
  have H' := Aside0.mk H
  clear H
  go_enter Tryz.func79, Tryz.ntmps79
  go_wp2_with (first | ((with_reducible refine gate_callee (f := 80) rfl ?_); refine goesL_ (some 13) rfl rfl Tryz.func80 (by kernel_rfl) rfl #[.float .f64 a0, .float .f64 a1] rfl (by (try simp only [List.map_toArray, List.map_cons, List.map_nil]); (rfl)) ?_; (with_reducible refine (eft_Diff.calls a0 a1 t186 t187 _ A3.out).mono ?_); rintro e w4 ⟨rfl, hb⟩; refine ⟨_, rfl, ?_⟩; have n0_ := Aside0.mk (below_step (by repeat (((with_reducible (exact HB.out))))) hb); clear HB; have HB := n0_; clear n0_; (try clear hb); (try clear hb2); (try clear hk); (try clear hi))| ((with_reducible refine gate_dst (N := 18) rfl ?_); refine Kd.R_lit Kd.f64 _ 30 ?hg (N := 18) ?hd (xs := ([t187, t186] : List Nat)) (inner := [.float .f64 t187, .float .f64 t186]) (ok := fun _ => True) (okp := fun _ => True) ?hr ?hp (fun _ hk => hk) trivial (Below.refl _ _) (Nat.le_refl _) (by simp) ?_; (case hd => rfl); (case hg => rfl); (case hr => ((go_simp; done))); (case hp => exact (Reps.one (show Kd.M Kd.f64 _ _ _ t187 [.float .f64 t187] from rfl) (Reps.one (show Kd.M Kd.f64 _ _ _ t186 [.float .f64 t186] from rfl) (Reps.none _ _)))); intro v189 w5 ho6 hb hg_ hnew_; clear hg_ hnew_; ((rw [← Ny188.out] at ho6)); have n0_ := Aside0.mk (Kd.R_lower ho6 (below_size (by repeat (((with_reducible (exact HB.out))))))); have n1_ := Aside0.mk (below_step (by repeat (((with_reducible (exact HB.out))))) hb); clear HB; have HO190 := n0_; have HB := n1_; clear n0_ n1_; clear hb ho6; obtain ⟨Ao7, co7, eo7⟩ := Kd.R_slice HO190.out; subst eo7) )
  go_loopg [7, 20] k (fun kq v7 v20 w' => ∃ (x7_1 : List Nat) (x20_1 : Int), v20 = .int .i64 x20_1 ∧ Aside0 (orient_exactly_1.l0 kq x7_1 y188 (y188.length : Int) x20_1 = some r) ∧ Aside0 (kq ≤ k) ∧ Aside0 (Kd.R Kd.f64 30 w' w.heap.size (fun k_ => some k_ ≠ ((.slice Ao7 y188.length co7) : Value).ownBlock) v7 x7_1) ∧ Aside0 (Kd.R Kd.f64 30 w' w.heap.size (fun k_ => some k_ ≠ (v7 : Value).ownBlock) (.slice Ao7 y188.length co7) y188) ∧ Aside0 (Below w.heap.size w w'))
  case atStart => exact ⟨(([] : List Nat)), (0), (by (rfl)), H', ⟨Nat.le_refl _⟩, ⟨by (exact Kd.R_nil _ _ _ _ _)⟩, ⟨by (with_reducible repeat (fail)); exact Kd.R_mono HO190.out (fun _ hk => (by simp [Value.ownBlock]))⟩, ⟨by repeat (((with_reducible (exact HB.out))))⟩⟩
  case round =>
    clear H'
    try clear p2
    try clear c7
    obtain ⟨x7_1, x20_1, rfl, HA, HK1, HO_7, HO_18, HB⟩ := hrel
    cases gk with
    | zero => exact absurd HA.out (by simp [orient_exactly_1.l0])
    | succ k1 =>
      have H := HA.out
      clear HA
      simp only [orient_exactly_1.l0] at H
      by_cases c8 : x20_1 < (y188.length : Int)
      · rw [if_pos c8] at H
        have c8b0 : decide (x20_1 < (y188.length : Int)) = true := decide_eq_true c8
        clear c8
        by_cases c9 : 0 ≤ x20_1
        · rw [if_pos c9] at H
          have c9b0 : decide (0 ≤ x20_1) = true := decide_eq_true c9
          clear c9
          by_cases c10 : x20_1 < (y188.length : Int)
          · rw [if_pos c10] at H
            have c10b0 : decide (x20_1 < (y188.length : Int)) = true := decide_eq_true c10
            clear c10
            by_cases c11 : (FloatKind.f64.format.order (rdOf (0 : Nat) y188 x20_1) 0 != some .eq) = true
            · rw [if_pos c11] at H
              have c11b0 : (FloatKind.f64.format.order (rdOf (0 : Nat) y188 x20_1) 0 != some .eq) = true := c11
              (try (have c11b1 : decide (FloatKind.f64.format.order (rdOf (0 : Nat) y188 x20_1) 0 = some .eq) = false := by simpa using c11))
              (try (have c11b2 : (FloatKind.f64.format.order (rdOf (0 : Nat) y188 x20_1) 0 == some .eq) = false := by simpa using c11))
              (try (have c11b3 : ¬ (FloatKind.f64.format.order (rdOf (0 : Nat) y188 x20_1) 0 = some .eq) := by simpa using c11))
              clear c11
              by_cases c12 : x7_1.length < 17592186044416
              · rw [if_pos c12] at H
                have LMc12 := Aside0.mk c12
                clear c12
                obtain ⟨y192, hy192⟩ : ∃ y_ : List Nat, y_ = (x7_1 ++ [rdOf (0 : Nat) y188 x20_1]) := ⟨_, rfl⟩
                replace H : (orient_exactly_1.l0 k1 y192 y188 (y188.length : Int) (wrap64 (x20_1 + 1))) = some r := by ((rw [hy192]; with_reducible exact H))
                have Ny192 := Aside0.mk hy192
                clear hy192
                have H' := Aside0.mk H
                clear H
                have p191 : 0 ≤ (x20_1 : Int) := of_decide_eq_true (by ((with_reducible assumption)))
                have q191 : x20_1 < (y188.length : Int) := of_decide_eq_true (by ((with_reducible assumption)))
                obtain ⟨ad191, e191, hx191_0⟩ := Kd.at_f64 (Kd.R_reads' HO_18.out).2.2 x20_1 p191 q191
                cases e191
                replace p191 := eq_true p191
                replace q191 := eq_true q191
                go_wp2_with ((((with_reducible refine gate_builtin (b := .append) (xs := #[.tmp 26, .tmp 28]) rfl ?_); at_builtin; refine Kd.R_append Kd.f64 (w0 := w) w.heap.size rfl (.tmp 26) (.tmp 28) 81 30 (.float .f64 0) 8 rfl Tryz.underlying81 info30 rfl (by decide) (by omega) u7 x7_1 (rdOf (0 : Nat) y188 x20_1) [.float .f64 (rdOf (0 : Nat) y188 x20_1)] (fun k_ => some k_ ≠ (.slice (some ad191) y188.length co7 : Value).ownBlock) (fun _ => False) rfl rfl ?aP (fun _ hk => hk.elim) ?aF ?aO ?aB ?aS ?aL ?_; (case aP => exact rfl); (case aB => exact (by repeat (((with_reducible (exact HB.out)))))); (case aF => exact (fun k_ hk => Kd.fresh' (Kd.R_lt (by (with_reducible repeat (fail)); exact HO_18.out)) k_ hk)); (case aO => exact (by (with_reducible repeat (fail)); exact HO_7.out)); (case aS => exact (below_size (by repeat (((with_reducible (exact HB.out))))))); (case aL => have := LMc12.out; omega); intro v193 w13 ho hb hg hat; rw [← Ny192.out] at ho; have n0_ := Aside0.mk (Kd.R_after (ok := (fun _ => True)) (by (with_reducible repeat (fail)); exact Kd.R_mono HO_18.out (fun _ hk => ⟨trivial, hk⟩)) hg hat); have n1_ := Aside0.mk (hb); have n2_ := Aside0.mk (ho); clear HO_18; clear HB; clear HO_7; have HO_18 := n0_; have HB := n1_; have HO194 := n2_; clear n0_ n1_ n2_; clear ho hb hg hat)))
                go_roundg k1
                case measure => have := HK1.out; omega
                case rel => exact ⟨(y192), (wrap64 (x20_1 + 1)), (by (rfl)), H', ⟨by have := HK1.out; omega⟩, ⟨by (with_reducible repeat (fail)); exact HO194.out⟩, ⟨by (with_reducible repeat (fail)); exact Kd.R_mono HO_18.out (fun _ hk => hk.2)⟩, ⟨by repeat (((with_reducible (exact HB.out))))⟩⟩
              · rw [if_neg c12] at H
                exact absurd H (by simp)
            · rw [if_neg c11] at H
              have c11b0 : (FloatKind.f64.format.order (rdOf (0 : Nat) y188 x20_1) 0 != some .eq) = false := by simpa using c11
              (try (have c11b1 : decide (FloatKind.f64.format.order (rdOf (0 : Nat) y188 x20_1) 0 = some .eq) = true := by simpa using c11))
              (try (have c11b2 : (FloatKind.f64.format.order (rdOf (0 : Nat) y188 x20_1) 0 == some .eq) = true := by simpa using c11))
              clear c11
              have H' := Aside0.mk H
              clear H
              have p191 : 0 ≤ (x20_1 : Int) := of_decide_eq_true (by ((with_reducible assumption)))
              have q191 : x20_1 < (y188.length : Int) := of_decide_eq_true (by ((with_reducible assumption)))
              obtain ⟨ad191, e191, hx191_0⟩ := Kd.at_f64 (Kd.R_reads' HO_18.out).2.2 x20_1 p191 q191
              cases e191
              replace p191 := eq_true p191
              replace q191 := eq_true q191
              go_wp2
              go_roundg k1
              case measure => have := HK1.out; omega
              case rel => exact ⟨(x7_1), (wrap64 (x20_1 + 1)), (by (rfl)), H', ⟨by have := HK1.out; omega⟩, ⟨by (with_reducible repeat (fail)); exact HO_7.out⟩, ⟨by (with_reducible repeat (fail)); exact HO_18.out⟩, ⟨by repeat (((with_reducible (exact HB.out))))⟩⟩
          · rw [if_neg c10] at H
            exact absurd H (by simp)
        · rw [if_neg c9] at H
          exact absurd H (by simp)
      · rw [if_neg c8] at H
        have c8b0 : decide (x20_1 < (y188.length : Int)) = false := decide_eq_false c8
        clear c8
        obtain rfl := Option.some.inj H
        go_wp2
        go_ret
        exact ⟨_, by (rfl), by (with_reducible repeat (fail)); exact Kd.R_mono HO_7.out (fun _ hk => trivial), by repeat (((with_reducible (exact HB.out))))⟩
end Go.Proofs.YtioahkblhekgpaaGreatDoor.E
