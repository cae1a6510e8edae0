/- What the proof needs of Nwk: only what is used is left (wip/tools/prune.py). Conditions stand in each sentence. -/
import Derived.Test.YtioahkblhekgpaaGreatDoorQKNwj
import Derived.Test.YtioahkblhekgpaaGreatDoorQKCha
set_option linter.unusedVariables false
set_option linter.unusedSimpArgs false
namespace Go.Proofs.YtioahkblhekgpaaGreatDoor.Adm
end Go.Proofs.YtioahkblhekgpaaGreatDoor.Adm
namespace Go.Proofs.YtioahkblhekgpaaGreatDoor.E
end Go.Proofs.YtioahkblhekgpaaGreatDoor.E
namespace Go.Proofs.YtioahkblhekgpaaGreatDoor.FltP
end Go.Proofs.YtioahkblhekgpaaGreatDoor.FltP
namespace Go.Proofs.YtioahkblhekgpaaGreatDoor.NumP
end Go.Proofs.YtioahkblhekgpaaGreatDoor.NumP
namespace Go.Proofs.YtioahkblhekgpaaGreatDoor.O
end Go.Proofs.YtioahkblhekgpaaGreatDoor.O
namespace Go.Proofs.YtioahkblhekgpaaGreatDoor.R
end Go.Proofs.YtioahkblhekgpaaGreatDoor.R
namespace Go.Proofs.YtioahkblhekgpaaGreatDoorW.PrintLast
end Go.Proofs.YtioahkblhekgpaaGreatDoorW.PrintLast
namespace Go.Proofs.YtioahkblhekgpaaGreatDoorW.PrintMore
end Go.Proofs.YtioahkblhekgpaaGreatDoorW.PrintMore
namespace Go.Proofs.YtioahkblhekgpaaGreatDoorW.PrintWords
end Go.Proofs.YtioahkblhekgpaaGreatDoorW.PrintWords
namespace Go.Proofs.YtioahkblhekgpaaGreatDoor.Nw
open Go.RowKit Go.Proofs.YtioahkblhekgpaaGreatDoor.FltP Go.Proofs.YtioahkblhekgpaaGreatDoor.R Go.Proofs.YtioahkblhekgpaaGreatDoor.E Go.Proofs.YtioahkblhekgpaaGreatDoor.O Go.Proofs.YtioahkblhekgpaaGreatDoorW.PrintWords Go.Proofs.YtioahkblhekgpaaGreatDoorW.PrintLast Go.Proofs.YtioahkblhekgpaaGreatDoorW.PrintMore
open Go.Proofs.YtioahkblhekgpaaGreatDoor.NumP Go.Proofs.YtioahkblhekgpaaGreatDoor.Adm
theorem holdS_val (x y : S) : holdS x y = if sgn3 (fval x.f0) (fval y.f0) = 0 then sgn3 (fval x.f1) (fval y.f1) else sgn3 (fval x.f0) (fval y.f0) := rfl
set_option maxRecDepth 100000 in
set_option maxHeartbeats 4000000 in
theorem hold07_call {x y : S} (gx : gp x = true) (gy : gp y = true) (w : World) :
 Calls Tryz.prog 54 #[.agg #[.float .f64 x.f0, .float .f64 x.f1], .agg #[.float .f64 y.f0, .float .f64 y.f1]] w fun e w' => e = .returned (.int .i64 (holdS x y)) ∧ Below w.heap.size w w' := by
 have hu32 := Tryz.underlying32
 have h1 := gp_good gx
 have h2 := gp_good gy
 have a1 := lt_fin h1.1.1 h2.1.1
 have a2 := eq_fin h1.1.1 h2.1.1
 have a3 := lt_fin h1.2.1 h2.2.1
 have a4 := eq_fin h1.2.1 h2.2.1
 have hv := holdS_val x y
 have hB0 := below_alloc (below_alloc (Below.refl w.heap.size w) (.cells #[.float .f64 x.f0, .float .f64 x.f1] 32)) (.cells #[.float .f64 y.f0, .float .f64 y.f1] 32)
 rcases Int.lt_trichotomy (fval x.f0) (fval y.f0) with h | h | h
 ·rw [decide_eq_true h] at a1
  rw [decide_eq_false (by omega)] at a2
  have hr : holdS x y = -1 := by rw [hv, if_neg (fun e => by have := sgn3_lt.2.1.mp e; omega)]; unfold sgn3; rw [if_pos h]
  rw [hr]
  clear hr hv h h1 h2 a3 a4 gx gy
  go_enter Tryz.func54, Tryz.ntmps54
  go_wp2
  go_ret
  exact ⟨rfl, hB0⟩
 ·rw [decide_eq_false (by omega)] at a1
  rw [decide_eq_true h] at a2
  rcases Int.lt_trichotomy (fval x.f1) (fval y.f1) with k | k | k
  ·rw [decide_eq_true k] at a3
   rw [decide_eq_false (by omega)] at a4
   have hr : holdS x y = -1 := by rw [hv, if_pos (sgn3_lt.2.1.mpr h)]; unfold sgn3; rw [if_pos k]
   rw [hr]
   clear hr hv h k h1 h2 gx gy
   go_enter Tryz.func54, Tryz.ntmps54
   go_wp2
   go_ret
   exact ⟨rfl, hB0⟩
  ·rw [decide_eq_false (by omega)] at a3
   rw [decide_eq_true k] at a4
   have hr : holdS x y = 0 := by rw [hv, if_pos (sgn3_lt.2.1.mpr h)]; unfold sgn3; rw [if_neg (by omega), if_neg (by omega)]
   rw [hr]
   clear hr hv h k h1 h2 gx gy
   go_enter Tryz.func54, Tryz.ntmps54
   go_wp2
   go_ret
   exact ⟨rfl, hB0⟩
  ·rw [decide_eq_false (by omega)] at a3
   rw [decide_eq_false (by omega)] at a4
   have hr : holdS x y = 1 := by rw [hv, if_pos (sgn3_lt.2.1.mpr h)]; unfold sgn3; rw [if_neg (by omega), if_pos k]
   rw [hr]
   clear hr hv h k h1 h2 gx gy
   go_enter Tryz.func54, Tryz.ntmps54
   go_wp2
   go_ret
   exact ⟨rfl, hB0⟩
 ·rw [decide_eq_false (by omega)] at a1
  rw [decide_eq_false (by omega)] at a2
  have hr : holdS x y = 1 := by rw [hv, if_neg (fun e => by have := sgn3_lt.2.1.mp e; omega)]; unfold sgn3; rw [if_neg (by omega), if_pos h]
  rw [hr]
  clear hr hv h h1 h2 a3 a4 gx gy
  go_enter Tryz.func54, Tryz.ntmps54
  go_wp2
  go_ret
  exact ⟨rfl, hB0⟩
end Go.Proofs.YtioahkblhekgpaaGreatDoor.Nw
