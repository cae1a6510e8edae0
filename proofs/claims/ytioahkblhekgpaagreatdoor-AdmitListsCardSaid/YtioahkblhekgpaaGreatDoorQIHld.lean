/- What the proof needs of Hld: only what is used is left (wip/tools/prune.py). Conditions stand in each sentence. -/
import Derived.Shelf.SlSortCmp.NoneTotal
import Derived.Deep.RegionHeld3
import Derived.LoopTactic
import Derived.Test.YtioahkblhekgpaaGreatDoorQIR0
import Derived.Test.YtioahkblhekgpaaGreatDoorQIR6
import Derived.Test.YtioahkblhekgpaaGreatDoorQIR7
import Derived.Test.YtioahkblhekgpaaGreatDoorQIR8
import Derived.Test.YtioahkblhekgpaaGreatDoorQILdx
set_option linter.unusedVariables false
set_option linter.unusedSimpArgs false
namespace Go.Proofs.YtioahkblhekgpaaGreatDoor.FltP
end Go.Proofs.YtioahkblhekgpaaGreatDoor.FltP
namespace Go.Proofs.YtioahkblhekgpaaGreatDoor.R
end Go.Proofs.YtioahkblhekgpaaGreatDoor.R
namespace Go.Proofs.YtioahkblhekgpaaGreatDoorW.PrintLast
end Go.Proofs.YtioahkblhekgpaaGreatDoorW.PrintLast
namespace Go.Proofs.YtioahkblhekgpaaGreatDoorW.PrintMore
end Go.Proofs.YtioahkblhekgpaaGreatDoorW.PrintMore
namespace Go.Proofs.YtioahkblhekgpaaGreatDoorW.PrintWords
end Go.Proofs.YtioahkblhekgpaaGreatDoorW.PrintWords
namespace Go.Proofs.YtioahkblhekgpaaGreatDoor.Adm
open Go.RowKit Go.Sort Go.Proofs.YtioahkblhekgpaaGreatDoor.FltP Go.Proofs.YtioahkblhekgpaaGreatDoor.R Go.Proofs.YtioahkblhekgpaaGreatDoorW.PrintWords Go.Proofs.YtioahkblhekgpaaGreatDoorW.PrintLast Go.Proofs.YtioahkblhekgpaaGreatDoorW.PrintMore
structure Gr (w w' : World) : Prop where
  out : ∃ q os, w' = grow (w.drewN q) os
theorem Gr.refl (w : World) : Gr w w := ⟨0, #[], by rw [grow_empty]; rfl⟩
theorem Gr.trans {a b c : World} (h : Gr a b) (k : Gr b c) : Gr a c := by
  obtain ⟨q, os, rfl⟩ := h.out
  obtain ⟨q', os', rfl⟩ := k.out
  exact ⟨q + q', os ++ os', by show grow (grow ((a.drewN q).drewN q') os) os' = _; rw [grow_grow, World.drewN_drewN]⟩
theorem Gr.drew {a b : World} (h : Gr a b) : Gr a b.drew := h.trans ⟨1, #[], by rw [grow_empty]; rfl⟩
theorem Gr.drewN {a b : World} (h : Gr a b) (n : Nat) : Gr a (b.drewN n) := h.trans ⟨n, #[], by rw [grow_empty]⟩
theorem Gr.alloc {a b : World} (h : Gr a b) (o : Obj) : Gr a (b.alloc o) := h.trans ⟨0, #[o], by rw [alloc_eq_grow]; rfl⟩
theorem Gr.below {a b : World} (h : Gr a b) : Below a.heap.size a b := by
  obtain ⟨q, os, rfl⟩ := h.out
  refine ⟨rfl, rfl, rfl, by simp [grow], fun k hk => ?_⟩
  show ((a.drewN q).heap ++ os)[k]? = _
  rw [Array.getElem?_append_left (by exact hk)]; rfl
theorem Gr.of0 {a b : World} (h : Drawn0 a b) : Gr a b := by
  obtain ⟨n, rfl⟩ := h.out
  exact (Gr.refl a).drewN n
theorem Gr.cell {a b : World} {p : Addr} {v : Value} (h : Gr a b) (hc : a.cell? p = some v) : b.cell? p = some v := (h.below.cell (World.block_lt_of_cell? a _ hc)).trans hc
theorem two_row {w : World} {B t : Nat} {x y : Int} (h : w.heap[B]? = some (.cells #[.int .i64 x, .int .i64 y] t (0, 0))) : Kd.C (Kd.int .i64) w (some ⟨B, 0, none⟩) 2 [x, y] := by
  have c0 := (blk_cell h 0).trans (show (#[Value.int .i64 x, Value.int .i64 y] : Array Value)[0]? = some (.int .i64 x) from rfl)
  have c1 := (blk_cell h 1).trans (show (#[Value.int .i64 x, Value.int .i64 y] : Array Value)[1]? = some (.int .i64 y) from rfl)
  refine ⟨rfl, by decide, fun _ => ⟨_, rfl, fun j p hj => ?_⟩⟩
  match j, hj with
  | 0, hj =>
    simp at hj; subst hj
    refine ⟨[.int .i64 x], rfl, rfl, fun i u hi => ?_⟩
    match i, hi with
    | 0, hi => simp at hi; subst hi; exact c0
    | i + 1, hi => simp at hi
  | 1, hj =>
    simp at hj; subst hj
    refine ⟨[.int .i64 y], rfl, rfl, fun i u hi => ?_⟩
    match i, hi with
    | 0, hi => simp at hi; subst hi; exact c1
    | i + 1, hi => simp at hi
  | j + 2, hj => simp at hj
theorem or_two {k : Nat} {t1 t2 r : Int} (h : cmp_Or_int.f k [t1, t2] = some r) (w : World) {o : Obj} (ho : o = .cells #[.int .i64 t1, .int .i64 t2] 3 (0, 0)) :
    Calls Tryz.prog 48 #[.slice (some ⟨w.heap.size, 0, none⟩) 2 2] (w.alloc o) fun e w' => e = .returned (.int .i64 r) ∧ Drawn0 (w.alloc o) w' := by
  subst ho
  exact cmp_Or_int.calls k _ 2 [t1, t2] _ _ (two_row (heap_alloc_new _ _)) (Nat.le_refl _) h
def Two (w0 w : World) (b c px py qx qy : Nat) : Prop := Gr w0 w ∧ w.cell? ⟨b, 0, none⟩ = some (.float .f64 px) ∧ w.cell? ⟨b, 1, none⟩ = some (.float .f64 py) ∧ w.cell? ⟨c, 0, none⟩ = some (.float .f64 qx) ∧ w.cell? ⟨c, 1, none⟩ = some (.float .f64 qy)
theorem Two.next {w0 w w' : World} {b c px py qx qy : Nat} (hg : Gr w w') (h : Two w0 w b c px py qx qy) : Two w0 w' b c px py qx qy := ⟨h.1.trans hg, hg.cell h.2.1, hg.cell h.2.2.1, hg.cell h.2.2.2.1, hg.cell h.2.2.2.2⟩
theorem two_new (w : World) (px py qx qy t : Nat) : Two w ((w.alloc (.cells #[.float .f64 px, .float .f64 py] t)).alloc (.cells #[.float .f64 qx, .float .f64 qy] t)) w.heap.size (w.heap.size + 1) px py qx qy := by
  refine ⟨((Gr.refl w).alloc _).alloc _, ?_⟩
  simp
set_option maxRecDepth 100000 in
set_option maxHeartbeats 1000000 in
theorem hold_grow (k px py qx qy : Nat) (r : Int) (w : World) (h : admit_hold.f k px py qx qy = some r) :
    Calls Tryz.prog 49 #[.agg #[.float .f64 px, .float .f64 py], .agg #[.float .f64 qx, .float .f64 qy]] w fun e w' => e = .returned (.int .i64 r) ∧ Gr w w' := by
  have hu32 := Tryz.underlying32
  obtain ⟨t1, h1, h⟩ := Option.bind_eq_some_iff.mp h
  obtain ⟨t2, h2, h⟩ := Option.bind_eq_some_iff.mp h
  obtain ⟨t3, h3, h⟩ := Option.bind_eq_some_iff.mp h
  injection h with h
  subst h
  go_enter Tryz.func49, Tryz.ntmps49
  go_wp2
  have hS := two_new w px py qx qy 32
  generalize ((w.alloc (.cells #[.float .f64 px, .float .f64 py] 32)).alloc (.cells #[.float .f64 qx, .float .f64 qy] 32)) = w1 at *
  go_region_held (fun w' => Gr w w' ∧ w'.cell? ⟨w.heap.size, 0, none⟩ = some (.float .f64 px) ∧ w'.cell? ⟨w.heap.size, 1, none⟩ = some (.float .f64 py) ∧ w'.cell? ⟨w.heap.size + 1, 0, none⟩ = some (.float .f64 qx) ∧ w'.cell? ⟨w.heap.size + 1, 1, none⟩ = some (.float .f64 qy))
    (first | exact hS | exact hS.next (Gr.drew (Gr.refl _)) | exact Two.next (Gr.of0 (by assumption)) (by assumption) | exact Two.next ((Gr.refl _).alloc _) (by assumption))
    (first | (go_at_call 73; first | ((with_reducible refine (cmp_Compare_float64.calls px qx t1 _ h1).mono ?_); rintro y w2 ⟨rfl, hd2⟩) | ((with_reducible refine (cmp_Compare_float64.calls py qy t2 _ h2).mono ?_); rintro y w3 ⟨rfl, hd3⟩)) | (go_at_call 48; refine (or_two h3 _ rfl).mono ?_; rintro y w4 ⟨rfl, hd4⟩))
  go_wp2
  go_ret
  exact ⟨rfl, (hS.1.trans (Gr.refl _).drew).trans ((Gr.of0 hd2).trans ((Gr.of0 hd3).trans (((Gr.refl _).alloc _).trans (Gr.of0 hd4))))⟩
end Go.Proofs.YtioahkblhekgpaaGreatDoor.Adm
