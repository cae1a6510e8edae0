/- What the proof needs of Adm, Hld: only what is used is left (wip/tools/prune.py). Conditions stand in each sentence. -/
import Derived.Shelf.SlSortCmp.NoneTotal
import Derived.Deep.RegionHeld3
import Derived.LoopTactic
import Derived.Test.YtioahkblhekgpaaGreatDoorQKFst
import Derived.Test.YtioahkblhekgpaaGreatDoorQKR0
import Derived.Test.YtioahkblhekgpaaGreatDoorQKR6
import Derived.Test.YtioahkblhekgpaaGreatDoorQKR7
import Derived.Test.YtioahkblhekgpaaGreatDoorQKR8
import Derived.Test.YtioahkblhekgpaaGreatDoorQKLdx
set_option linter.unusedVariables false
set_option linter.unusedSimpArgs false
namespace Go.Proofs.YtioahkblhekgpaaGreatDoor.E
end Go.Proofs.YtioahkblhekgpaaGreatDoor.E
namespace Go.Proofs.YtioahkblhekgpaaGreatDoor.FltP
end Go.Proofs.YtioahkblhekgpaaGreatDoor.FltP
namespace Go.Proofs.YtioahkblhekgpaaGreatDoor.O
end Go.Proofs.YtioahkblhekgpaaGreatDoor.O
namespace Go.Proofs.YtioahkblhekgpaaGreatDoor.R
end Go.Proofs.YtioahkblhekgpaaGreatDoor.R
namespace Go.Proofs.YtioahkblhekgpaaGreatDoorW.PrintLast
end Go.Proofs.YtioahkblhekgpaaGreatDoorW.PrintLast
namespace Go.Proofs.YtioahkblhekgpaaGreatDoorW.PrintMore
end Go.Proofs.YtioahkblhekgpaaGreatDoorW.PrintMore
namespace Go.Proofs.YtioahkblhekgpaaGreatDoorW.PrintWords
end Go.Proofs.YtioahkblhekgpaaGreatDoorW.PrintWords
namespace Go.Proofs.YtioahkblhekgpaaGreatDoor.Adm
open Go.RowKit Go.Proofs.YtioahkblhekgpaaGreatDoor.FltP Go.Proofs.YtioahkblhekgpaaGreatDoor.R Go.Proofs.YtioahkblhekgpaaGreatDoor.E Go.Proofs.YtioahkblhekgpaaGreatDoor.O Go.Proofs.YtioahkblhekgpaaGreatDoorW.PrintWords Go.Proofs.YtioahkblhekgpaaGreatDoorW.PrintLast Go.Proofs.YtioahkblhekgpaaGreatDoorW.PrintMore
abbrev S := S32
def gp (x : S) : Bool := goodB x.f0 && goodB x.f1
def Wd (l : List S) : Prop := ∀ x ∈ l, x.f0 < 2 ^ 64 ∧ x.f1 < 2 ^ 64
theorem rd_at {l : List S} {n : Nat} (h : n < l.length) : rd_T32 l (n : Int) ∈ l := by
 unfold rd_T32; rw [Int.toNat_natCast, List.getD_eq_getElem?_getD, List.getElem?_eq_getElem h]; exact List.getElem_mem h
theorem rd_get {l : List S} {n : Nat} (h : n < l.length) : rd_T32 l (n : Int) = l[n] := by
 unfold rd_T32; rw [Int.toNat_natCast, List.getD_eq_getElem?_getD, List.getElem?_eq_getElem h]; rfl
theorem drop_S {l : List S} {n : Nat} (h : n < l.length) : l.drop n = rd_T32 l (n : Int) :: l.drop (n + 1) := by
 rw [rd_get h]; exact List.drop_eq_getElem_cons h
def idxF {α : Type} (p : α → Bool) : Nat → List α → Int
 | _, [] => -1
 | n, x :: xs => if p x = true then n else idxF p (n + 1) xs
set_option maxHeartbeats 1000000 in
theorem bad_calls (x : S) (h0 : x.f0 < 2 ^ 64) (h1 : x.f1 < 2 ^ 64) (W : World) :
 Calls Tryz.prog 43 #[.agg #[.float .f64 x.f0, .float .f64 x.f1]] W fun e w' => e = .returned (.bool (!gp x)) ∧ Below W.heap.size W w' := by
 have hm := may_some h0 h1
 unfold gp
 generalize (goodB x.f0 && goodB x.f1) = g at hm ⊢
 have hu32 := Tryz.underlying32
 go_enter Tryz.func43, Tryz.ntmps43
 go_wp2_with (go_at_call 28; (with_reducible refine (admit_May.calls _ _ _ _ hm).mono ?_); rintro y w1 ⟨rfl, hd⟩)
 go_ret
 exact ⟨rfl, ((Below.refl _ _).alloc (Nat.le_refl _) _).trans (hd.mono (by simp))⟩
set_option maxRecDepth 100000 in
set_option maxHeartbeats 1000000 in
theorem index_calls (A : Option Addr) (c : Nat) (l : List S) (w : World) (hl : Kd.C k32 w A l.length l) (hc : l.length ≤ c) (hw : Wd l) :
 Calls Tryz.prog 42 #[.slice A l.length c, .func (.func 43) #[] #[]] w fun e w' => e = .returned (.int .i64 (idxF (fun x => !gp x) 0 l)) ∧ Below w.heap.size w w' := by
 have hu32 := Tryz.underlying32
 have hm := hl.2.1
 go_enter Tryz.func42, Tryz.ntmps42
 go_wp2
 go_loopw [8] (fun x wr => ∃ (n : Nat), x = .int .i64 n ∧ n ≤ l.length ∧ Below w.heap.size w wr ∧ Aside0 (idxF (fun x => !gp x) n (l.drop n) = idxF (fun x => !gp x) 0 l)) (fun x _ => l.length - (intOf x).toNat)
 case atStart => exact ⟨0, rfl, Nat.zero_le _, Below.refl _ _, ⟨rfl⟩⟩
 case round =>
  obtain ⟨n, rfl, hn, hB, hi⟩ := hrel
  by_cases hlt : n < l.length
  ·have d1 : decide ((n : Int) < (l.length : Int)) = true := by simp; omega
   have d2 : decide (n < l.length) = true := by simp; omega
   have d3 : decide ((0 : Int) ≤ n) = true := by simp
   obtain ⟨ad, rfl, hx0, hx1⟩ := at_T32 (Kd.C_below hl hB) n (by omega) (by omega)
   rw [Int.toNat_natCast] at hx0 hx1
   replace hi := hi.out
   rw [drop_S hlt, idxF] at hi
   have hwd := hw _ (rd_at hlt)
   have hcl := fun W => bad_calls (rd_T32 l (n : Int)) hwd.1 hwd.2 W
   generalize rd_T32 l (n : Int) = x at *
   cases hg : gp x
   ·rw [hg] at hi hcl
    rw [if_pos (by rfl)] at hi
    replace hi := Aside0.mk hi
    simp only [Bool.not_false] at hcl
    go_wp2_with (go_at_call 43; (with_reducible refine (hcl _).mono ?_); rintro y w1 ⟨rfl, hb1⟩)
    go_ret
    rw [← hi.out]
    exact ⟨rfl, hB.trans (hb1.mono hB.size)⟩
   ·rw [hg] at hi hcl
    rw [if_neg (by decide)] at hi
    replace hi := Aside0.mk hi
    simp only [Bool.not_true] at hcl
    go_wp2_with (go_at_call 43; (with_reducible refine (hcl _).mono ?_); rintro y w1 ⟨rfl, hb1⟩)
    go_roundw
    case rel => exact ⟨n + 1, by go_num, by omega, hB.trans (hb1.mono hB.size), hi⟩
    case measure => simp [intOf]; omega
  ·have d1 : decide ((n : Int) < (l.length : Int)) = false := by simp; omega
   have d2 : decide (n < l.length) = false := by simp; omega
   replace hi := hi.out
   rw [List.drop_eq_nil_of_le (by omega), idxF] at hi
   replace hi := Aside0.mk hi
   go_wp2
   go_ret
   rw [← hi.out]
   exact ⟨rfl, hB⟩
def allF (l : List S) : Int × Int := if l.length > 1048576 then (0, 3) else if idxF (fun x => !gp x) 0 l ≥ 0 then (idxF (fun x => !gp x) 0 l, 10) else (0, 0)
set_option maxRecDepth 100000 in
set_option maxHeartbeats 1000000 in
theorem all_calls (A : Option Addr) (c : Nat) (l : List S) (w : World) (hl : Kd.C k32 w A l.length l) (hc : l.length ≤ c) (hw : Wd l) :
 Calls Tryz.prog 12 #[.slice A l.length c] w fun e w' => e = .returned (.tuple #[.int .i64 (allF l).1, .int .i64 (allF l).2]) ∧ Below w.heap.size w w' := by
 have hi := index_calls A c l w hl hc hw
 unfold allF
 generalize idxF (fun x => !gp x) 0 l = r at hi ⊢
 by_cases h1 : l.length > 1048576
 ·have d1 : decide ((1048576 : Int) < (l.length : Int)) = true := by simp; omega
  have d2 : decide (1048576 < l.length) = true := by simp; omega
  rw [if_pos h1]
  go_enter Tryz.func12, Tryz.ntmps12
  go_wp2
  go_ret2
  exact ⟨rfl, Below.refl _ _⟩
 ·have d1 : decide ((1048576 : Int) < (l.length : Int)) = false := by simp; omega
  have d2 : decide (1048576 < l.length) = false := by simp; omega
  rw [if_neg h1]
  by_cases h2 : r ≥ 0
  ·have d3 : decide ((0 : Int) ≤ r) = true := by simp; omega
   rw [if_pos h2]
   go_enter Tryz.func12, Tryz.ntmps12
   go_wp2_with (go_at_call 42; (with_reducible refine hi.mono ?_); rintro y w1 ⟨rfl, hb1⟩)
   go_ret2
   exact ⟨rfl, hb1⟩
  ·have d3 : decide ((0 : Int) ≤ r) = false := by simp; omega
   rw [if_neg h2]
   go_enter Tryz.func12, Tryz.ntmps12
   go_wp2_with (go_at_call 42; (with_reducible refine hi.mono ?_); rintro y w1 ⟨rfl, hb1⟩)
   go_ret2
   exact ⟨rfl, hb1⟩
set_option maxRecDepth 100000 in
theorem good_calls (A : Option Addr) (c : Nat) (l : List S) (w : World) (hl : Kd.C k32 w A l.length l) (hc : l.length ≤ c) (hw : Wd l) :
 Calls Tryz.prog 45 #[.slice A l.length c] w fun e w' => e = .returned (.bool ((allF l).2 == 0)) ∧ Below w.heap.size w w' := by
 have hi := all_calls A c l w hl hc hw
 generalize allF l = r at hi ⊢
 go_enter Tryz.func45, Tryz.ntmps45
 go_wp2_with (go_at_call 12; (with_reducible refine hi.mono ?_); rintro y w1 ⟨rfl, hb1⟩)
 go_ret
 exact ⟨rfl, hb1⟩
end Go.Proofs.YtioahkblhekgpaaGreatDoor.Adm
namespace Go.Proofs.YtioahkblhekgpaaGreatDoor.Adm
open Go.RowKit Go.Sort Go.Proofs.YtioahkblhekgpaaGreatDoor.FltP Go.Proofs.YtioahkblhekgpaaGreatDoor.R Go.Proofs.YtioahkblhekgpaaGreatDoorW.PrintWords Go.Proofs.YtioahkblhekgpaaGreatDoorW.PrintLast Go.Proofs.YtioahkblhekgpaaGreatDoorW.PrintMore
structure Gr (w w' : World) : Prop where
 out : ∃ q os, w' = grow (w.drewN q) os
theorem Gr.refl (w : World) : Gr w w := ⟨0, #[], by rw [grow_empty]; rfl⟩
theorem Gr.trans {a b c : World} (h : Gr a b) (k : Gr b c) : Gr a c := by
 obtain ⟨q, os, rfl⟩ := h.out
 obtain ⟨q', os', rfl⟩ := k.out
 exact ⟨q + q', os ++ os', by show grow (grow ((a.drewN q).drewN q') os) os' = _; rw [grow_grow, World.drewN_drewN]⟩
theorem Gr.drew {a b : World} (h : Gr a b) : Gr a b.drew := h.trans ⟨1, #[], by rw [grow_empty]; rfl⟩
theorem Gr.drewN {a b : World} (h : Gr a b) (n : Nat) : Gr a (b.drewN n) := h.trans ⟨n, #[], by rw [grow_empty]⟩
theorem Gr.alloc {a b : World} (h : Gr a b) (o : Obj) : Gr a (b.alloc o) := h.trans ⟨0, #[o], by rw [alloc_eq_grow]; rfl⟩
theorem Gr.below {a b : World} (h : Gr a b) : Below a.heap.size a b := by
 obtain ⟨q, os, rfl⟩ := h.out
 refine ⟨rfl, rfl, rfl, by simp [grow], fun k hk => ?_⟩
 show ((a.drewN q).heap ++ os)[k]? = _
 rw [Array.getElem?_append_left (by exact hk)]; rfl
theorem Gr.of0 {a b : World} (h : Drawn0 a b) : Gr a b := by
 obtain ⟨n, rfl⟩ := h.out
 exact (Gr.refl a).drewN n
theorem Gr.cell {a b : World} {p : Addr} {v : Value} (h : Gr a b) (hc : a.cell? p = some v) : b.cell? p = some v := (h.below.cell (World.block_lt_of_cell? a _ hc)).trans hc
theorem two_row {w : World} {B t : Nat} {x y : Int} (h : w.heap[B]? = some (.cells #[.int .i64 x, .int .i64 y] t (0, 0))) : Kd.C (Kd.int .i64) w (some ⟨B, 0, none⟩) 2 [x, y] := by
 have c0 := (blk_cell h 0).trans (show (#[Value.int .i64 x, Value.int .i64 y] : Array Value)[0]? = some (.int .i64 x) from rfl)
 have c1 := (blk_cell h 1).trans (show (#[Value.int .i64 x, Value.int .i64 y] : Array Value)[1]? = some (.int .i64 y) from rfl)
 refine ⟨rfl, by decide, fun _ => ⟨_, rfl, fun j p hj => ?_⟩⟩
 match j, hj with
 | 0, hj =>
  simp at hj; subst hj
  refine ⟨[.int .i64 x], rfl, rfl, fun i u hi => ?_⟩
  match i, hi with
  | 0, hi => simp at hi; subst hi; exact c0
  | i + 1, hi => simp at hi
 | 1, hj =>
  simp at hj; subst hj
  refine ⟨[.int .i64 y], rfl, rfl, fun i u hi => ?_⟩
  match i, hi with
  | 0, hi => simp at hi; subst hi; exact c1
  | i + 1, hi => simp at hi
 | j + 2, hj => simp at hj
theorem or_two {k : Nat} {t1 t2 r : Int} (h : cmp_Or_int.f k [t1, t2] = some r) (w : World) {o : Obj} (ho : o = .cells #[.int .i64 t1, .int .i64 t2] 3 (0, 0)) :
 Calls Tryz.prog 48 #[.slice (some ⟨w.heap.size, 0, none⟩) 2 2] (w.alloc o) fun e w' => e = .returned (.int .i64 r) ∧ Drawn0 (w.alloc o) w' := by
 subst ho
 exact cmp_Or_int.calls k _ 2 [t1, t2] _ _ (two_row (heap_alloc_new _ _)) (Nat.le_refl _) h
def Two (w0 w : World) (b c px py qx qy : Nat) : Prop := Gr w0 w ∧ w.cell? ⟨b, 0, none⟩ = some (.float .f64 px) ∧ w.cell? ⟨b, 1, none⟩ = some (.float .f64 py) ∧ w.cell? ⟨c, 0, none⟩ = some (.float .f64 qx) ∧ w.cell? ⟨c, 1, none⟩ = some (.float .f64 qy)
theorem Two.next {w0 w w' : World} {b c px py qx qy : Nat} (hg : Gr w w') (h : Two w0 w b c px py qx qy) : Two w0 w' b c px py qx qy := ⟨h.1.trans hg, hg.cell h.2.1, hg.cell h.2.2.1, hg.cell h.2.2.2.1, hg.cell h.2.2.2.2⟩
theorem two_new (w : World) (px py qx qy t : Nat) : Two w ((w.alloc (.cells #[.float .f64 px, .float .f64 py] t)).alloc (.cells #[.float .f64 qx, .float .f64 qy] t)) w.heap.size (w.heap.size + 1) px py qx qy := by
 refine ⟨((Gr.refl w).alloc _).alloc _, ?_⟩
 simp
set_option maxRecDepth 100000 in
set_option maxHeartbeats 1000000 in
theorem hold_grow (k px py qx qy : Nat) (r : Int) (w : World) (h : admit_hold.f k px py qx qy = some r) :
 Calls Tryz.prog 49 #[.agg #[.float .f64 px, .float .f64 py], .agg #[.float .f64 qx, .float .f64 qy]] w fun e w' => e = .returned (.int .i64 r) ∧ Gr w w' := by
 have hu32 := Tryz.underlying32
 obtain ⟨t1, h1, h⟩ := Option.bind_eq_some_iff.mp h
 obtain ⟨t2, h2, h⟩ := Option.bind_eq_some_iff.mp h
 obtain ⟨t3, h3, h⟩ := Option.bind_eq_some_iff.mp h
 injection h with h
 subst h
 go_enter Tryz.func49, Tryz.ntmps49
 go_wp2
 have hS := two_new w px py qx qy 32
 generalize ((w.alloc (.cells #[.float .f64 px, .float .f64 py] 32)).alloc (.cells #[.float .f64 qx, .float .f64 qy] 32)) = w1 at *
 go_region_held (fun w' => Gr w w' ∧ w'.cell? ⟨w.heap.size, 0, none⟩ = some (.float .f64 px) ∧ w'.cell? ⟨w.heap.size, 1, none⟩ = some (.float .f64 py) ∧ w'.cell? ⟨w.heap.size + 1, 0, none⟩ = some (.float .f64 qx) ∧ w'.cell? ⟨w.heap.size + 1, 1, none⟩ = some (.float .f64 qy))
  (first | exact hS | exact hS.next (Gr.drew (Gr.refl _)) | exact Two.next (Gr.of0 (by assumption)) (by assumption) | exact Two.next ((Gr.refl _).alloc _) (by assumption))
  (first | (go_at_call 73; first | ((with_reducible refine (cmp_Compare_float64.calls px qx t1 _ h1).mono ?_); rintro y w2 ⟨rfl, hd2⟩) | ((with_reducible refine (cmp_Compare_float64.calls py qy t2 _ h2).mono ?_); rintro y w3 ⟨rfl, hd3⟩)) | (go_at_call 48; refine (or_two h3 _ rfl).mono ?_; rintro y w4 ⟨rfl, hd4⟩))
 go_wp2
 go_ret
 exact ⟨rfl, (hS.1.trans (Gr.refl _).drew).trans ((Gr.of0 hd2).trans ((Gr.of0 hd3).trans (((Gr.refl _).alloc _).trans (Gr.of0 hd4))))⟩
end Go.Proofs.YtioahkblhekgpaaGreatDoor.Adm
