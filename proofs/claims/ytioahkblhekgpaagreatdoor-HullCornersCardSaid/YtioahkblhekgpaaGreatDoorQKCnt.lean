/- What the proof needs of Lit, Onn, Cnt: only what is used is left (wip/tools/prune.py). Conditions stand in each sentence. -/
import Derived.Deep.RegionHeld3
import Derived.Test.YtioahkblhekgpaaGreatDoorQKHld
import Derived.Test.YtioahkblhekgpaaGreatDoorQKFla
import Derived.Test.YtioahkblhekgpaaGreatDoorQKPureAdmitFlat
set_option linter.unusedVariables false
set_option linter.unusedSimpArgs false
namespace Go.Proofs.YtioahkblhekgpaaGreatDoor.Adm
end Go.Proofs.YtioahkblhekgpaaGreatDoor.Adm
namespace Go.Proofs.YtioahkblhekgpaaGreatDoor.E
end Go.Proofs.YtioahkblhekgpaaGreatDoor.E
namespace Go.Proofs.YtioahkblhekgpaaGreatDoor.FltP
end Go.Proofs.YtioahkblhekgpaaGreatDoor.FltP
namespace Go.Proofs.YtioahkblhekgpaaGreatDoor.O
end Go.Proofs.YtioahkblhekgpaaGreatDoor.O
namespace Go.Proofs.YtioahkblhekgpaaGreatDoor.R
end Go.Proofs.YtioahkblhekgpaaGreatDoor.R
namespace Go.Proofs.YtioahkblhekgpaaGreatDoorW.PrintLast
end Go.Proofs.YtioahkblhekgpaaGreatDoorW.PrintLast
namespace Go.Proofs.YtioahkblhekgpaaGreatDoorW.PrintMore
end Go.Proofs.YtioahkblhekgpaaGreatDoorW.PrintMore
namespace Go.Proofs.YtioahkblhekgpaaGreatDoorW.PrintWords
end Go.Proofs.YtioahkblhekgpaaGreatDoorW.PrintWords
namespace Go.Proofs.YtioahkblhekgpaaGreatDoor.Adm
open Go.RowKit Go.Proofs.YtioahkblhekgpaaGreatDoor.FltP Go.Proofs.YtioahkblhekgpaaGreatDoor.R Go.Proofs.YtioahkblhekgpaaGreatDoor.E Go.Proofs.YtioahkblhekgpaaGreatDoor.O Go.Proofs.YtioahkblhekgpaaGreatDoorW.PrintWords Go.Proofs.YtioahkblhekgpaaGreatDoorW.PrintLast Go.Proofs.YtioahkblhekgpaaGreatDoorW.PrintMore
def flt (l : List S) : List Value := l.flatMap fun x => [.float .f64 x.f0, .float .f64 x.f1]
theorem flt_get : ∀ (l : List S) (j : Nat) (p : S), l[j]? = some p → (flt l)[j * 2]? = some (.float .f64 p.f0) ∧ (flt l)[j * 2 + 1]? = some (.float .f64 p.f1)
 | [], j, p, h => by simp at h
 | x :: l, 0, p, h => by simp at h; subst h; exact ⟨rfl, rfl⟩
 | x :: l, j + 1, p, h => by
  have ih := flt_get l j p (by simpa using h)
  have e : flt (x :: l) = .float .f64 x.f0 :: .float .f64 x.f1 :: flt l := rfl
  rw [e, show (j + 1) * 2 = j * 2 + 1 + 1 from by omega]
  exact ⟨by simpa using ih.1, by simpa using ih.2⟩
theorem lit_C {w : World} {B t n : Nat} {arr : Array Value} (l : List S) (ha : arr.toList = flt l) (h : w.heap[B]? = some (.cells arr t (0, 0))) (hn : l.length = n) (hm : n ≤ 1000) : Kd.C k32 w (some ⟨B, 0, none⟩) n l := by
 refine ⟨hn, by omega, fun _ => ⟨_, rfl, fun j p hj => ?_⟩⟩
 obtain ⟨g1, g2⟩ := flt_get l j p hj
 have hw : ∀ i, arr[i]? = (flt l)[i]? := fun i => by rw [← ha]; exact Array.getElem?_toList.symm
 refine ⟨[.float .f64 p.f0, .float .f64 p.f1], rfl, ⟨[.float .f64 p.f0], [.float .f64 p.f1], rfl, rfl, rfl⟩, fun i u hi => ?_⟩
 have hs : k32.sz = 2 := rfl
 rw [hs, Addr.add_lit]
 match i, hi with
 | 0, hi => simp at hi; subst hi; exact (blk_cell h (0 + (j * 2 + 0))).trans ((hw _).trans (show (flt l)[0 + (j * 2 + 0)]? = some (.float .f64 p.f0) from by rw [Nat.zero_add, Nat.add_zero]; exact g1))
 | 1, hi => simp at hi; subst hi; exact (blk_cell h (0 + (j * 2 + 1))).trans ((hw _).trans (show (flt l)[0 + (j * 2 + 1)]? = some (.float .f64 p.f1) from by rw [Nat.zero_add]; exact g2))
 | i + 2, hi => simp at hi
end Go.Proofs.YtioahkblhekgpaaGreatDoor.Adm
namespace Go.Proofs.YtioahkblhekgpaaGreatDoor.Adm
open Go.RowKit Go.Proofs.YtioahkblhekgpaaGreatDoor.FltP Go.Proofs.YtioahkblhekgpaaGreatDoor.R Go.Proofs.YtioahkblhekgpaaGreatDoor.E Go.Proofs.YtioahkblhekgpaaGreatDoor.O Go.Proofs.YtioahkblhekgpaaGreatDoorW.PrintWords Go.Proofs.YtioahkblhekgpaaGreatDoorW.PrintLast Go.Proofs.YtioahkblhekgpaaGreatDoorW.PrintMore
theorem min_fin {x y : Nat} (hx : Fini x) (hy : Fini y) : ∃ m, Fini m ∧ fval m = min (fval x) (fval y) ∧ ∀ (ts : Array TypeId) (t : TypeId) (w : World), (Builtin.min_ ts t #[.float .f64 x, .float .f64 y]).run Tryz.prog w = .ok (.float .f64 m) w := by
 have ho : FloatKind.f64.format.order x y = some (compare (fval x) (fval y)) := order_fin hx hy
 rcases Int.lt_trichotomy (fval x) (fval y) with h | h | h
 ·refine ⟨x, hx, by omega, fun ts t w => ?_⟩
  rw [Int.compare_eq_lt.mpr h] at ho
  simp [Builtin.min_, Builtin.min2, ho]
 ·rw [Int.compare_eq_eq.mpr h] at ho
  refine ⟨if (FloatKind.f64.decode x).neg = true then x else y, by split <;> assumption, by split <;> omega, fun ts t w => ?_⟩
  simp [Builtin.min_, Builtin.min2, ho]
 ·refine ⟨y, hy, by omega, fun ts t w => ?_⟩
  rw [Int.compare_eq_gt.mpr h] at ho
  simp [Builtin.min_, Builtin.min2, ho]
theorem max_fin {x y : Nat} (hx : Fini x) (hy : Fini y) : ∃ m, Fini m ∧ fval m = max (fval x) (fval y) ∧ ∀ (ts : Array TypeId) (t : TypeId) (w : World), (Builtin.max_ ts t #[.float .f64 x, .float .f64 y]).run Tryz.prog w = .ok (.float .f64 m) w := by
 have ho : FloatKind.f64.format.order x y = some (compare (fval x) (fval y)) := order_fin hx hy
 rcases Int.lt_trichotomy (fval x) (fval y) with h | h | h
 ·refine ⟨y, hy, by omega, fun ts t w => ?_⟩
  rw [Int.compare_eq_lt.mpr h] at ho
  simp [Builtin.max_, Builtin.max2, ho]
 ·rw [Int.compare_eq_eq.mpr h] at ho
  refine ⟨if (FloatKind.f64.decode x).neg = true then y else x, by split <;> assumption, by split <;> omega, fun ts t w => ?_⟩
  simp [Builtin.max_, Builtin.max2, ho]
 ·refine ⟨x, hx, by omega, fun ts t w => ?_⟩
  rw [Int.compare_eq_gt.mpr h] at ho
  simp [Builtin.max_, Builtin.max2, ho]
theorem le_fin {x y : Nat} (hx : Fini x) (hy : Fini y) : (FloatKind.f64.format.order x y == some .lt || FloatKind.f64.format.order x y == some .eq) = decide (fval x ≤ fval y) := by
 have h1 := lt_fin hx hy
 have h2 := eq_fin hx hy
 rw [h1, h2, Bool.eq_iff_iff, Bool.or_eq_true, decide_eq_true_iff, decide_eq_true_iff, decide_eq_true_iff]
 omega
set_option maxRecDepth 100000 in
set_option maxHeartbeats 1000000 in
theorem within_call {x y z : Nat} (hx : Fini x) (hy : Fini y) (hz : Fini z) (w : World) :
 Calls Tryz.prog 91 #[.float .f64 x, .float .f64 y, .float .f64 z] w fun e w' => e = .returned (.bool (decide (Geo.within (fval x) (fval y) (fval z)))) ∧ w = w' := by
 obtain ⟨m, m1, m2, hm⟩ := min_fin hx hy
 obtain ⟨n, n1, n2, hn⟩ := max_fin hx hy
 have l1 := le_fin m1 hz
 have l2 := le_fin hz n1
 have hr : decide (Geo.within (fval x) (fval y) (fval z)) = (decide (fval m ≤ fval z) && decide (fval z ≤ fval n)) := by
  rw [Bool.eq_iff_iff, Bool.and_eq_true, decide_eq_true_iff, decide_eq_true_iff, decide_eq_true_iff, m2, n2]
  unfold Geo.within
  omega
 rw [hr]
 generalize decide (fval m ≤ fval z) = b1 at *
 generalize decide (fval z ≤ fval n) = b2 at *
 clear hr m1 m2 n1 n2 hx hy hz
 cases b1
 all_goals
  cases b2
  all_goals
   go_enter Tryz.func91, Tryz.ntmps91
   go_wp2
   go_ret
   exact ⟨rfl, rfl⟩
def pt (x : S) : Geo.Pt := (fval x.f0, fval x.f1)
def sgnS (a b p : S) : Int := (Geo.det (pt a) (pt b) (pt p)).sign
def onS (a b p : S) : Bool := decide (sgnS a b p = 0) && (decide (Geo.within (fval a.f0) (fval b.f0) (fval p.f0)) && decide (Geo.within (fval a.f1) (fval b.f1) (fval p.f1)))
theorem sign_any {a b p : S} (ga : gp a = true) (gb : gp b = true) (gq : gp p = true) (w : World) :
 Calls Tryz.prog 24 #[.agg #[.float .f64 a.f0, .float .f64 a.f1], .agg #[.float .f64 b.f0, .float .f64 b.f1], .agg #[.float .f64 p.f0, .float .f64 p.f1]] w fun e w' => e = .returned (.int .i64 (sgnS a b p)) ∧ Below w.heap.size w w' := by
 have h1 := gp_good ga
 have h2 := gp_good gb
 have h3 := gp_good gq
 obtain ⟨k, hk⟩ := (Exp.sign_ev h1.1 h1.2 h2.1 h2.2 h3.1 h3.2).rounds
 exact orient_Sign.calls k _ _ _ _ _ _ _ w hk
theorem may_lit {a b p : S} (ga : gp a = true) (gb : gp b = true) (gq : gp p = true) (W : World) (g : Nat) (hg : g = W.heap.size) :
 Calls Tryz.prog 57 #[.slice (some ⟨g, 0, none⟩) 3 3] (W.alloc (.cells #[.float .f64 a.f0, .float .f64 a.f1, .float .f64 b.f0, .float .f64 b.f1, .float .f64 p.f0, .float .f64 p.f1] 32)) fun e w' => e = .returned (.bool true) ∧ Below W.heap.size W w' := by
 subst hg
 have h1 := gp_good ga
 have h2 := gp_good gb
 have h3 := gp_good gq
 obtain ⟨k, hk⟩ := (Exp.may_three h1.1 h1.2 h2.1 h2.2 h3.1 h3.2).rounds
 have hC := lit_C (B := W.heap.size) (t := 32) (n := 3) [a, b, p] (arr := #[.float .f64 a.f0, .float .f64 a.f1, .float .f64 b.f0, .float .f64 b.f1, .float .f64 p.f0, .float .f64 p.f1]) rfl (heap_alloc_new W _) rfl (by decide)
 exact (orient_may.calls k _ 3 [a, b, p] true _ hC (Nat.le_refl _) hk).mono fun e w' h => ⟨h.1, ((Below.refl _ _).alloc (Nat.le_refl _) _).trans (h.2.mono (by simp))⟩
theorem three_boxes (w : World) (a b c : Array Value) (t : TypeId) (i : Nat) :
 (((w.alloc (.cells a t)).alloc (.cells b t)).alloc (.cells c t)).cell? ⟨w.heap.size, i, none⟩ = a[i]? ∧ (((w.alloc (.cells a t)).alloc (.cells b t)).alloc (.cells c t)).cell? ⟨w.heap.size + 1, i, none⟩ = b[i]? ∧ (((w.alloc (.cells a t)).alloc (.cells b t)).alloc (.cells c t)).cell? ⟨w.heap.size + 1 + 1, i, none⟩ = c[i]? := by
 have h1 := blk_new w (.cells a t)
 have h2 := blk_new (w.alloc (.cells a t)) (.cells b t)
 have h3 := blk_new ((w.alloc (.cells a t)).alloc (.cells b t)) (.cells c t)
 rw [show (w.alloc (.cells a t)).heap.size = w.heap.size + 1 from by simp] at h2
 rw [show ((w.alloc (.cells a t)).alloc (.cells b t)).heap.size = w.heap.size + 1 + 1 from by simp] at h3
 exact ⟨blk_cell (blk_alloc (blk_alloc h1 _) _) i, blk_cell (blk_alloc h2 _) i, blk_cell h3 i⟩
set_option maxRecDepth 100000 in
set_option maxHeartbeats 2000000 in
theorem on_call {a b p : S} (ga : gp a = true) (gb : gp b = true) (gq : gp p = true) (w : World) :
 Calls Tryz.prog 68 #[.agg #[.float .f64 a.f0, .float .f64 a.f1], .agg #[.float .f64 b.f0, .float .f64 b.f1], .agg #[.float .f64 p.f0, .float .f64 p.f1]] w fun e w' => e = .returned (.bool (onS a b p)) ∧ Below w.heap.size w w' := by
 have hu32 := Tryz.underlying32
 have h1 := gp_good ga
 have h2 := gp_good gb
 have h3 := gp_good gq
 have hmy := may_lit ga gb gq (((w.alloc (.cells #[.float .f64 a.f0, .float .f64 a.f1] 32)).alloc (.cells #[.float .f64 b.f0, .float .f64 b.f1] 32)).alloc (.cells #[.float .f64 p.f0, .float .f64 p.f1] 32)) (w.heap.size + 3) (by simp)
 have hsg := fun W => sign_any ga gb gq W
 have hw0 := fun W => within_call h1.1.1 h2.1.1 h3.1.1 W
 have hw1 := fun W => within_call h1.2.1 h2.2.1 h3.2.1 W
 unfold onS
 generalize decide (Geo.within (fval a.f0) (fval b.f0) (fval p.f0)) = b0 at *
 generalize decide (Geo.within (fval a.f1) (fval b.f1) (fval p.f1)) = b1 at *
 generalize sgnS a b p = r at *
 clear ga gb gq h1 h2 h3
 obtain ⟨a0, a1⟩ := a
 obtain ⟨b_0, b_1⟩ := b
 obtain ⟨p0, p1⟩ := p
 simp only at hmy hsg hw0 hw1 ⊢
 by_cases hr : r = 0
 ·subst hr
  cases b0
  all_goals
   go_enter Tryz.func68, Tryz.ntmps68
   go_wp2_with (first
    | (go_at_call 57; (with_reducible refine hmy.mono ?_); rintro u w1 ⟨rfl, hb1⟩; have x0 := bcell (p := ⟨w.heap.size, 0, none⟩) (v := .float .f64 a0) hb1 (three_boxes w _ _ _ _ 0).1; have x1 := bcell (p := ⟨w.heap.size, 1, none⟩) (v := .float .f64 a1) hb1 (three_boxes w _ _ _ _ 1).1; have y0 := bcell (p := ⟨w.heap.size + 1, 0, none⟩) (v := .float .f64 b_0) hb1 (three_boxes w _ _ _ _ 0).2.1; have y1 := bcell (p := ⟨w.heap.size + 1, 1, none⟩) (v := .float .f64 b_1) hb1 (three_boxes w _ _ _ _ 1).2.1; have z0 := bcell (p := ⟨w.heap.size + 1 + 1, 0, none⟩) (v := .float .f64 p0) hb1 (three_boxes w _ _ _ _ 0).2.2; have z1 := bcell (p := ⟨w.heap.size + 1 + 1, 1, none⟩) (v := .float .f64 p1) hb1 (three_boxes w _ _ _ _ 1).2.2; have hB1 : Below w.heap.size w w1 := (below_alloc (below_alloc (below_alloc (Below.refl _ _) _) _) _).trans (hb1.mono (by simp; omega)); clear hb1)
    | (go_at_call 24; (with_reducible refine (hsg _).mono ?_); rintro u w2 ⟨rfl, hb2⟩; have x0 := bcell hb2 x0; have x1 := bcell hb2 x1; have y0 := bcell hb2 y0; have y1 := bcell hb2 y1; have z0 := bcell hb2 z0; have z1 := bcell hb2 z1; have hB2 := hB1.trans (hb2.mono hB1.size); clear hb2)
    | (go_at_call 91; (first | (with_reducible refine (hw0 _).mono ?_) | (with_reducible refine (hw1 _).mono ?_)); (rintro u w3 ⟨rfl, rfl⟩)))
   go_ret
   exact ⟨by cases b1 <;> rfl, hB2⟩
 ·have e1 : (r == 0) = false := beq_eq_false_iff_ne.mpr hr
  rw [decide_eq_false hr, Bool.false_and]
  have HR := Aside0.mk hr
  clear hr
  go_enter Tryz.func68, Tryz.ntmps68
  go_wp2_with (first
   | (go_at_call 57; (with_reducible refine hmy.mono ?_); rintro u w1 ⟨rfl, hb1⟩; have x0 := bcell (p := ⟨w.heap.size, 0, none⟩) (v := .float .f64 a0) hb1 (three_boxes w _ _ _ _ 0).1; have x1 := bcell (p := ⟨w.heap.size, 1, none⟩) (v := .float .f64 a1) hb1 (three_boxes w _ _ _ _ 1).1; have y0 := bcell (p := ⟨w.heap.size + 1, 0, none⟩) (v := .float .f64 b_0) hb1 (three_boxes w _ _ _ _ 0).2.1; have y1 := bcell (p := ⟨w.heap.size + 1, 1, none⟩) (v := .float .f64 b_1) hb1 (three_boxes w _ _ _ _ 1).2.1; have z0 := bcell (p := ⟨w.heap.size + 1 + 1, 0, none⟩) (v := .float .f64 p0) hb1 (three_boxes w _ _ _ _ 0).2.2; have z1 := bcell (p := ⟨w.heap.size + 1 + 1, 1, none⟩) (v := .float .f64 p1) hb1 (three_boxes w _ _ _ _ 1).2.2; have hB1 : Below w.heap.size w w1 := (below_alloc (below_alloc (below_alloc (Below.refl _ _) _) _) _).trans (hb1.mono (by simp; omega)); clear hb1)
   | (go_at_call 24; (with_reducible refine (hsg _).mono ?_); rintro u w2 ⟨rfl, hb2⟩; have x0 := bcell hb2 x0; have x1 := bcell hb2 x1; have y0 := bcell hb2 y0; have y1 := bcell hb2 y1; have z0 := bcell hb2 z0; have z1 := bcell hb2 z1; have hB2 := hB1.trans (hb2.mono hB1.size); clear hb2)
   | (go_at_call 91; (first | (with_reducible refine (hw0 _).mono ?_) | (with_reducible refine (hw1 _).mono ?_)); (rintro u w3 ⟨rfl, rfl⟩)))
  go_ret
  exact ⟨rfl, hB2⟩
end Go.Proofs.YtioahkblhekgpaaGreatDoor.Adm
namespace Go.Proofs.YtioahkblhekgpaaGreatDoor.Pure
open Go.RowKit Go.Proofs.YtioahkblhekgpaaGreatDoor.R Go.Proofs.YtioahkblhekgpaaGreatDoor.E Go.Proofs.YtioahkblhekgpaaGreatDoor.O Go.Proofs.YtioahkblhekgpaaGreatDoor.FltP Go.Proofs.YtioahkblhekgpaaGreatDoorW.PrintWords Go.Proofs.YtioahkblhekgpaaGreatDoorW.PrintLast
open Go.Proofs.YtioahkblhekgpaaGreatDoor.Adm (S gp Wd WdB wd_of allF allF_ok flatAll unlAll unl_lt PT sgnAt zi ordAll twAll tw)
theorem cmp_at {l : List S} {a b : Nat} (hw : Wd l) (hg : ∀ x ∈ l, gp x = true) (ha : a < l.length) (hb : b < l.length) :
 Ev (fun k => admit_Cmp.f k (rd_T32 l (a : Int)).f0 (rd_T32 l (a : Int)).f1 (rd_T32 l (b : Int)).f0 (rd_T32 l (b : Int)).f1) (Adm.holdAt l a b) := by
 have wa := hw _ (Adm.rd_at ha)
 have wb := hw _ (Adm.rd_at hb)
 have h := cmp_ev' wa.1 wa.2 wb.1 wb.2
 rw [if_pos ⟨hg _ (Adm.rd_at ha), hg _ (Adm.rd_at hb)⟩] at h
 exact h
end Go.Proofs.YtioahkblhekgpaaGreatDoor.Pure
