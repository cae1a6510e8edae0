/- What the proof needs of Fla: only what is used is left (wip/tools/prune.py). Conditions stand in each sentence. -/
import Derived.Test.YtioahkblhekgpaaGreatDoorQKUnw
set_option linter.unusedVariables false
set_option linter.unusedSimpArgs false
namespace Go.Proofs.YtioahkblhekgpaaGreatDoor.E
end Go.Proofs.YtioahkblhekgpaaGreatDoor.E
namespace Go.Proofs.YtioahkblhekgpaaGreatDoor.FltP
end Go.Proofs.YtioahkblhekgpaaGreatDoor.FltP
namespace Go.Proofs.YtioahkblhekgpaaGreatDoor.O
end Go.Proofs.YtioahkblhekgpaaGreatDoor.O
namespace Go.Proofs.YtioahkblhekgpaaGreatDoor.R
end Go.Proofs.YtioahkblhekgpaaGreatDoor.R
namespace Go.Proofs.YtioahkblhekgpaaGreatDoorW.PrintLast
end Go.Proofs.YtioahkblhekgpaaGreatDoorW.PrintLast
namespace Go.Proofs.YtioahkblhekgpaaGreatDoorW.PrintMore
end Go.Proofs.YtioahkblhekgpaaGreatDoorW.PrintMore
namespace Go.Proofs.YtioahkblhekgpaaGreatDoorW.PrintWords
end Go.Proofs.YtioahkblhekgpaaGreatDoorW.PrintWords
namespace Go.Proofs.YtioahkblhekgpaaGreatDoor.Adm
open Go.RowKit Go.Proofs.YtioahkblhekgpaaGreatDoor.FltP Go.Proofs.YtioahkblhekgpaaGreatDoor.R Go.Proofs.YtioahkblhekgpaaGreatDoor.E Go.Proofs.YtioahkblhekgpaaGreatDoor.O Go.Proofs.YtioahkblhekgpaaGreatDoorW.PrintWords Go.Proofs.YtioahkblhekgpaaGreatDoorW.PrintLast Go.Proofs.YtioahkblhekgpaaGreatDoorW.PrintMore
def sgnAt (l : List S) (a b c : Nat) : Int := (Geo.det (PT l a) (PT l b) (PT l c)).sign
theorem sign_call {l : List S} (hg : ∀ x ∈ l, gp x = true) {a b c : Nat} (ha : a < l.length) (hb : b < l.length) (hc : c < l.length) (w : World) :
 Calls Tryz.prog 24 #[.agg #[.float .f64 (rd_T32 l (a : Int)).f0, .float .f64 (rd_T32 l (a : Int)).f1], .agg #[.float .f64 (rd_T32 l (b : Int)).f0, .float .f64 (rd_T32 l (b : Int)).f1], .agg #[.float .f64 (rd_T32 l (c : Int)).f0, .float .f64 (rd_T32 l (c : Int)).f1]] w fun e w' => e = .returned (.int .i64 (sgnAt l a b c)) ∧ Below w.heap.size w w' := by
 have ga := gp_good (hg _ (rd_at ha))
 have gb := gp_good (hg _ (rd_at hb))
 have gc := gp_good (hg _ (rd_at hc))
 obtain ⟨k, hk⟩ := (Exp.sign_ev ga.1 ga.2 gb.1 gb.2 gc.1 gc.2).rounds
 exact orient_Sign.calls k _ _ _ _ _ _ _ w hk
theorem bcell {w w1 : World} {p : Addr} {v : Value} (hb : Below w.heap.size w w1) (h : w.cell? p = some v) : w1.cell? p = some v := (hb.cell (World.block_lt_of_cell? w _ h)).trans h
theorem ten_below {w w1 : World} {p1 p2 p3 p4 p5 p6 p7 p8 p9 p0 : Addr} {v1 v2 v3 v4 v5 v6 v7 v8 v9 v0 : Value} (hb : Below w.heap.size w w1) (h : w.cell? p1 = some v1 ∧ w.cell? p2 = some v2 ∧ w.cell? p3 = some v3 ∧ w.cell? p4 = some v4 ∧ w.cell? p5 = some v5 ∧ w.cell? p6 = some v6 ∧ w.cell? p7 = some v7 ∧ w.cell? p8 = some v8 ∧ w.cell? p9 = some v9 ∧ w.cell? p0 = some v0) :
 w1.cell? p1 = some v1 ∧ w1.cell? p2 = some v2 ∧ w1.cell? p3 = some v3 ∧ w1.cell? p4 = some v4 ∧ w1.cell? p5 = some v5 ∧ w1.cell? p6 = some v6 ∧ w1.cell? p7 = some v7 ∧ w1.cell? p8 = some v8 ∧ w1.cell? p9 = some v9 ∧ w1.cell? p0 = some v0 :=
 ⟨bcell hb h.1, bcell hb h.2.1, bcell hb h.2.2.1, bcell hb h.2.2.2.1, bcell hb h.2.2.2.2.1, bcell hb h.2.2.2.2.2.1, bcell hb h.2.2.2.2.2.2.1, bcell hb h.2.2.2.2.2.2.2.1, bcell hb h.2.2.2.2.2.2.2.2.1, bcell hb h.2.2.2.2.2.2.2.2.2⟩
set_option maxRecDepth 100000 in
set_option maxHeartbeats 2000000 in
theorem flat_closure (A : Option Addr) (c : Nat) (l : List S) (A2 : Option Addr) (c2 : Nat) (us : List Nat) (B C i : Nat) (hg : ∀ x ∈ l, gp x = true) (hu : ∀ y ∈ us, y < l.length) (hn : 2 ≤ us.length) (hi : i < l.length) (W : World) (hB : W.cell? ⟨B, 0, none⟩ = some (.slice A l.length c)) (hC : W.cell? ⟨C, 0, none⟩ = some (.slice A2 us.length c2)) (hl : Kd.C k32 W A l.length l) (hul : Kd.C (Kd.int .i64) W A2 us.length (zi us)) :
 Calls Tryz.prog 53 #[.int .i64 i, .pointer (some ⟨B, 0, none⟩), .pointer (some ⟨C, 0, none⟩)] W fun e w' => e = .returned (.bool (decide (sgnAt l (us.getD 0 0) (us.getD 1 0) i ≠ 0))) ∧ Below W.heap.size W w' := by
 have hu32 := Tryz.underlying32
 have hm := hl.2.1
 have hm2 := hul.2.1
 have h0 : us.getD 0 0 < l.length := by rw [List.getD_eq_getElem?_getD, List.getElem?_eq_getElem (show 0 < us.length by omega)]; exact hu _ (List.getElem_mem _)
 have h1 : us.getD 1 0 < l.length := by rw [List.getD_eq_getElem?_getD, List.getElem?_eq_getElem (show 1 < us.length by omega)]; exact hu _ (List.getElem_mem _)
 have hsc := fun w => sign_call hg h0 h1 hi w
 have hsg : sgnAt l (us.getD 0 0) (us.getD 1 0) i = sgnAt l (us.getD 0 0) (us.getD 1 0) i := rfl
 generalize sgnAt l (us.getD 0 0) (us.getD 1 0) i = r at hsc ⊢
 clear hsg
 obtain ⟨ud, rfl, hz0⟩ := Kd.at_int hul 0 (by omega) (by omega)
 obtain ⟨ud', hud, hz1⟩ := Kd.at_int hul 1 (by omega) (by omega)
 injection hud with hud
 subst hud
 rw [show rd (zi us) (0 : Int) = ((us.getD 0 0 : Nat) : Int) from by rw [rd]; exact zi_get (by omega)] at hz0
 rw [show rd (zi us) (1 : Int) = ((us.getD 1 0 : Nat) : Int) from by rw [rd]; exact zi_get (by omega)] at hz1
 generalize us.getD 0 0 = p at *
 generalize us.getD 1 0 = q at *
 obtain ⟨ad, rfl, hx0, hx1⟩ := at_T32 hl p (by omega) (by omega)
 obtain ⟨bd, hbd, hy0, hy1⟩ := at_T32 hl q (by omega) (by omega)
 injection hbd with hbd
 subst hbd
 obtain ⟨cd, hcd, hv0, hv1⟩ := at_T32 hl i (by omega) (by omega)
 injection hcd with hcd
 subst hcd
 rw [Int.toNat_natCast] at hx0 hx1 hy0 hy1 hv0 hv1
 generalize rd_T32 l (p : Int) = x at *
 generalize rd_T32 l (q : Int) = y at *
 generalize rd_T32 l (i : Int) = z at *
 obtain ⟨ub, uo, usp⟩ := ud
 have hsp : usp = none := by simpa [Addr.add] using World.cell?_spot hz0
 subst hsp
 replace hz0 : W.cell? ⟨ub, uo, none⟩ = some (.int .i64 p) := hz0
 replace hz1 : W.cell? ⟨ub, uo + 1, none⟩ = some (.int .i64 q) := hz1
 have n1 : decide (1 < us.length) = true := by simp; omega
 have n0 : decide (0 < us.length) = true := by simp; omega
 have n1' : decide ((1 : Int) < (us.length : Int)) = true := by simp; omega
 have n0' : decide ((0 : Int) < (us.length : Int)) = true := by simp; omega
 go_enter Tryz.func53, Tryz.ntmps53
 go_wp2
 have hS : W.cell? ⟨B, 0, none⟩ = some (.slice (some ad) l.length c) ∧ W.cell? ⟨C, 0, none⟩ = some (.slice (some ⟨ub, uo, none⟩) us.length c2) ∧ W.cell? ⟨ub, uo, none⟩ = some (.int .i64 p) ∧ W.cell? ⟨ub, uo + 1, none⟩ = some (.int .i64 q) ∧ W.cell? (ad.add (p * 2)) = some (.float .f64 x.f0) ∧ W.cell? ⟨(ad.add (p * 2)).block, (ad.add (p * 2)).off + 1, none⟩ = some (.float .f64 x.f1) ∧ W.cell? (ad.add (q * 2)) = some (.float .f64 y.f0) ∧ W.cell? ⟨(ad.add (q * 2)).block, (ad.add (q * 2)).off + 1, none⟩ = some (.float .f64 y.f1) ∧ W.cell? (ad.add (i * 2)) = some (.float .f64 z.f0) ∧ W.cell? ⟨(ad.add (i * 2)).block, (ad.add (i * 2)).off + 1, none⟩ = some (.float .f64 z.f1) := ⟨hB, hC, hz0, hz1, hx0, hx1, hy0, hy1, hv0, hv1⟩
 go_region_held (fun w' => w'.cell? ⟨B, 0, none⟩ = some (.slice (some ad) l.length c) ∧ w'.cell? ⟨C, 0, none⟩ = some (.slice (some ⟨ub, uo, none⟩) us.length c2) ∧ w'.cell? ⟨ub, uo, none⟩ = some (.int .i64 p) ∧ w'.cell? ⟨ub, uo + 1, none⟩ = some (.int .i64 q) ∧ w'.cell? (ad.add (p * 2)) = some (.float .f64 x.f0) ∧ w'.cell? ⟨(ad.add (p * 2)).block, (ad.add (p * 2)).off + 1, none⟩ = some (.float .f64 x.f1) ∧ w'.cell? (ad.add (q * 2)) = some (.float .f64 y.f0) ∧ w'.cell? ⟨(ad.add (q * 2)).block, (ad.add (q * 2)).off + 1, none⟩ = some (.float .f64 y.f1) ∧ w'.cell? (ad.add (i * 2)) = some (.float .f64 z.f0) ∧ w'.cell? ⟨(ad.add (i * 2)).block, (ad.add (i * 2)).off + 1, none⟩ = some (.float .f64 z.f1))
  (first | exact hS | (exact ten_below (by assumption) (by assumption)))
  (first | (go_at_call 24; (with_reducible refine (hsc _).mono ?_); rintro o w2 ⟨rfl, hb2⟩))
 all_goals go_wp2
 all_goals go_ret
 all_goals exact ⟨by by_cases h : r = 0 <;> simp [h], (Below.refl W.heap.size W).drew.trans (by assumption)⟩
set_option maxRecDepth 100000 in
set_option maxHeartbeats 2000000 in
theorem indexI_calls (A : Option Addr) (c : Nat) (l : List S) (A2 : Option Addr) (c2 : Nat) (us : List Nat) (A3 : Option Addr) (c3 : Nat) (vs : List Nat) (B C : Nat) (hg : ∀ x ∈ l, gp x = true) (hu : ∀ y ∈ us, y < l.length) (hv : ∀ y ∈ vs, y < l.length) (hn : 2 ≤ us.length) (W : World) (hB : W.cell? ⟨B, 0, none⟩ = some (.slice A l.length c)) (hC : W.cell? ⟨C, 0, none⟩ = some (.slice A2 us.length c2)) (hl : Kd.C k32 W A l.length l) (hul : Kd.C (Kd.int .i64) W A2 us.length (zi us)) (hvl : Kd.C (Kd.int .i64) W A3 vs.length (zi vs)) :
 Calls Tryz.prog 74 #[.slice A3 vs.length c3, .func (.func 53) #[] #[.pointer (some ⟨B, 0, none⟩), .pointer (some ⟨C, 0, none⟩)]] W fun e w' => e = .returned (.int .i64 (idxF (fun i => decide (sgnAt l (us.getD 0 0) (us.getD 1 0) i ≠ 0)) 0 vs)) ∧ Below W.heap.size W w' := by
 have hm := hvl.2.1
 have hcl := fun i (hi : i < l.length) W' (hb : Below W.heap.size W W') => flat_closure A c l A2 c2 us B C i hg hu hn hi W' (bcell hb hB) (bcell hb hC) (Kd.C_below hl hb) (Kd.C_below hul hb)
 have hcl' : ∀ i, i < l.length → ∀ W', Below W.heap.size W W' → Calls Tryz.prog 53 #[.int .i64 i, .pointer (some ⟨B, 0, none⟩), .pointer (some ⟨C, 0, none⟩)] W' fun e w' => e = .returned (.bool ((fun i => decide (sgnAt l (us.getD 0 0) (us.getD 1 0) i ≠ 0)) i)) ∧ Below W'.heap.size W' w' := hcl
 clear hcl
 generalize (fun i => decide (sgnAt l (us.getD 0 0) (us.getD 1 0) i ≠ 0)) = p at *
 go_enter Tryz.func74, Tryz.ntmps74
 go_wp2
 go_loopw [8] (fun x wr => ∃ (n : Nat), x = .int .i64 n ∧ n ≤ vs.length ∧ Below W.heap.size W wr ∧ Aside0 (idxF p n (vs.drop n) = idxF p 0 vs)) (fun x _ => vs.length - (intOf x).toNat)
 case atStart => exact ⟨0, rfl, Nat.zero_le _, Below.refl _ _, ⟨rfl⟩⟩
 case round =>
  obtain ⟨n, rfl, hn', hB', hi⟩ := hrel
  by_cases hlt : n < vs.length
  ·have d1 : decide ((n : Int) < (vs.length : Int)) = true := by simp; omega
   have d2 : decide (n < vs.length) = true := by simp; omega
   obtain ⟨ad, rfl, hx⟩ := Kd.at_int (Kd.C_below hvl hB') n (by omega) (by omega)
   rw [Int.toNat_natCast, rd, Int.toNat_natCast, List.getD_eq_getElem?_getD, zi_get hlt] at hx
   have hy : vs.getD n 0 < l.length := by rw [List.getD_eq_getElem?_getD, List.getElem?_eq_getElem hlt]; exact hv _ (List.getElem_mem hlt)
   have hc1 := fun W' hb => hcl' (vs.getD n 0) hy W' hb
   replace hi := hi.out
   rw [List.drop_eq_getElem_cons hlt, show vs[n] = vs.getD n 0 from by rw [List.getD_eq_getElem?_getD, List.getElem?_eq_getElem hlt]; rfl, idxF] at hi
   generalize vs.getD n 0 = y at *
   cases hp : p y
   ·rw [hp] at hi hc1
    rw [if_neg (by decide)] at hi
    replace hi := Aside0.mk hi
    go_wp2_with (go_at_call 53; (with_reducible refine (hc1 _ hB').mono ?_); rintro u w1 ⟨rfl, hb1⟩)
    go_roundw
    case rel => exact ⟨n + 1, by go_num, by omega, hB'.trans (hb1.mono hB'.size), hi⟩
    case measure => simp [intOf]; omega
   ·rw [hp] at hi hc1
    rw [if_pos rfl] at hi
    replace hi := Aside0.mk hi
    go_wp2_with (go_at_call 53; (with_reducible refine (hc1 _ hB').mono ?_); rintro u w1 ⟨rfl, hb1⟩)
    go_ret
    rw [← hi.out]
    exact ⟨rfl, hB'.trans (hb1.mono hB'.size)⟩
  ·have d1 : decide ((n : Int) < (vs.length : Int)) = false := by simp; omega
   have d2 : decide (n < vs.length) = false := by simp; omega
   replace hi := hi.out
   rw [List.drop_eq_nil_of_le (by omega), idxF] at hi
   replace hi := Aside0.mk hi
   go_wp2
   go_ret
   rw [← hi.out]
   exact ⟨rfl, hB'⟩
set_option maxRecDepth 100000 in
set_option maxHeartbeats 1000000 in
theorem contains_calls (A : Option Addr) (c : Nat) (l : List S) (A2 : Option Addr) (c2 : Nat) (us : List Nat) (A3 : Option Addr) (c3 : Nat) (vs : List Nat) (B C : Nat) (hg : ∀ x ∈ l, gp x = true) (hu : ∀ y ∈ us, y < l.length) (hv : ∀ y ∈ vs, y < l.length) (hn : 2 ≤ us.length) (W : World) (hB : W.cell? ⟨B, 0, none⟩ = some (.slice A l.length c)) (hC : W.cell? ⟨C, 0, none⟩ = some (.slice A2 us.length c2)) (hl : Kd.C k32 W A l.length l) (hul : Kd.C (Kd.int .i64) W A2 us.length (zi us)) (hvl : Kd.C (Kd.int .i64) W A3 vs.length (zi vs)) :
 Calls Tryz.prog 52 #[.slice A3 vs.length c3, .func (.func 53) #[] #[.pointer (some ⟨B, 0, none⟩), .pointer (some ⟨C, 0, none⟩)]] W fun e w' => e = .returned (.bool (vs.any fun i => decide (sgnAt l (us.getD 0 0) (us.getD 1 0) i ≠ 0))) ∧ Below W.heap.size W w' := by
 have hi := indexI_calls A c l A2 c2 us A3 c3 vs B C hg hu hv hn W hB hC hl hul hvl
 have he : (vs.any fun i => decide (sgnAt l (us.getD 0 0) (us.getD 1 0) i ≠ 0)) = decide (0 ≤ idxF (fun i => decide (sgnAt l (us.getD 0 0) (us.getD 1 0) i ≠ 0)) 0 vs) := by
  rw [Bool.eq_iff_iff, List.any_eq_true, decide_eq_true_iff, idxF_nn]
 rw [he]
 generalize idxF (fun i => decide (sgnAt l (us.getD 0 0) (us.getD 1 0) i ≠ 0)) 0 vs = r at hi ⊢
 clear he
 go_enter Tryz.func52, Tryz.ntmps52
 go_wp2_with (go_at_call 74; (with_reducible refine hi.mono ?_); rintro u w1 ⟨rfl, hb1⟩)
 go_ret
 exact ⟨rfl, hb1⟩
def flatAll (l : List S) : Bool := if (allF l).2 = 0 then (if (unlAll l).length < 3 then true else !((unlAll l).drop 2).any fun i => decide (sgnAt l ((unlAll l).getD 0 0) ((unlAll l).getD 1 0) i ≠ 0)) else false
theorem runs_mem {P : Nat → Geo.Pt} : ∀ (l : List Nat) (p : Nat), ∀ x ∈ Geo.runs P p l, x ∈ l
 | [], _, x, hx => by simp [Geo.runs] at hx
 | y :: l, p, x, hx => by
  unfold Geo.runs at hx
  split at hx
  ·exact List.mem_cons_of_mem _ (runs_mem l _ x hx)
  ·rcases List.mem_cons.mp hx with rfl | hx
   ·simp
   ·exact List.mem_cons_of_mem _ (runs_mem l _ x hx)
theorem unl_lt (l : List S) : ∀ y ∈ unlAll l, y < l.length := fun y hy => by
 unfold unlAll at hy
 refine ordAll_lt l y ?_
 cases h : ordAll l with
 | nil => rw [h] at hy; simp [Geo.compact] at hy
 | cons a t =>
  rw [h] at hy
  rcases List.mem_cons.mp (show y ∈ a :: Geo.runs (PT l) a t from hy) with rfl | hy
  ·simp
  ·exact List.mem_cons_of_mem _ (runs_mem _ _ y hy)
set_option maxRecDepth 100000 in
set_option maxHeartbeats 2000000 in
theorem flat_calls (A : Option Addr) (c : Nat) (l : List S) (w : World) (hl : Kd.C k32 w A l.length l) (hc : l.length ≤ c) (hw : Wd l) :
 Calls Tryz.prog 17 #[.slice A l.length c] w fun e w' => e = .returned (.bool (flatAll l)) ∧ Below w.heap.size w w' := by
 have hmf : ∀ (fn : Fn) (first cap : Array Value) (w : World), (Instr.makeFunc fn first cap).run Tryz.prog w = .ok (.func fn first cap) w := fun _ _ _ _ => rfl
 have hb0 : Below w.heap.size w (w.alloc (.cells #[.slice A l.length c] 22)) := (Below.refl _ _).alloc (Nat.le_refl _) _
 have hgd := good_calls A c l (w.alloc (.cells #[.slice A l.length c] 22)) (Kd.C_below hl hb0) hc hw
 unfold flatAll
 by_cases hg : (allF l).2 = 0
 ·rw [if_pos hg]
  rw [show ((allF l).2 == 0) = true from beq_iff_eq.mpr hg] at hgd
  obtain ⟨-, hgp⟩ := (allF_ok l).mp hg
  have hun := fun W h => unlike_calls A c l W h hc hw
  have hul := unl_lt l
  generalize unlAll l = us at *
  have hlz : (zi us).length = us.length := List.length_map ..
  by_cases h3 : us.length < 3
  ·have d1 : decide ((us.length : Int) < 3) = true := by simp; omega
   have d2 : decide (us.length < 3) = true := by simp; omega
   rw [if_pos h3]
   go_enter Tryz.func17, Tryz.ntmps17
   go_wp2_with (first | (go_at_call 45; (with_reducible refine hgd.mono ?_); rintro u w1 ⟨rfl, hb1⟩; have hbx1 := (blk_cell (box_after hb1) 0).trans (show _ = some (Value.slice A l.length c) from rfl); have hw1 : Below w.heap.size w w1 := hb0.trans (hb1.mono (by simp))) | (go_at_call 16; (with_reducible refine (hun _ (Kd.C_below hl hw1)).mono ?_); rintro u w2 ⟨v2, rfl, hR2, hB2⟩; obtain ⟨A2, c2, rfl, hle2, hC2⟩ := Kd.R_reads hR2; rw [hlz] at hC2 hle2))
   go_ret
   refine ⟨rfl, ?_⟩
   have hw2 := hw1.trans (hB2.mono hw1.size)
   first | exact (hw2.alloc hw2.size _) | exact ((hw2.alloc hw2.size _).setCell (by show w.heap.size ≤ _; exact hw2.size) _)
  ·have d1 : decide ((us.length : Int) < 3) = false := by simp; omega
   have d2 : decide (us.length < 3) = false := by simp; omega
   have l3 : 2 ≤ us.length := by omega
   rw [if_neg h3]
   have hlen : ((us.drop 2).length : Nat) = us.length - 2 := List.length_drop
   have hv : ∀ y ∈ us.drop 2, y < l.length := fun y hy => hul y (List.mem_of_mem_drop hy)
   go_enter Tryz.func17, Tryz.ntmps17
   go_wp2_with (first | (go_at_call 45; (with_reducible refine hgd.mono ?_); rintro u w1 ⟨rfl, hb1⟩; have hbx1 := (blk_cell (box_after hb1) 0).trans (show _ = some (Value.slice A l.length c) from rfl); have hw1 : Below w.heap.size w w1 := hb0.trans (hb1.mono (by simp))) | (go_at_call 16; (with_reducible refine (hun _ (Kd.C_below hl hw1)).mono ?_); rintro u w2 ⟨v2, rfl, hR2, hB2⟩; obtain ⟨A2, c2, rfl, hle2, hC2⟩ := Kd.R_reads hR2; rw [hlz] at hC2 hle2; obtain ⟨⟨ub, uo, usp⟩, rfl, hz0⟩ := Kd.at_int hC2 0 (by omega) (by omega); have hsp : usp = none := (by simpa [Addr.add] using World.cell?_spot hz0); subst hsp; have hbx2 := bcell hB2 hbx1; have hw2 := hw1.trans (hB2.mono hw1.size); have hc2 : 2 ≤ c2 := (by omega)))
   have hw3 := hw2.alloc hw2.size (.cells #[.slice (some ⟨ub, uo, none⟩) us.length c2] 26)
   have hC3 : Kd.C (Kd.int .i64) (w2.alloc (.cells #[.slice (some ⟨ub, uo, none⟩) us.length c2] 26)) (some ⟨ub, uo, none⟩) us.length (zi us) := Kd.C_alloc hC2 _
   have hD := Kd.C_drop (m := 2) (c := c2) (xs := zi us) (by rw [hlz]; exact hC3) (by rw [hlz]; omega) (by rw [hlz]; exact hle2)
   rw [if_neg (by omega), show (zi us).drop 2 = zi (us.drop 2) from (List.map_drop).symm, show (zi (us.drop 2)).length = (us.drop 2).length from List.length_map ..] at hD
   have hcon := contains_calls A c l (some ⟨ub, uo, none⟩) c2 us _ (c2 - 2) (us.drop 2) w.heap.size w2.heap.size hgp hul hv l3 (w2.alloc (.cells #[.slice (some ⟨ub, uo, none⟩) us.length c2] 26)) (bcell ((Below.refl _ _).alloc (Nat.le_refl _) _) hbx2) ((blk_cell (heap_alloc_new w2 _) 0).trans rfl) (Kd.C_below hl hw3) hC3 hD
   rw [hlen] at hcon
   generalize hr : ((us.drop 2).any fun i => decide (sgnAt l (us.getD 0 0) (us.getD 1 0) i ≠ 0)) = r at hcon
   have HR := Aside0.mk hr
   clear hr
   go_wp2_with (go_at_call 52; refine hcon.mono ?_; rintro u w3 ⟨rfl, hb3⟩)
   go_ret
   rw [HR.out]
   exact ⟨rfl, hw3.trans (hb3.mono hw3.size)⟩
 ·rw [if_neg hg]
  rw [show ((allF l).2 == 0) = false from beq_eq_false_iff_ne.mpr hg] at hgd
  go_enter Tryz.func17, Tryz.ntmps17
  go_wp2_with (go_at_call 45; (with_reducible refine hgd.mono ?_); rintro u w1 ⟨rfl, hb1⟩)
  go_ret
  exact ⟨rfl, hb0.trans (hb1.mono (by simp))⟩
end Go.Proofs.YtioahkblhekgpaaGreatDoor.Adm
