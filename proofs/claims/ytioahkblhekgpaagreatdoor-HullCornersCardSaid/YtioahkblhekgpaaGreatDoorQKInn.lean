/- What the proof needs of Inn: only what is used is left (wip/tools/prune.py). Conditions stand in each sentence. -/
import Derived.Deep.RegionHeld3
import Derived.Test.YtioahkblhekgpaaGreatDoorQKArb
import Derived.Test.YtioahkblhekgpaaGreatDoorQKCnt
set_option linter.unusedVariables false
set_option linter.unusedSimpArgs false
namespace Go.Proofs.YtioahkblhekgpaaGreatDoor.E
end Go.Proofs.YtioahkblhekgpaaGreatDoor.E
namespace Go.Proofs.YtioahkblhekgpaaGreatDoor.FltP
end Go.Proofs.YtioahkblhekgpaaGreatDoor.FltP
namespace Go.Proofs.YtioahkblhekgpaaGreatDoor.O
end Go.Proofs.YtioahkblhekgpaaGreatDoor.O
namespace Go.Proofs.YtioahkblhekgpaaGreatDoor.R
end Go.Proofs.YtioahkblhekgpaaGreatDoor.R
namespace Go.Proofs.YtioahkblhekgpaaGreatDoorW.PrintLast
end Go.Proofs.YtioahkblhekgpaaGreatDoorW.PrintLast
namespace Go.Proofs.YtioahkblhekgpaaGreatDoorW.PrintMore
end Go.Proofs.YtioahkblhekgpaaGreatDoorW.PrintMore
namespace Go.Proofs.YtioahkblhekgpaaGreatDoorW.PrintWords
end Go.Proofs.YtioahkblhekgpaaGreatDoorW.PrintWords
namespace Go.Proofs.YtioahkblhekgpaaGreatDoor.Adm
open Go.RowKit Go.Proofs.YtioahkblhekgpaaGreatDoor.FltP Go.Proofs.YtioahkblhekgpaaGreatDoor.R Go.Proofs.YtioahkblhekgpaaGreatDoor.E Go.Proofs.YtioahkblhekgpaaGreatDoor.O Go.Proofs.YtioahkblhekgpaaGreatDoorW.PrintWords Go.Proofs.YtioahkblhekgpaaGreatDoorW.PrintLast Go.Proofs.YtioahkblhekgpaaGreatDoorW.PrintMore
def holdS (x y : S) : Int := holdAt [x, y] 0 1
theorem gp_wd {x : S} (h : gp x = true) : x.f0 < 2 ^ 64 ∧ x.f1 < 2 ^ 64 := ⟨(gp_good h).1.1.2, (gp_good h).2.1.2⟩
theorem cmp_any {x y : S} (gx : gp x = true) (gy : gp y = true) (w : World) :
 Calls Tryz.prog 25 #[.agg #[.float .f64 x.f0, .float .f64 x.f1], .agg #[.float .f64 y.f0, .float .f64 y.f1]] w fun e w' => e = .returned (.int .i64 (holdS x y)) ∧ Below w.heap.size w w' := by
 have hm : ∀ z ∈ [x, y], gp z = true := fun z hz => by
  rcases List.mem_cons.mp hz with rfl | hz
  ·exact gx
  ·rw [List.mem_singleton.mp hz]; exact gy
 obtain ⟨k, hk⟩ := (Pure.cmp_at (l := [x, y]) (a := 0) (b := 1) (fun z hz => gp_wd (hm z hz)) hm (by simp) (by simp)).rounds
 exact admit_Cmp.calls k _ _ _ _ _ w hk
theorem holdS_iff (x y : S) : holdS x y = 0 ↔ pt x = pt y := (holdAt_iff [x, y] 0 1).2
def at_ (l : List S) (i : Nat) : S := rd_T32 l (i : Int)
def nxt (h : List Nat) (i : Nat) : Nat := h.getD ((i + 1) % h.length) 0
def hit (l : List S) (p : S) (h : List Nat) (i : Nat) : Bool := decide (pt (at_ l (h.getD i 0)) = pt p)
def onE (l : List S) (p : S) (h : List Nat) (i : Nat) : Bool := onS (at_ l (h.getD i 0)) (at_ l (nxt h i)) p
def lfE (l : List S) (p : S) (h : List Nat) (i : Nat) : Bool := decide (sgnS (at_ l (h.getD i 0)) (at_ l (nxt h i)) p = 1)
def inKind (l : List S) (p : S) (h : List Nat) : Int :=
 if (List.range h.length).any (hit l p h) = true then 3 else if (List.range h.length).any (onE l p h) = true then 2
 else if 2 < h.length ∧ (List.range h.length).all (lfE l p h) = true then 1 else 4
def inAll (l : List S) (p : S) : Int × Int := if (allF l).2 ≠ 0 then (0, (allF l).2) else if gp p = false then (0, 10) else (inKind l p (hullAll l false), 0)
def lefts (l : List S) (p : S) (h : List Nat) (i : Nat) : Nat := ((List.range i).filter (lfE l p h)).length
theorem lefts_succ (l : List S) (p : S) (h : List Nat) (i : Nat) : lefts l p h (i + 1) = lefts l p h i + if lfE l p h i = true then 1 else 0 := by
 unfold lefts
 rw [List.range_succ, List.filter_append, List.length_append]
 split <;> rename_i h1 <;> simp [h1]
theorem lefts_le (l : List S) (p : S) (h : List Nat) (i : Nat) : lefts l p h i ≤ i := by
 unfold lefts
 exact Nat.le_trans (List.length_filter_le _ _) (by simp)
theorem lefts_all {l : List S} {p : S} {h : List Nat} (i : Nat) : lefts l p h i = i ↔ (List.range i).all (lfE l p h) = true := by
 unfold lefts
 have := List.length_filter_eq_length_iff (p := lfE l p h) (l := List.range i)
 rw [List.length_range] at this
 rw [this, List.all_eq_true]
theorem any_succ (f : Nat → Bool) (i : Nat) : (List.range (i + 1)).any f = ((List.range i).any f || f i) := by
 rw [List.range_succ, List.any_append]; simp
theorem ring_mem {P : Nat → Geo.Pt} {e : Bool} {u : List Nat} {y : Nat} (h : y ∈ Geo.ring P e u) : y ∈ u := by
 unfold Geo.ring at h
 have key : ∀ L : List Nat, ∀ z ∈ (Geo.chain P e L).reverse.dropLast, z ∈ L := fun L z hz => by
  have h1 := List.mem_reverse.mp (List.dropLast_subset _ hz)
  have := (chain_sub P e L L.length (Nat.le_refl _)).2 z
  rw [List.take_length] at this
  exact this h1
 rcases List.mem_append.mp h with h | h
 ·exact key _ _ h
 ·exact List.mem_reverse.mp (key _ _ h)
theorem hull_lt {l : List S} {ed : Bool} : ∀ y ∈ hullAll l ed, y < l.length := fun y hy => by
 unfold hullAll at hy
 have hu := unl_lt l
 split at hy
 ·simp at hy
 ·split at hy
  ·exact hu y hy
  ·rename_i h3
   split at hy
   ·split at hy
    ·exact hu y hy
    ·have g : ∀ i, i < (unlAll l).length → (unlAll l).getD i 0 < l.length := fun i hi => by
      rw [List.getD_eq_getElem?_getD, List.getElem?_eq_getElem hi]; exact hu _ (List.getElem_mem _)
     rcases List.mem_cons.mp hy with rfl | hy
     ·exact g 0 (by omega)
     ·rw [List.mem_singleton.mp hy]; exact g _ (by omega)
   ·exact hu y (ring_mem hy)
theorem getD_lt {h : List Nat} {n i : Nat} (hh : ∀ y ∈ h, y < n) (hi : i < h.length) : h.getD i 0 < n := by
 rw [List.getD_eq_getElem?_getD, List.getElem?_eq_getElem hi]; exact hh _ (List.getElem_mem _)
theorem six_below2 {w w1 : World} {p1 p2 p3 p4 p5 p6 : Addr} {v1 v2 v3 v4 v5 v6 : Value} (hb : Below w.heap.size w w1) (h : w.cell? p1 = some v1 ∧ w.cell? p2 = some v2 ∧ w.cell? p3 = some v3 ∧ w.cell? p4 = some v4 ∧ w.cell? p5 = some v5 ∧ w.cell? p6 = some v6) :
 w1.cell? p1 = some v1 ∧ w1.cell? p2 = some v2 ∧ w1.cell? p3 = some v3 ∧ w1.cell? p4 = some v4 ∧ w1.cell? p5 = some v5 ∧ w1.cell? p6 = some v6 :=
 ⟨bcell hb h.1, bcell hb h.2.1, bcell hb h.2.2.1, bcell hb h.2.2.2.1, bcell hb h.2.2.2.2.1, bcell hb h.2.2.2.2.2⟩
def InPost (l : List S) (p : S) (w : World) (e : Ending) (w' : World) : Prop := e = .returned (.tuple #[.int .u8 (inAll l p).1, .int .i64 (inAll l p).2]) ∧ Below w.heap.size w w'
set_option maxRecDepth 100000 in
set_option maxHeartbeats 4000000 in
theorem in_good (A : Option Addr) (c : Nat) (l : List S) (p : S) (w : World) (hl : Kd.C k32 w A l.length l) (hc : l.length ≤ c) (hw : Wd l) (h0 : (allF l).2 = 0) (hp : gp p = true) :
 Calls Tryz.prog 39 #[.slice A l.length c, .agg #[.float .f64 p.f0, .float .f64 p.f1]] w (InPost l p w) := by
 have hu32 := Tryz.underlying32
 have hh := hull_calls A c l
 have hgp : ∀ x ∈ l, gp x = true := ((allF_ok l).mp h0).2
 have hmay : ∀ W, Calls Tryz.prog 28 #[.agg #[.float .f64 p.f0, .float .f64 p.f1]] W fun e w' => e = .returned (.bool true) ∧ Below W.heap.size W w' := fun W => by
  have := admit_May.calls _ _ _ W (may_some (gp_wd hp).1 (gp_wd hp).2)
  rw [show (goodB p.f0 && goodB p.f1) = true from hp] at this
  exact this
 have hres : inAll l p = (inKind l p (hullAll l false), 0) := by unfold inAll; rw [if_neg (by omega), if_neg (by rw [hp]; decide)]
 have HC := Aside0.mk hc
 clear hc
 go_enter Tryz.func39, Tryz.ntmps39
 go_wp2_with (first
  | (go_at_call 32; (with_reducible refine (hh _ (Kd.C_below hl (below_alloc (Below.refl _ _) _)) HC.out hw).mono ?_); rintro u w1 ⟨v1, rfl, hR1, hb1⟩; obtain ⟨A1, c1, rfl, hle1, hC1⟩ := Kd.R_reads hR1; rw [zi_length] at hC1 hle1 ⊢; have x0 := bcell (p := ⟨w.heap.size, 0, none⟩) (v := .float .f64 p.f0) hb1 (by simp); have x1 := bcell (p := ⟨w.heap.size, 1, none⟩) (v := .float .f64 p.f1) hb1 (by simp); have hB1 : Below w.heap.size w w1 := (below_alloc (Below.refl _ _) _).trans (hb1.mono (by simp)); clear hb1 hR1 hh)
  | (go_at_call 28; (with_reducible refine (hmay _).mono ?_); rintro u w2 ⟨rfl, hb2⟩; have x0 := bcell hb2 x0; have x1 := bcell hb2 x1; have hC2 := Kd.C_below hC1 hb2; have hB2 := hB1.trans (hb2.mono hB1.size); clear hb2 hmay hC1))
 have hlt := @hull_lt l false
 generalize hullAll l false = h at *
 obtain ⟨n, hn⟩ : ∃ n, n = h.length := ⟨_, rfl⟩
 rw [← hn] at hC2 hle1 ⊢
 have hm0 := hC2.2.1
 go_loopw [8, 9, 29] (fun v8 v9 v29 wr => ∃ k : Nat, k ≤ n ∧ v29 = .int .i64 k ∧ v8 = .int .i64 (lefts l p h k : Nat) ∧ v9 = .bool ((List.range k).any (onE l p h)) ∧ Aside0 ((List.range k).any (hit l p h) = false) ∧ Below w2.heap.size w2 wr) (fun _ _ v29 _ => n - (intOf v29).toNat)
 case atStart => exact ⟨0, Nat.zero_le _, rfl, rfl, rfl, ⟨rfl⟩, Below.refl _ _⟩
 case round =>
  obtain ⟨k, hk, rfl, rfl, rfl, HH, hB⟩ := hrel
  by_cases hkl : k < n
  ·have hnx : (k + 1) % n < n := Nat.mod_lt _ (by omega)
   obtain ⟨j, hj⟩ : ∃ j, j = (k + 1) % n := ⟨_, rfl⟩
   rw [← hj] at hnx
   have hxl := getD_lt hlt (by omega : k < h.length)
   have hyl := getD_lt hlt (by omega : j < h.length)
   have hCw := Kd.C_below hC2 hB
   have hlw := Kd.C_below hl (hB2.trans (hB.mono hB2.size))
   have p0 := bcell hB x0
   have p1 := bcell hB x1
   obtain ⟨qb, qo, rfl, hq⟩ := row_at hCw (by omega)
   have q0 := hq k hkl
   have q1 := hq j hnx
   rw [rd, Int.toNat_natCast, List.getD_eq_getElem?_getD, zi_get (by omega)] at q0 q1
   obtain ⟨ab, ao, rfl, hz⟩ := pts_at hlw (by omega)
   obtain ⟨a0, a1⟩ := hz _ hxl
   obtain ⟨b0, b1⟩ := hz _ hyl
   clear hq hz
   have ga := hgp _ (rd_at hxl)
   have gb := hgp _ (rd_at hyl)
   have ehit : hit l p h k = decide (pt (at_ l (h.getD k 0)) = pt p) := rfl
   have eon : onE l p h k = onS (at_ l (h.getD k 0)) (at_ l (h.getD j 0)) p := by unfold onE nxt; rw [← hn, ← hj]
   have elf : lfE l p h k = decide (sgnS (at_ l (h.getD k 0)) (at_ l (h.getD j 0)) p = 1) := by unfold lfE nxt; rw [← hn, ← hj]
   unfold at_ at ehit eon elf
   generalize h.getD k 0 = x at *
   generalize h.getD j 0 = y at *
   generalize rd_T32 l (x : Int) = a at *
   generalize rd_T32 l (y : Int) = b at *
   have hS : wr.cell? ⟨qb, qo + k, none⟩ = some (.int .i64 x) ∧ wr.cell? ⟨qb, qo + j, none⟩ = some (.int .i64 y) ∧ wr.cell? ⟨ab, ao + x * 2, none⟩ = some (.float .f64 a.f0) ∧ wr.cell? ⟨ab, ao + x * 2 + 1, none⟩ = some (.float .f64 a.f1) ∧ wr.cell? ⟨ab, ao + y * 2, none⟩ = some (.float .f64 b.f0) ∧ wr.cell? ⟨ab, ao + y * 2 + 1, none⟩ = some (.float .f64 b.f1) ∧ wr.cell? ⟨w.heap.size, 0, none⟩ = some (.float .f64 p.f0) ∧ wr.cell? ⟨w.heap.size, 1, none⟩ = some (.float .f64 p.f1) := ⟨q0, q1, a0, a1, b0, b1, p0, p1⟩
   have i1 : IntKind.i64.wrap ((k : Int) + 1) = (k : Int) + 1 := wrapI _ (by omega) (by omega)
   have i3 : ((k : Int) + 1) % (n : Int) = (j : Int) := by rw [hj, Int.natCast_emod]; rfl
   have i2 : Int.tmod ((k : Int) + 1) (n : Int) = (j : Int) := by rw [Int.tmod_eq_emod_of_nonneg (by omega)]; exact i3
   have i6 : ((n : Int) = 0) = False := eq_false (by omega)
   have i7 : (n = 0) = False := eq_false (by omega)
   have d1 : decide ((k : Int) < (n : Int)) = true := by simp; omega
   have d2 : decide (k < n) = true := by simp; omega
   have d3 : decide ((j : Int) < (n : Int)) = true := by simp; omega
   have d4 : decide (j < n) = true := by simp; omega
   have d5 : decide ((x : Int) < (l.length : Int)) = true := by simp; omega
   have d6 : decide ((y : Int) < (l.length : Int)) = true := by simp; omega
   have HJ := Aside0.mk hj
   have HN := Aside0.mk hn
   have HEH := Aside0.mk (And.intro ehit (And.intro eon elf))
   have HRS := Aside0.mk hres
   clear hres ehit eon elf hn hj q0 q1 a0 a1 b0 b1 p0 p1 hCw hlw
   go_upto_region 10 with (fail)
   go_cut [12, 13] (fun v12 v13 wc => ∃ g1 g2 : Nat, v12 = .pointer (some ⟨g1, 0, none⟩) ∧ v13 = .pointer (some ⟨g2, 0, none⟩) ∧ (wc.cell? ⟨g1, 0, none⟩ = some (.float .f64 a.f0) ∧ wc.cell? ⟨g1, 1, none⟩ = some (.float .f64 a.f1) ∧ wc.cell? ⟨g2, 0, none⟩ = some (.float .f64 b.f0) ∧ wc.cell? ⟨g2, 1, none⟩ = some (.float .f64 b.f1) ∧ wc.cell? ⟨w.heap.size, 0, none⟩ = some (.float .f64 p.f0) ∧ wc.cell? ⟨w.heap.size, 1, none⟩ = some (.float .f64 p.f1)) ∧ Below wr.heap.size wr wc)
   case first =>
    go_region_held3 (fun W' => W'.cell? ⟨qb, qo + k, none⟩ = some (.int .i64 x) ∧ W'.cell? ⟨qb, qo + j, none⟩ = some (.int .i64 y) ∧ W'.cell? ⟨ab, ao + x * 2, none⟩ = some (.float .f64 a.f0) ∧ W'.cell? ⟨ab, ao + x * 2 + 1, none⟩ = some (.float .f64 a.f1) ∧ W'.cell? ⟨ab, ao + y * 2, none⟩ = some (.float .f64 b.f0) ∧ W'.cell? ⟨ab, ao + y * 2 + 1, none⟩ = some (.float .f64 b.f1) ∧ W'.cell? ⟨w.heap.size, 0, none⟩ = some (.float .f64 p.f0) ∧ W'.cell? ⟨w.heap.size, 1, none⟩ = some (.float .f64 p.f1))
     (first | exact hS | (refine eight_below ?_ hS; (with_reducible (repeat (first | exact Below.refl _ _ | apply below_drew1 | apply below_alloc | apply pw_below_drewN)))))
     (fail)
    all_goals
     go_wp2
     go_meet
     case rel =>
      exact ⟨_, _, rfl, rfl, ⟨by simp, by simp, by simp, by simp, bcell (below_drew1 (below_alloc (below_alloc (Below.refl wr.heap.size wr) _) _)) hS.2.2.2.2.2.2.1, bcell (below_drew1 (below_alloc (below_alloc (Below.refl wr.heap.size wr) _) _)) hS.2.2.2.2.2.2.2⟩, below_drew1 (below_alloc (below_alloc (Below.refl _ _) _) _)⟩
   case rest =>
    obtain ⟨g1, g2, rfl, rfl, ⟨z1, z2, z3, z4, z5, z6⟩, hQ⟩ := hcut
    clear hS
    have hcmp := fun W => cmp_any ga hp W
    have hon := fun W => on_call ga gb hp W
    have hsg := fun W => sign_any ga gb hp W
    have hcz := holdS_iff a p
    have h3 : sgnS a b p = 1 ∨ sgnS a b p = 0 ∨ sgnS a b p = -1 := by
     unfold sgnS
     rcases Int.lt_trichotomy (Geo.det (pt a) (pt b) (pt p)) 0 with h | h | h
     ·exact .inr (.inr (Int.sign_eq_neg_one_of_neg h))
     ·rw [h]; exact .inr (.inl rfl)
     ·exact .inl (Int.sign_eq_one_of_pos h)
    have hls := lefts_succ l p h k
    have hle := lefts_le l p h k
    have hon1 := any_succ (onE l p h) k
    have hhi1 := any_succ (hit l p h) k
    have HE := HEH.out
    rw [HE.1] at hhi1
    rw [HE.2.1] at hon1
    rw [HE.2.2] at hls
    clear HE
    generalize sgnS a b p = r at *
    generalize onS a b p = o at *
    generalize holdS a p = cz at *
    generalize lefts l p h k = le at *
    generalize (List.range k).any (onE l p h) = oo at *
    have e1 : IntKind.i64.wrap ((le : Int) + 1) = (le : Int) + 1 := wrapI _ (by omega) (by omega)
    have i1 : IntKind.i64.wrap ((k : Int) + 1) = (k : Int) + 1 := wrapI _ (by omega) (by omega)
    have HLS := Aside0.mk hls
    have HON := Aside0.mk hon1
    have HHI := Aside0.mk hhi1
    clear hls hon1 hhi1
    by_cases hcz0 : cz = 0
    ·have hpt : pt a = pt p := hcz.mp hcz0
     subst hcz0
     clear hcz h3
     go_wp2_with (first
     | (go_at_call 25; (with_reducible refine (hcmp _).mono ?_); rintro u w4 ⟨rfl, hb⟩; obtain ⟨z1, z2, z3, z4, z5, z6⟩ := six_below2 hb ⟨z1, z2, z3, z4, z5, z6⟩; replace hQ := hQ.trans (hb.mono hQ.size); clear hb)
     | (go_at_call 68; (with_reducible refine (hon _).mono ?_); rintro u w5 ⟨rfl, hb⟩; obtain ⟨z1, z2, z3, z4, z5, z6⟩ := six_below2 hb ⟨z1, z2, z3, z4, z5, z6⟩; replace hQ := hQ.trans (hb.mono hQ.size); clear hb)
     | (go_at_call 24; (with_reducible refine (hsg _).mono ?_); rintro u w6 ⟨rfl, hb⟩; obtain ⟨z1, z2, z3, z4, z5, z6⟩ := six_below2 hb ⟨z1, z2, z3, z4, z5, z6⟩; replace hQ := hQ.trans (hb.mono hQ.size); clear hb))
     have hk3 : inKind l p h = 3 := by
      unfold inKind
      rw [if_pos (List.any_eq_true.mpr ⟨k, List.mem_range.mpr (by have := HN.out; omega), by rw [HEH.out.1]; exact decide_eq_true hpt⟩)]
     refine bodyPost_ret (v := .tuple #[.int .u8 3, .int .i64 0]) (by simp [results, Tryz.results39, go_sem]) rfl ⟨by rw [HRS.out, hk3], hB2.trans ((hB.trans (hQ.mono hB.size)).mono hB2.size)⟩
    ·have hpt : ¬ pt a = pt p := fun h => hcz0 (hcz.mpr h)
     have e0 : (cz == 0) = false := beq_eq_false_iff_ne.mpr hcz0
     have HPT := Aside0.mk hpt
     clear hcz hcz0 hpt
     cases oo
     all_goals
      rcases h3 with rfl | rfl | rfl
      all_goals
       go_wp2_with (first
       | (go_at_call 25; (with_reducible refine (hcmp _).mono ?_); rintro u w4 ⟨rfl, hb⟩; obtain ⟨z1, z2, z3, z4, z5, z6⟩ := six_below2 hb ⟨z1, z2, z3, z4, z5, z6⟩; replace hQ := hQ.trans (hb.mono hQ.size); clear hb)
       | (go_at_call 68; (with_reducible refine (hon _).mono ?_); rintro u w5 ⟨rfl, hb⟩; obtain ⟨z1, z2, z3, z4, z5, z6⟩ := six_below2 hb ⟨z1, z2, z3, z4, z5, z6⟩; replace hQ := hQ.trans (hb.mono hQ.size); clear hb)
       | (go_at_call 24; (with_reducible refine (hsg _).mono ?_); rintro u w6 ⟨rfl, hb⟩; obtain ⟨z1, z2, z3, z4, z5, z6⟩ := six_below2 hb ⟨z1, z2, z3, z4, z5, z6⟩; replace hQ := hQ.trans (hb.mono hQ.size); clear hb))
       exact ⟨⟨k + 1, by omega, by go_num, by (have := HLS.out; simp at this; rw [this]; try go_num), by rw [HON.out]; simp, ⟨by rw [HHI.out, HH.out]; simp [HPT.out]⟩, hB.trans (hQ.mono hB.size)⟩, by simp [intOf]; omega⟩
  ·obtain rfl : k = n := by omega
   have d1 : decide ((k : Int) < (k : Int)) = false := by simp
   have d2 : decide (k < k) = false := by simp
   have hall := @lefts_all l p h k
   have hBB := hB2.trans (hB.mono hB2.size)
   have hk : inKind l p h = if (List.range k).any (onE l p h) = true then 2 else if 2 < k ∧ lefts l p h k = k then 1 else 4 := by
    unfold inKind
    rw [← hn, if_neg (by rw [HH.out]; decide)]
    simp only [hall]
   have hle := lefts_le l p h k
   generalize lefts l p h k = le at *
   generalize (List.range k).any (onE l p h) = oo at *
   have HRS := Aside0.mk hres
   have HK := Aside0.mk hk
   clear hres hk hall hn hC2
   cases oo
   ·by_cases h2 : 2 < k
    ·have f1 : decide ((2 : Int) < (k : Int)) = true := by simp; omega
     have f2 : decide (2 < k) = true := by simp; omega
     by_cases h4 : le = k
     ·have hk1 : inKind l p h = 1 := by rw [HK.out, if_neg (by decide), if_pos ⟨h2, h4⟩]
      have HK1 := Aside0.mk hk1
      clear hk1
      subst h4
      have f3 : ((le : Int) == (le : Int)) = true := beq_self_eq_true _
      go_wp2
      refine bodyPost_ret (v := .tuple #[.int .u8 1, .int .i64 0]) (by simp [results, Tryz.results39, go_sem]) rfl ⟨by rw [HRS.out, HK1.out], hBB⟩
     ·have hk1 : inKind l p h = 4 := by rw [HK.out, if_neg (by decide), if_neg (fun h => h4 h.2)]
      have HK1 := Aside0.mk hk1
      have f3 : ((le : Int) == (k : Int)) = false := beq_eq_false_iff_ne.mpr (by omega)
      clear hk1 h4
      go_wp2
      refine bodyPost_ret (v := .tuple #[.int .u8 4, .int .i64 0]) (by simp [results, Tryz.results39, go_sem]) rfl ⟨by rw [HRS.out, HK1.out], hBB⟩
    ·have f1 : decide ((2 : Int) < (k : Int)) = false := by simp; omega
     have f2 : decide (2 < k) = false := by simp; omega
     have hk1 : inKind l p h = 4 := by rw [HK.out, if_neg (by decide), if_neg (fun h => h2 h.1)]
     have HK1 := Aside0.mk hk1
     clear hk1
     go_wp2
     refine bodyPost_ret (v := .tuple #[.int .u8 4, .int .i64 0]) (by simp [results, Tryz.results39, go_sem]) rfl ⟨by rw [HRS.out, HK1.out], hBB⟩
   ·have hk1 : inKind l p h = 2 := by rw [HK.out, if_pos rfl]
    have HK1 := Aside0.mk hk1
    clear hk1
    go_wp2
    refine bodyPost_ret (v := .tuple #[.int .u8 2, .int .i64 0]) (by simp [results, Tryz.results39, go_sem]) rfl ⟨by rw [HRS.out, HK1.out], hBB⟩
set_option maxRecDepth 100000 in
set_option maxHeartbeats 4000000 in
theorem in_bad (A : Option Addr) (c : Nat) (l : List S) (p : S) (w : World) (hl : Kd.C k32 w A l.length l) (hc : l.length ≤ c) (hw : Wd l) (h0 : (allF l).2 ≠ 0) :
 Calls Tryz.prog 39 #[.slice A l.length c, .agg #[.float .f64 p.f0, .float .f64 p.f1]] w (InPost l p w) := by
 have hu32 := Tryz.underlying32
 have hh := hull_calls A c l
 have hres : inAll l p = (0, (allF l).2) := by unfold inAll; rw [if_pos h0]
 have hr2 : hullAll l false = [] := by unfold hullAll; rw [if_pos h0]
 have e1 : ((allF l).2 != 0) = true := bne_iff_ne.mpr h0
 have e2 : ((allF l).2 == 0) = false := beq_eq_false_iff_ne.mpr h0
 have HC := Aside0.mk hc
 have HRS := Aside0.mk hres
 clear hc hres h0 hr2
 go_enter Tryz.func39, Tryz.ntmps39
 go_wp2_with (go_at_call 32; (with_reducible refine (hh _ (Kd.C_below hl (below_alloc (Below.refl _ _) _)) HC.out hw).mono ?_); rintro u w1 ⟨v1, rfl, hR1, hb1⟩; have hB1 : Below w.heap.size w w1 := (below_alloc (Below.refl _ _) _).trans (hb1.mono (by simp)); clear hh)
 exact bodyPost_ret (v := .tuple #[.int .u8 0, .int .i64 (allF l).2]) (by simp [results, Tryz.results39, go_sem]) rfl ⟨by rw [HRS.out], hB1⟩
set_option maxRecDepth 100000 in
set_option maxHeartbeats 4000000 in
theorem in_out (A : Option Addr) (c : Nat) (l : List S) (p : S) (w : World) (hl : Kd.C k32 w A l.length l) (hc : l.length ≤ c) (hw : Wd l) (h0 : (allF l).2 = 0) (hp : gp p = false) (hp0 : p.f0 < 2 ^ 64) (hp1 : p.f1 < 2 ^ 64) :
 Calls Tryz.prog 39 #[.slice A l.length c, .agg #[.float .f64 p.f0, .float .f64 p.f1]] w (InPost l p w) := by
 have hu32 := Tryz.underlying32
 have hh := hull_calls A c l
 have hmay : ∀ W, Calls Tryz.prog 28 #[.agg #[.float .f64 p.f0, .float .f64 p.f1]] W fun e w' => e = .returned (.bool false) ∧ Below W.heap.size W w' := fun W => by
  have := admit_May.calls _ _ _ W (may_some hp0 hp1)
  rw [show (goodB p.f0 && goodB p.f1) = false from hp] at this
  exact this
 have hres : inAll l p = (0, 10) := by unfold inAll; rw [if_neg (by omega), if_pos hp]
 have HC := Aside0.mk hc
 have HRS := Aside0.mk hres
 clear hc hres hp hp0 hp1
 go_enter Tryz.func39, Tryz.ntmps39
 go_wp2_with (first
  | (go_at_call 32; (with_reducible refine (hh _ (Kd.C_below hl (below_alloc (Below.refl _ _) _)) HC.out hw).mono ?_); rintro u w1 ⟨v1, rfl, hR1, hb1⟩; have x0 := bcell (p := ⟨w.heap.size, 0, none⟩) (v := .float .f64 p.f0) hb1 (by simp); have x1 := bcell (p := ⟨w.heap.size, 1, none⟩) (v := .float .f64 p.f1) hb1 (by simp); have hB1 : Below w.heap.size w w1 := (below_alloc (Below.refl _ _) _).trans (hb1.mono (by simp)); clear hb1 hh)
  | (go_at_call 28; (with_reducible refine (hmay _).mono ?_); rintro u w2 ⟨rfl, hb2⟩; have hB2 := hB1.trans (hb2.mono hB1.size); clear hb2 hmay))
 exact bodyPost_ret (v := .tuple #[.int .u8 0, .int .i64 10]) (by simp [results, Tryz.results39, go_sem]) rfl ⟨by rw [HRS.out], hB2⟩
theorem in_calls (A : Option Addr) (c : Nat) (l : List S) (p : S) (w : World) (hl : Kd.C k32 w A l.length l) (hc : l.length ≤ c) (hw : Wd l) (hp0 : p.f0 < 2 ^ 64) (hp1 : p.f1 < 2 ^ 64) :
 Calls Tryz.prog 39 #[.slice A l.length c, .agg #[.float .f64 p.f0, .float .f64 p.f1]] w (InPost l p w) := by
 by_cases h0 : (allF l).2 = 0
 ·cases hp : gp p with
  | true => exact in_good A c l p w hl hc hw h0 hp
  | false => exact in_out A c l p w hl hc hw h0 hp hp0 hp1
 ·exact in_bad A c l p w hl hc hw h0
end Go.Proofs.YtioahkblhekgpaaGreatDoor.Adm
