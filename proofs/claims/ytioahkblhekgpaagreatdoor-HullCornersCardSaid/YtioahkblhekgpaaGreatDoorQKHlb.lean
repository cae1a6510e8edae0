/- What the proof needs of Hlb: only what is used is left (wip/tools/prune.py). Conditions stand in each sentence. -/
import Derived.Deep.RegionHeld3
import Derived.Test.YtioahkblhekgpaaGreatDoorQKInn
import Derived.Test.YtioahkblhekgpaaGreatDoorQKCnt
import Derived.Test.YtioahkblhekgpaaGreatDoorQKWrk
set_option linter.unusedVariables false
set_option linter.unusedSimpArgs false
namespace Go.Proofs.YtioahkblhekgpaaGreatDoor.E
end Go.Proofs.YtioahkblhekgpaaGreatDoor.E
namespace Go.Proofs.YtioahkblhekgpaaGreatDoor.FltP
end Go.Proofs.YtioahkblhekgpaaGreatDoor.FltP
namespace Go.Proofs.YtioahkblhekgpaaGreatDoor.O
end Go.Proofs.YtioahkblhekgpaaGreatDoor.O
namespace Go.Proofs.YtioahkblhekgpaaGreatDoor.R
end Go.Proofs.YtioahkblhekgpaaGreatDoor.R
namespace Go.Proofs.YtioahkblhekgpaaGreatDoorW.PrintLast
end Go.Proofs.YtioahkblhekgpaaGreatDoorW.PrintLast
namespace Go.Proofs.YtioahkblhekgpaaGreatDoorW.PrintMore
end Go.Proofs.YtioahkblhekgpaaGreatDoorW.PrintMore
namespace Go.Proofs.YtioahkblhekgpaaGreatDoorW.PrintWords
end Go.Proofs.YtioahkblhekgpaaGreatDoorW.PrintWords
namespace Go.Proofs.YtioahkblhekgpaaGreatDoor.Adm
open Go.RowKit Go.Proofs.YtioahkblhekgpaaGreatDoor.FltP Go.Proofs.YtioahkblhekgpaaGreatDoor.R Go.Proofs.YtioahkblhekgpaaGreatDoor.E Go.Proofs.YtioahkblhekgpaaGreatDoor.O Go.Proofs.YtioahkblhekgpaaGreatDoorW.PrintWords Go.Proofs.YtioahkblhekgpaaGreatDoorW.PrintLast Go.Proofs.YtioahkblhekgpaaGreatDoorW.PrintMore
theorem at_call (x y : Nat) (w : World) : Calls Tryz.prog 63 #[.float .f64 x, .float .f64 y] w fun e w' => e = .returned (.agg #[.float .f64 x, .float .f64 y]) ∧ Below w.heap.size w w' := by
 go_enter Tryz.func63, Tryz.ntmps63
 go_wp2
 refine bodyPost_ret (v := .agg #[.float .f64 x, .float .f64 y]) ?_ rfl ⟨rfl, (Below.refl _ _).alloc (Nat.le_refl _) _⟩
 simp [results, Tryz.results63, go_sem]
def eqUpto (xs ys : List Int) (k : Nat) : Prop := ∀ i, i < k → rd xs (i : Int) = rd ys (i : Int)
theorem rd_ext {xs ys : List Int} (hl : xs.length = ys.length) (h : eqUpto xs ys xs.length) : xs = ys := by
 apply List.ext_getElem hl
 intro i h1 h2
 have := h i h1
 simpa [rd, List.getD_eq_getElem?_getD, List.getElem?_eq_getElem h1, List.getElem?_eq_getElem h2] using this
set_option maxRecDepth 100000 in
set_option maxHeartbeats 4000000 in
theorem numbers_call (A B : Option Addr) (n m c d : Nat) (xs ys : List Int) (w : World) (ha : Kd.C (Kd.int .i64) w A n xs) (hb : Kd.C (Kd.int .i64) w B m ys) (hn : xs.length = n) (hm : ys.length = m) (hc : n ≤ c) (hd : m ≤ d) :
 Calls Tryz.prog 38 #[.slice A n c, .slice B m d] w fun e w' => e = .returned (.bool (decide (xs = ys))) ∧ Below w.heap.size w w' := by
 have HL := Aside0.mk (And.intro hn hm)
 clear hn hm
 have hn0 := ha.2.1
 by_cases hnm : n = m
 ·subst hnm
  go_enter Tryz.func38, Tryz.ntmps38
  go_wp2
  go_loopw [5] (fun v5 wr => ∃ k : Nat, k ≤ n ∧ v5 = .int .i64 k ∧ Aside0 (eqUpto xs ys k) ∧ Below w.heap.size w wr) (fun v5 _ => n - (intOf v5).toNat)
  case atStart => exact ⟨0, Nat.zero_le _, rfl, ⟨fun i hi => absurd hi (by omega)⟩, Below.refl _ _⟩
  case round =>
   obtain ⟨k, hk, rfl, HE, hB⟩ := hrel
   have haw := Kd.C_below ha hB
   have hbw := Kd.C_below hb hB
   by_cases hkn : k < n
   ·obtain ⟨ab, ao, rfl, hx⟩ := row_at haw (by omega)
    obtain ⟨bb, bo, rfl, hy⟩ := row_at hbw (by omega)
    have x0 := hx k hkn
    have y0 := hy k hkn
    have d1 : decide ((k : Int) < (n : Int)) = true := by simp; omega
    have d2 : decide (k < n) = true := by simp; omega
    have i1 : IntKind.i64.wrap ((k : Int) + 1) = (k : Int) + 1 := wrapI _ (by omega) (by omega)
    clear hx hy
    have hst : rd xs (k : Int) = rd ys (k : Int) → eqUpto xs ys (k + 1) := fun h i hi => by
     rcases Nat.lt_or_ge i k with h1 | h1
     ·exact HE.out i h1
     ·rw [show i = k from by omega]; exact h
    have hno : rd xs (k : Int) ≠ rd ys (k : Int) → xs ≠ ys := fun h e => h (by rw [e])
    have HS := Aside0.mk (And.intro hst hno)
    clear hst hno
    generalize rd xs (k : Int) = x at *
    generalize rd ys (k : Int) = y at *
    by_cases hxy : x = y
    ·have e1 : (x == y) = true := beq_iff_eq.mpr hxy
     have e2 : (x != y) = false := by simp [hxy]
     have HXY := Aside0.mk (HS.out.1 hxy)
     clear hxy HS
     go_wp2
     go_region_held3 (fun W' => W'.cell? ⟨ab, ao + k, none⟩ = some (.int .i64 x) ∧ W'.cell? ⟨bb, bo + k, none⟩ = some (.int .i64 y)) (exact ⟨x0, y0⟩) (fail)
     all_goals
      go_wp2
      exact ⟨⟨k + 1, by omega, by go_num, HXY, below_drew1 hB⟩, by simp [intOf]; omega⟩
    ·have e1 : (x == y) = false := beq_eq_false_iff_ne.mpr hxy
     have e2 : (x != y) = true := bne_iff_ne.mpr hxy
     have HXY := Aside0.mk (HS.out.2 hxy)
     clear hxy HS
     go_wp2
     go_region_held3 (fun W' => W'.cell? ⟨ab, ao + k, none⟩ = some (.int .i64 x) ∧ W'.cell? ⟨bb, bo + k, none⟩ = some (.int .i64 y)) (exact ⟨x0, y0⟩) (fail)
     all_goals
      go_wp2
      refine bodyPost_ret (v := .bool false) (by simp [results, Tryz.results38, go_sem]) rfl ⟨by simp [HXY.out], below_drew1 hB⟩
   ·obtain rfl : k = n := by omega
    have d1 : decide ((k : Int) < (k : Int)) = false := by simp
    have d2 : decide (k < k) = false := by simp
    have he : xs = ys := rd_ext (by rw [HL.out.1, HL.out.2]) (by rw [HL.out.1]; exact HE.out)
    go_wp2
    refine bodyPost_ret (v := .bool true) (by simp [results, Tryz.results38, go_sem]) rfl ⟨by simp [he], hB⟩
 ·have hne : xs ≠ ys := fun h => hnm (by rw [← HL.out.1, ← HL.out.2, h])
  have e1 : ((n : Int) == (m : Int)) = false := beq_eq_false_iff_ne.mpr (by omega)
  have e2 : (n == m) = false := beq_eq_false_iff_ne.mpr hnm
  have e3 : ((n : Int) != (m : Int)) = true := bne_iff_ne.mpr (by omega)
  have e4 : (n != m) = true := bne_iff_ne.mpr hnm
  go_enter Tryz.func38, Tryz.ntmps38
  go_wp2
  go_ret
  exact ⟨by simp [hne], Below.refl _ _⟩
theorem hull_len (l : List S) (ed : Bool) (h0 : (allF l).2 = 0) : (hullAll l ed).length ≤ 2 * (unlAll l).length := by
 unfold hullAll
 rw [if_neg (by omega)]
 split
 ·omega
 ·split
  ·split
   ·omega
   ·simp; omega
  ·unfold Geo.ring
   have h1 := chain_le (PT l) ed (unlAll l)
   have h2 := chain_le (PT l) ed (unlAll l).reverse
   simp only [List.length_append, List.length_dropLast, List.length_reverse] at *
   omega
def countAll (l : List S) : Int × Int := if (allF l).2 ≠ 0 then (0, (allF l).2) else if flatAll l = true then (0, 0) else (2 * ((unlAll l).length : Int) - 2 - ((hullAll l true).length : Int), 0)
set_option maxRecDepth 100000 in
set_option maxHeartbeats 4000000 in
theorem count_call (A : Option Addr) (c : Nat) (l : List S) (w : World) (hl : Kd.C k32 w A l.length l) (hc : l.length ≤ c) (hw : Wd l) :
 Calls Tryz.prog 34 #[.slice A l.length c] w fun e w' => e = .returned (.tuple #[.int .i64 (countAll l).1, .int .i64 (countAll l).2]) ∧ Below w.heap.size w w' := by
 have hr := rim_calls A c l
 have hf := flat_calls A c l
 have hu := unlike_calls A c l
 have HC := Aside0.mk hc
 clear hc
 by_cases h0 : (allF l).2 = 0
 ·have hul := Pure.unl_len h0
  have h20 := ((allF_ok l).mp h0).1
  have hcn : countAll l = if flatAll l = true then (0, 0) else (2 * ((unlAll l).length : Int) - 2 - ((hullAll l true).length : Int), 0) := by unfold countAll; rw [if_neg (by omega)]
  have hln := hull_len l true h0
  generalize hfe : flatAll l = f at *
  have HN := Aside0.mk hcn
  clear hcn
  cases f
  all_goals
   go_enter Tryz.func34, Tryz.ntmps34
   go_wp2_with (first
    | (go_at_call 33; (with_reducible refine (hr _ hl HC.out hw).mono ?_); rintro u w1 ⟨v1, rfl, hR1, hb1⟩; obtain ⟨A1, c1, rfl, hle1, hC1⟩ := Kd.R_reads hR1; rw [h0]; rw [zi_length] at hC1 hle1 ⊢; clear hr hR1)
    | (go_at_call 17; (with_reducible refine (hf _ (Kd.C_below hl hb1) HC.out hw).mono ?_); rintro u w2 ⟨rfl, hb2⟩; have hB2 := hb1.trans (hb2.mono hb1.size); clear hf hb2)
    | (go_at_call 16; (with_reducible refine (hu _ (Kd.C_below hl hB2) HC.out hw).mono ?_); rintro u w3 ⟨v3, rfl, hR3, hb3⟩; obtain ⟨A3, c3, rfl, hle3, hC3⟩ := Kd.R_reads hR3; rw [zi_length] at hC3 hle3 ⊢; have hB3 := hB2.trans (hb3.mono hB2.size); clear hu hR3 hb3))
   exact bodyPost_ret (v := .tuple #[.int .i64 (countAll l).1, .int .i64 (countAll l).2]) (by simp [results, Tryz.results34, go_sem, HN.out]) rfl ⟨rfl, by assumption⟩
 ·have hcn : countAll l = (0, (allF l).2) := by unfold countAll; rw [if_pos h0]
  have e1 : ((allF l).2 != 0) = true := bne_iff_ne.mpr h0
  have e2 : ((allF l).2 == 0) = false := beq_eq_false_iff_ne.mpr h0
  have HN := Aside0.mk hcn
  clear h0 hcn
  go_enter Tryz.func34, Tryz.ntmps34
  go_wp2_with (first
   | (go_at_call 33; (with_reducible refine (hr _ hl HC.out hw).mono ?_); rintro u w1 ⟨v1, rfl, hR1, hb1⟩; obtain ⟨A1, c1, rfl, hle1, hC1⟩ := Kd.R_reads hR1))
  exact bodyPost_ret (v := .tuple #[.int .i64 0, .int .i64 (allF l).2]) (by simp [results, Tryz.results34, go_sem]) rfl ⟨by rw [HN.out], hb1⟩
end Go.Proofs.YtioahkblhekgpaaGreatDoor.Adm
namespace Go.Proofs.YtioahkblhekgpaaGreatDoor.Adm
open Go.RowKit Go.Proofs.YtioahkblhekgpaaGreatDoor.FltP Go.Proofs.YtioahkblhekgpaaGreatDoor.R Go.Proofs.YtioahkblhekgpaaGreatDoor.E Go.Proofs.YtioahkblhekgpaaGreatDoor.O Go.Proofs.YtioahkblhekgpaaGreatDoorW.PrintWords Go.Proofs.YtioahkblhekgpaaGreatDoorW.PrintLast Go.Proofs.YtioahkblhekgpaaGreatDoorW.PrintMore
def ex20 : List S := [⟨0, 0⟩, ⟨4611686018427387904, 0⟩, ⟨4607182418800017408, 0⟩, ⟨0, 4611686018427387904⟩, ⟨4611686018427387904, 4611686018427387904⟩, ⟨4607182418800017408, 4607182418800017408⟩, ⟨0, 0⟩]
def ex21 : List S := [⟨0, 0⟩, ⟨4607182418800017408, 4607182418800017408⟩, ⟨4611686018427387904, 4611686018427387904⟩]
theorem ex20_ok : (allF ex20).2 = 0 := by decide +kernel
theorem ex21_ok : (allF ex21).2 = 0 := by decide +kernel
theorem ex20_ord : orderN ex20 = [0, 6, 3, 2, 5, 1, 4] := sorted_of (by decide +kernel) (fun x => by simp [ex20]; omega)
theorem ex20_u : unlAll ex20 = [0, 3, 2, 5, 1, 4] := by rw [unlAll_eq ex20_ok, ex20_ord]; decide +kernel
theorem ex20_f : flatAll ex20 = false := by unfold flatAll; rw [if_pos ex20_ok, ex20_u]; decide +kernel
theorem ex20_h : hullAll ex20 false = [0, 1, 4, 3] := by unfold hullAll; rw [if_neg (by rw [ex20_ok]; decide), ex20_u, ex20_f]; decide +kernel
theorem ex20_r : hullAll ex20 true = [0, 2, 1, 4, 3] := by unfold hullAll; rw [if_neg (by rw [ex20_ok]; decide), ex20_u, ex20_f]; decide +kernel
theorem ex20_c : countAll ex20 = (5, 0) := by unfold countAll; rw [if_neg (by rw [ex20_ok]; decide), ex20_u, ex20_f, ex20_r]; decide +kernel
theorem ex20_i1 : inAll ex20 ⟨4607182418800017408, 4607182418800017408⟩ = (1, 0) := by unfold inAll; rw [if_neg (by rw [ex20_ok]; decide), ex20_h]; decide +kernel
theorem ex20_i2 : inAll ex20 ⟨4613937818241073152, 0⟩ = (4, 0) := by unfold inAll; rw [if_neg (by rw [ex20_ok]; decide), ex20_h]; decide +kernel
theorem ex20_i3 : inAll ex20 ⟨4611686018427387904, 4607182418800017408⟩ = (2, 0) := by unfold inAll; rw [if_neg (by rw [ex20_ok]; decide), ex20_h]; decide +kernel
theorem ex21_ord : orderN ex21 = [0, 1, 2] := sorted_of (by decide +kernel) (fun x => by simp [ex21]; omega)
theorem ex21_u : unlAll ex21 = [0, 1, 2] := by rw [unlAll_eq ex21_ok, ex21_ord]; decide +kernel
theorem ex21_f : flatAll ex21 = true := by unfold flatAll; rw [if_pos ex21_ok, ex21_u]; decide +kernel
theorem ex21_h : hullAll ex21 false = [0, 2] := by unfold hullAll; rw [if_neg (by rw [ex21_ok]; decide), ex21_u, ex21_f]; decide +kernel
theorem ilit_C {w : World} {B t n : Nat} {arr : Array Value} (l : List Int) (ha : arr.toList = l.map (.int .i64)) (h : w.heap[B]? = some (.cells arr t (0, 0))) (hn : l.length = n) (hm : n ≤ 1000) : Kd.C (Kd.int .i64) w (some ⟨B, 0, none⟩) n l := by
 refine ⟨hn, by omega, fun _ => ⟨_, rfl, fun j p hj => ?_⟩⟩
 have hw : arr[j]? = some (.int .i64 p) := by rw [← Array.getElem?_toList, ha, List.getElem?_map, hj]; rfl
 refine ⟨[.int .i64 p], rfl, rfl, fun i u hi => ?_⟩
 have hs : (Kd.int .i64).sz = 1 := rfl
 rw [hs, Addr.add_lit]
 match i, hi with
 | 0, hi => simp at hi; subst hi; exact (blk_cell h (0 + (j * 1 + 0))).trans (by rw [Nat.zero_add, Nat.add_zero, Nat.mul_one]; exact hw)
 | i + 1, hi => simp at hi
theorem numbers_true (A : Option Addr) (n c : Nat) (arr : Array Value) (xs : List Int) (W : World) (ha : Kd.C (Kd.int .i64) W A n xs) (hn : xs.length = n) (hc : n ≤ c) (he : arr.toList = xs.map (.int .i64)) (hm : n ≤ 1000) :
 Calls Tryz.prog 38 #[.slice A n c, .slice (some ⟨W.heap.size, 0, none⟩) n n] (W.alloc (.cells arr 3)) fun e w' => e = .returned (.bool true) ∧ Below W.heap.size W w' :=
 (numbers_call A _ n n c n xs xs _ (Kd.C_below ha ((Below.refl _ _).alloc (Nat.le_refl _) _)) (ilit_C xs he (heap_alloc_new _ _) hn hm) hn hn hc (Nat.le_refl _)).mono fun e w' h => ⟨by rw [h.1, decide_eq_true rfl], ((Below.refl _ _).alloc (Nat.le_refl _) _).trans (h.2.mono (by simp))⟩
theorem in_lit {l : List S} {p : S} {r : Int × Int} (hr : inAll l p = r) (A : Option Addr) (n c : Nat) (w : World) (hl : Kd.C k32 w A n l) (hn : l.length = n) (hc : n ≤ c) (hw : WdB l = true) (hp : p.f0 < 2 ^ 64 ∧ p.f1 < 2 ^ 64) :
 Calls Tryz.prog 39 #[.slice A n c, .agg #[.float .f64 p.f0, .float .f64 p.f1]] w fun e w' => e = .returned (.tuple #[.int .u8 r.1, .int .i64 r.2]) ∧ Below w.heap.size w w' := by
 subst hn hr
 exact in_calls A c l p w hl hc (wd_of hw) hp.1 hp.2
theorem ring_lit {l : List S} {xs : List Nat} (w : World) (ed : Bool) (hx : hullAll l ed = xs) (h0 : (allF l).2 = 0) (e : Ending) (w' : World) (h : AroPost l ed w e w') : ∃ A1 c1, e = .returned (.tuple #[.slice A1 xs.length c1, .int .i64 0]) ∧ Kd.C (Kd.int .i64) w' A1 xs.length (zi xs) ∧ xs.length ≤ c1 ∧ Below w.heap.size w w' := by
 obtain ⟨v1, rfl, hR, hb⟩ := h
 obtain ⟨A1, c1, rfl, hle, hC⟩ := Kd.R_reads hR
 rw [zi_length, hx] at hC hle ⊢
 rw [h0]
 exact ⟨A1, c1, rfl, hC, hle, hb⟩
theorem hull_lit {l : List S} {arr : Array Value} {n m : Nat} {xs : List Nat} {ys : List Int} (ha : arr.toList = flt l) (hn : l.length = n) (hk : n ≤ 1000) (hw : WdB l = true) (h0 : (allF l).2 = 0) (hx : hullAll l false = xs) (hm : xs.length = m) (hy : zi xs = ys) (W : World) :
 Calls Tryz.prog 32 #[.slice (some ⟨W.heap.size, 0, none⟩) n n] (W.alloc (.cells arr 32)) fun e w' => ∃ A1 c1, e = .returned (.tuple #[.slice A1 m c1, .int .i64 0]) ∧ Kd.C (Kd.int .i64) w' A1 m ys ∧ m ≤ c1 ∧ Below W.heap.size W w' ∧ Kd.C k32 w' (some ⟨W.heap.size, 0, none⟩) n l := by
 subst hn hm hy
 have hl := lit_C (w := W.alloc (.cells arr 32)) l ha (heap_alloc_new _ _) rfl hk
 refine (hull_calls _ _ l _ hl (Nat.le_refl _) (wd_of hw)).mono fun e w' h => ?_
 obtain ⟨A1, c1, rfl, hC, hle, hb⟩ := ring_lit _ false hx h0 _ _ h
 exact ⟨A1, c1, rfl, hC, hle, ((Below.refl _ _).alloc (Nat.le_refl _) _).trans (hb.mono (by simp)), Kd.C_below hl hb⟩
theorem rim_lit {l : List S} {A : Option Addr} {n c m : Nat} {xs : List Nat} {ys : List Int} (hn : l.length = n) (hc : n ≤ c) (hw : WdB l = true) (h0 : (allF l).2 = 0) (hx : hullAll l true = xs) (hm : xs.length = m) (hy : zi xs = ys) (W : World) (hl : Kd.C k32 W A n l) :
 Calls Tryz.prog 33 #[.slice A n c] W fun e w' => ∃ A1 c1, e = .returned (.tuple #[.slice A1 m c1, .int .i64 0]) ∧ Kd.C (Kd.int .i64) w' A1 m ys ∧ m ≤ c1 ∧ Below W.heap.size W w' := by
 subst hn hm hy
 refine (rim_calls _ _ l _ hl hc (wd_of hw)).mono fun e w' h => ?_
 obtain ⟨A1, c1, rfl, hC, hle, hb⟩ := ring_lit _ true hx h0 _ _ h
 exact ⟨A1, c1, rfl, hC, hle, hb⟩
theorem count_lit {l : List S} {A : Option Addr} {n c : Nat} {r : Int × Int} (hn : l.length = n) (hc : n ≤ c) (hw : WdB l = true) (hr : countAll l = r) (W : World) (hl : Kd.C k32 W A n l) :
 Calls Tryz.prog 34 #[.slice A n c] W fun e w' => e = .returned (.tuple #[.int .i64 r.1, .int .i64 r.2]) ∧ Below W.heap.size W w' := by
 subst hn hr
 exact count_call A c l W hl hc (wd_of hw)
theorem ex20_wd : WdB ex20 = true := by decide +kernel
theorem ex21_wd : WdB ex21 = true := by decide +kernel
theorem hull20 (W : World) : Calls Tryz.prog 32 #[.slice (some ⟨W.heap.size, 0, none⟩) 7 7] (W.alloc (.cells #[.float .f64 0, .float .f64 0, .float .f64 4611686018427387904, .float .f64 0, .float .f64 4607182418800017408, .float .f64 0, .float .f64 0, .float .f64 4611686018427387904, .float .f64 4611686018427387904, .float .f64 4611686018427387904, .float .f64 4607182418800017408, .float .f64 4607182418800017408, .float .f64 0, .float .f64 0] 32)) fun e w' => ∃ A1 c1, e = .returned (.tuple #[.slice A1 4 c1, .int .i64 0]) ∧ Kd.C (Kd.int .i64) w' A1 4 [0, 1, 4, 3] ∧ 4 ≤ c1 ∧ Below W.heap.size W w' ∧ Kd.C k32 w' (some ⟨W.heap.size, 0, none⟩) 7 ex20 :=
 hull_lit rfl rfl (by decide) ex20_wd ex20_ok ex20_h rfl rfl W
theorem hull21 (W : World) : Calls Tryz.prog 32 #[.slice (some ⟨W.heap.size, 0, none⟩) 3 3] (W.alloc (.cells #[.float .f64 0, .float .f64 0, .float .f64 4607182418800017408, .float .f64 4607182418800017408, .float .f64 4611686018427387904, .float .f64 4611686018427387904] 32)) fun e w' => ∃ A1 c1, e = .returned (.tuple #[.slice A1 2 c1, .int .i64 0]) ∧ Kd.C (Kd.int .i64) w' A1 2 [0, 2] ∧ 2 ≤ c1 ∧ Below W.heap.size W w' ∧ Kd.C k32 w' (some ⟨W.heap.size, 0, none⟩) 3 ex21 :=
 hull_lit rfl rfl (by decide) ex21_wd ex21_ok ex21_h rfl rfl W
theorem num_a (A : Option Addr) (c : Nat) (W : World) (ha : Kd.C (Kd.int .i64) W A 4 [0, 1, 4, 3]) (hc : 4 ≤ c) :
 Calls Tryz.prog 38 #[.slice A 4 c, .slice (some ⟨W.heap.size, 0, none⟩) 4 4] (W.alloc (.cells #[.int .i64 0, .int .i64 1, .int .i64 4, .int .i64 3] 3)) fun e w' => e = .returned (.bool true) ∧ Below W.heap.size W w' :=
 numbers_true A 4 c _ [0, 1, 4, 3] W ha rfl hc rfl (by decide)
theorem num_b (A : Option Addr) (c : Nat) (W : World) (ha : Kd.C (Kd.int .i64) W A 5 [0, 2, 1, 4, 3]) (hc : 5 ≤ c) :
 Calls Tryz.prog 38 #[.slice A 5 c, .slice (some ⟨W.heap.size, 0, none⟩) 5 5] (W.alloc (.cells #[.int .i64 0, .int .i64 2, .int .i64 1, .int .i64 4, .int .i64 3] 3)) fun e w' => e = .returned (.bool true) ∧ Below W.heap.size W w' :=
 numbers_true A 5 c _ [0, 2, 1, 4, 3] W ha rfl hc rfl (by decide)
theorem num_c (A : Option Addr) (c : Nat) (W : World) (ha : Kd.C (Kd.int .i64) W A 2 [0, 2]) (hc : 2 ≤ c) :
 Calls Tryz.prog 38 #[.slice A 2 c, .slice (some ⟨W.heap.size, 0, none⟩) 2 2] (W.alloc (.cells #[.int .i64 0, .int .i64 2] 3)) fun e w' => e = .returned (.bool true) ∧ Below W.heap.size W w' :=
 numbers_true A 2 c _ [0, 2] W ha rfl hc rfl (by decide)
set_option maxRecDepth 100000 in
set_option maxHeartbeats 4000000 in
theorem awake_call (w : World) : Calls Tryz.prog 31 #[] w fun e w' => e = .returned (.bool true) ∧ Below w.heap.size w w' := by
 have hat := at_call
 have h20 := hull20
 have h21 := hull21
 have hr20 := fun (A : Option Addr) (W : World) => rim_lit (l := ex20) (A := A) (n := 7) (c := 7) (m := 5) (ys := [0, 2, 1, 4, 3]) rfl (Nat.le_refl _) ex20_wd ex20_ok ex20_r rfl rfl W
 have hc20 := fun (A : Option Addr) (W : World) => count_lit (l := ex20) (A := A) (n := 7) (c := 7) rfl (Nat.le_refl _) ex20_wd ex20_c W
 have hi1 := fun (A : Option Addr) (W : World) (h : Kd.C k32 W A 7 ex20) => in_lit ex20_i1 A 7 7 W h rfl (Nat.le_refl _) ex20_wd (by decide)
 have hi2 := fun (A : Option Addr) (W : World) (h : Kd.C k32 W A 7 ex20) => in_lit ex20_i2 A 7 7 W h rfl (Nat.le_refl _) ex20_wd (by decide)
 have hi3 := fun (A : Option Addr) (W : World) (h : Kd.C k32 W A 7 ex20) => in_lit ex20_i3 A 7 7 W h rfl (Nat.le_refl _) ex20_wd (by decide)
 generalize ex20 = l20 at *
 go_enter Tryz.func31, Tryz.ntmps31
 have hB : Below w.heap.size w w := Below.refl _ _
 go_wp2_with (first
  | (go_at_call 63; (with_reducible refine (hat _ _ _).mono ?_); rintro u wx ⟨rfl, hb⟩; replace hl := Kd.C_below hl hb; replace hC2 := Kd.C_below hC2 hb; replace hC1 := Kd.C_below hC1 hb; replace hB := hB.trans (hb.mono hB.size); clear hb)
  | (go_at_call 63; (with_reducible refine (hat _ _ _).mono ?_); rintro u w1 ⟨rfl, hb⟩; replace hB := hB.trans (hb.mono hB.size); clear hb)
  | (go_at_call 32; (with_reducible refine (h20 _).mono ?_); rintro u w1 ⟨A1, c1, rfl, hC1, hle1, hb, hl⟩; replace hB := hB.trans (hb.mono hB.size); clear hb h20)
  | (go_at_call 33; (with_reducible refine (hr20 _ _ hl).mono ?_); rintro u w2 ⟨A2, c2, rfl, hC2, hle2, hb⟩; replace hl := Kd.C_below hl hb; replace hB := hB.trans (hb.mono hB.size); replace hC1 := Kd.C_below hC1 hb; clear hb hr20)
  | (go_at_call 34; (with_reducible refine (hc20 _ _ hl).mono ?_); rintro u w3 ⟨rfl, hb⟩; replace hl := Kd.C_below hl hb; replace hC2 := Kd.C_below hC2 hb; replace hB := hB.trans (hb.mono hB.size); replace hC1 := Kd.C_below hC1 hb; clear hb hc20)
  | (go_at_call 39; (with_reducible refine (hi1 _ _ hl).mono ?_); rintro u w4 ⟨rfl, hb⟩; replace hl := Kd.C_below hl hb; replace hC2 := Kd.C_below hC2 hb; replace hB := hB.trans (hb.mono hB.size); replace hC1 := Kd.C_below hC1 hb; clear hb hi1)
  | (go_at_call 39; (with_reducible refine (hi2 _ _ hl).mono ?_); rintro u w5 ⟨rfl, hb⟩; replace hl := Kd.C_below hl hb; replace hC2 := Kd.C_below hC2 hb; replace hB := hB.trans (hb.mono hB.size); replace hC1 := Kd.C_below hC1 hb; clear hb hi2)
  | (go_at_call 39; (with_reducible refine (hi3 _ _ hl).mono ?_); rintro u w6 ⟨rfl, hb⟩; replace hl := Kd.C_below hl hb; replace hC2 := Kd.C_below hC2 hb; replace hB := hB.trans (hb.mono hB.size); replace hC1 := Kd.C_below hC1 hb; clear hb hi3)
  | (go_at_call 32; (with_reducible refine (h21 _).mono ?_); rintro u w7 ⟨A3, c3, rfl, hC3, hle3, hb, hl3⟩; replace hl := Kd.C_below hl hb; replace hC2 := Kd.C_below hC2 hb; replace hC1 := Kd.C_below hC1 hb; replace hB := hB.trans (hb.mono hB.size); clear hb hl3 h21)
  | (go_at_call 38; (with_reducible refine (num_a _ _ _ hC1 hle1).mono ?_); rintro u w8 ⟨rfl, hb⟩; replace hC2 := Kd.C_below hC2 hb; replace hC3 := Kd.C_below hC3 hb; replace hB := hB.trans (hb.mono hB.size); clear hb hC1)
  | (go_at_call 38; (with_reducible refine (num_b _ _ _ hC2 hle2).mono ?_); rintro u w9 ⟨rfl, hb⟩; replace hC3 := Kd.C_below hC3 hb; replace hB := hB.trans (hb.mono hB.size); clear hb hC2)
  | (go_at_call 38; (with_reducible refine (num_c _ _ _ hC3 hle3).mono ?_); rintro u w10 ⟨rfl, hb⟩; replace hB := hB.trans (hb.mono hB.size); clear hb hC3))
 go_ret
 exact ⟨rfl, hB⟩
end Go.Proofs.YtioahkblhekgpaaGreatDoor.Adm
