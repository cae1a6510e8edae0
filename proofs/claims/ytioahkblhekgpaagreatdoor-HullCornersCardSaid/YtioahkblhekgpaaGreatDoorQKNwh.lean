/- What the proof needs of Nwd, Nwe, Nwf, Nwg, Nwh: only what is used is left (wip/tools/prune.py). Conditions stand in each sentence. -/
import Derived.Laws.MakeOwn
import Derived.Deep.QuietTactic
import Derived.BigQuiet
import Derived.Deep.AppendLies
import Derived.StillTailTactics
import Derived.Test.YtioahkblhekgpaaGreatDoorQKNwc
import Derived.Test.YtioahkblhekgpaaGreatDoorQKLdx
set_option linter.unusedVariables false
set_option linter.unusedSimpArgs false
namespace Go.Proofs.YtioahkblhekgpaaGreatDoor.Adm
end Go.Proofs.YtioahkblhekgpaaGreatDoor.Adm
namespace Go.Proofs.YtioahkblhekgpaaGreatDoor.E
end Go.Proofs.YtioahkblhekgpaaGreatDoor.E
namespace Go.Proofs.YtioahkblhekgpaaGreatDoor.FltP
end Go.Proofs.YtioahkblhekgpaaGreatDoor.FltP
namespace Go.Proofs.YtioahkblhekgpaaGreatDoor.NumP
end Go.Proofs.YtioahkblhekgpaaGreatDoor.NumP
namespace Go.Proofs.YtioahkblhekgpaaGreatDoor.O
end Go.Proofs.YtioahkblhekgpaaGreatDoor.O
namespace Go.Proofs.YtioahkblhekgpaaGreatDoor.R
end Go.Proofs.YtioahkblhekgpaaGreatDoor.R
namespace Go.Proofs.YtioahkblhekgpaaGreatDoorW.PrintLast
end Go.Proofs.YtioahkblhekgpaaGreatDoorW.PrintLast
namespace Go.Proofs.YtioahkblhekgpaaGreatDoorW.PrintMore
end Go.Proofs.YtioahkblhekgpaaGreatDoorW.PrintMore
namespace Go.Proofs.YtioahkblhekgpaaGreatDoorW.PrintWords
end Go.Proofs.YtioahkblhekgpaaGreatDoorW.PrintWords
namespace Go.Proofs.YtioahkblhekgpaaGreatDoor.Nw
open Go.RowKit Go.Proofs.YtioahkblhekgpaaGreatDoor.FltP Go.Proofs.YtioahkblhekgpaaGreatDoor.R Go.Proofs.YtioahkblhekgpaaGreatDoor.E Go.Proofs.YtioahkblhekgpaaGreatDoor.O Go.Proofs.YtioahkblhekgpaaGreatDoorW.PrintWords Go.Proofs.YtioahkblhekgpaaGreatDoorW.PrintLast Go.Proofs.YtioahkblhekgpaaGreatDoorW.PrintMore
open Go.Proofs.YtioahkblhekgpaaGreatDoor.NumP Go.Proofs.YtioahkblhekgpaaGreatDoor.Adm
def arrI (xs : List Int) : Array Value := (xs.map (Value.int .i64)).toArray
theorem arrI_get {xs : List Int} {i : Nat} (h : i < xs.length) : (arrI xs)[i]? = some (.int .i64 (rd xs (i : Int))) := by
 unfold arrI
 rw [List.getElem?_toArray, List.getElem?_map, List.getElem?_eq_getElem h, rd, Int.toNat_natCast, List.getD_eq_getElem?_getD, List.getElem?_eq_getElem h]
 rfl
theorem arrI_set (xs : List Int) (i : Nat) (v : Int) : (arrI xs).setIfInBounds i (.int .i64 v) = arrI (xs.set i v) := by
 unfold arrI
 rw [List.setIfInBounds_toArray, List.map_set]
theorem arrI_made (n : Nat) : madeCells #[Value.int .i64 0] n = arrI (List.replicate n 0) := by
 apply Array.ext_getElem?
 intro j
 unfold madeCells arrI
 by_cases hn : j < n
 ·simp [hn, Nat.mod_one]
 ·simp [hn]
theorem make_i64 (n : Nat) (hn : n ≤ 1048576) (W : World) : (Instr.makeSlice 75 (.int .i64 (n : Int)) (.int .i64 (n : Int))).run Tryz.prog W = .ok (.slice (some ⟨W.heap.size, 0, none⟩) n n) (W.alloc (.cells (arrI (List.replicate n 0)) 2)) := by
 obtain ⟨i0, hi, hz0, hz1, hz2⟩ := info_parts infoD
 have hr := run_make (P := Tryz.prog) W 75 2 i0 _ Tryz.underlying75 hi hz0 .i64 .i64 (n : Int) (n : Int) (by omega) (by omega) (by rw [hz2]; omega) (by omega)
 rw [hz1, Int.toNat_natCast, Nat.mul_one, show (Value.int IntKind.i64 0).cells = #[Value.int .i64 0] from rfl, arrI_made] at hr
 exact hr
theorem dval_set : ∀ (l : List Int) (i : Nat) (v : Int), i < l.length → dval (l.set i v) = dval l + W i * (v - rd l (i : Int))
 | [], i, v, h => by simp at h
 | d :: l, 0, v, _ => by simp [dval, rd, W_zero]; omega
 | d :: l, i + 1, v, h => by
  have ih := dval_set l i v (by simpa using h)
  have e : rd (d :: l) ((i + 1 : Nat) : Int) = rd l (i : Int) := by simp [rd, List.getD_eq_getElem?_getD]
  rw [e, List.set_cons_succ]
  simp only [dval, ih, W_succ]
  grind
theorem rd_set {l : List Int} {i : Nat} {v : Int} (h : i < l.length) (j : Nat) : rd (l.set i v) (j : Int) = if j = i then v else rd l (j : Int) := by
 simp only [rd, Int.toNat_natCast, List.getD_eq_getElem?_getD]
 by_cases e : j = i
 ·subst e; rw [if_pos rfl, List.getElem?_set_self h]; rfl
 ·rw [if_neg e, List.getElem?_set_ne (Ne.symm e)]
theorem dig_set {l : List Int} {i : Nat} {v : Int} (h : Dig l) (h0 : 0 ≤ v) (h1 : v < 16777216) : Dig (l.set i v) := fun x hx => by
 rcases List.mem_or_eq_of_mem_set hx with h2 | h2
 ·exact h x h2
 ·omega
theorem take_snoc {D : List Int} {i : Nat} (h : i < D.length) : dval (D.take (i + 1)) = dval (D.take i) + W i * rd D (i : Int) := by
 rw [List.take_add_one, List.getElem?_eq_getElem h, rd, Int.toNat_natCast, List.getD_eq_getElem?_getD, List.getElem?_eq_getElem h]
 simp only [Option.toList]
 rw [dval_snoc, List.length_take, Nat.min_eq_left (Nat.le_of_lt h)]
 rfl
theorem mul_place {xs D2 : List Int} {i j : Nat} {a c V q m : Int} (hl : i + j < xs.length) (hj : j < D2.length) (hv : dval xs + W (i + j) * c = V + a * (W i * dval (D2.take j))) (he : rd xs ((i + j : Nat) : Int) + a * rd D2 (j : Int) + c = 16777216 * q + m) :
 dval (xs.set (i + j) m) + W (i + (j + 1)) * q = V + a * (W i * dval (D2.take (j + 1))) := by
 rw [dval_set xs (i + j) m hl, take_snoc hj, ← Nat.add_assoc, W_succ, W_add]
 rw [W_add] at hv
 generalize dval (D2.take j) = t at *
 generalize dval xs = X at *
 generalize W i = wi at *
 generalize W j = wj at *
 generalize rd xs ((i + j : Nat) : Int) = y at *
 generalize rd D2 (j : Int) = b at *
 rw [show X = V + a * (wi * t) - wi * wj * c from by omega, show m = y + a * b + c - 16777216 * q from by omega]
 grind
theorem blk_new' (w : World) (a b : Obj) : ((w.alloc a).alloc b).heap[w.heap.size + 1]? = some b := by
 have h := blk_new (w.alloc a) b
 rwa [show (w.alloc a).heap.size = w.heap.size + 1 from by simp] at h
structure MulSt (w wr : World) (p o N : Nat) (xs : List Int) (S E : Int) (S1 : Int) (A1 : Option Addr) (n1 c1 : Nat) (E1 S2 : Int) (A2 : Option Addr) (n2 c2 : Nat) (E2 : Int) : Prop where
 row : wr.heap[p]? = some (.cells (arrI xs) 2 (0, 0))
 out : wr.heap[o]? = some (.cells #[.int .i64 S, .slice (some ⟨p, 0, none⟩) N N, .int .i64 E] 77 (0, 0))
 box : Boxes w.heap.size wr S1 A1 n1 c1 E1 S2 A2 n2 c2 E2
 bel : Below w.heap.size w wr
theorem MulSt.below {w wr w' : World} {p o N : Nat} {xs : List Int} {S E S1 : Int} {A1 : Option Addr} {n1 c1 : Nat} {E1 S2 : Int} {A2 : Option Addr} {n2 c2 : Nat} {E2 : Int} (h : MulSt w wr p o N xs S E S1 A1 n1 c1 E1 S2 A2 n2 c2 E2) (hb : Below wr.heap.size wr w') : MulSt w w' p o N xs S E S1 A1 n1 c1 E1 S2 A2 n2 c2 E2 :=
 ⟨blk_below h.row hb, blk_below h.out hb, h.box.below hb, h.bel.trans (hb.mono h.bel.size)⟩
theorem MulSt.put {w wr : World} {p o N : Nat} {xs : List Int} {S E S1 : Int} {A1 : Option Addr} {n1 c1 : Nat} {E1 S2 : Int} {A2 : Option Addr} {n2 c2 : Nat} {E2 : Int} (h : MulSt w wr p o N xs S E S1 A1 n1 c1 E1 S2 A2 n2 c2 E2) (hp : w.heap.size + 2 < p) (hpo : o ≠ p) (i : Nat) (v : Int) : MulSt w (wr.setCell ⟨p, i, none⟩ (.int .i64 v)) p o N (xs.set i v) S E S1 A1 n1 c1 E1 S2 A2 n2 c2 E2 :=
 ⟨blk_put h.row i _ (arrI_set xs i v), blk_far h.out hpo _, ⟨blk_far h.box.one (by show w.heap.size ≠ p; omega) _, blk_far h.box.two (by show w.heap.size + 1 ≠ p; omega) _, blk_far h.box.out (by show w.heap.size + 2 ≠ p; omega) _⟩, h.bel.setCell (by show w.heap.size ≤ p; omega) _⟩
theorem ilit_C' {w : World} {B : Nat} {t : TypeId} (l : List Int) {arr : Array Value} (ha : arr = arrI l) (h : w.heap[B]? = some (.cells arr t (0, 0))) (hm : l.length ≤ 9223372036854775807 := by omega) : Kd.C (Kd.int .i64) w (some ⟨B, 0, none⟩) l.length l := by
 subst ha
 refine ⟨rfl, hm, fun _ => ⟨_, rfl, fun j p hj => ?_⟩⟩
 have hjl : j < l.length := by
  rcases Nat.lt_or_ge j l.length with h1 | h1
  ·exact h1
  ·rw [List.getElem?_eq_none h1] at hj; cases hj
 refine ⟨[.int .i64 p], rfl, rfl, fun i u hi => ?_⟩
 have hs : (Kd.int .i64).sz = 1 := rfl
 rw [hs, Addr.add_lit]
 match i, hi with
 | 0, hi =>
  simp at hi; subst hi
  refine (blk_cell h (0 + (j * 1 + 0))).trans ?_
  rw [Nat.zero_add, Nat.add_zero, Nat.mul_one, arrI_get hjl, rd, Int.toNat_natCast, List.getD_eq_getElem?_getD, hj]
  rfl
 | i + 1, hi => simp at hi
set_option maxRecDepth 100000 in
set_option maxHeartbeats 8000000 in
theorem mul_main (S1 E1 : Int) (D1 : List Int) (A1 : Option Addr) (c1 : Nat) (S2 E2 : Int) (D2 : List Int) (A2 : Option Addr) (c2 : Nat) (w : World) (hC1 : Kd.C (Kd.int .i64) w A1 D1.length D1) (hC2 : Kd.C (Kd.int .i64) w A2 D2.length D2) {B C n m : Nat} {x y : Int} (h1 : Worth S1 D1 E1 B n x) (h2 : Worth S2 D2 E2 C m y) (hn : n + m ≤ 399999)
 (z1 : S1 ≠ 0) (z2 : S2 ≠ 0) :
 Calls Tryz.prog 109 #[.agg #[.int .i64 S1, .slice A1 D1.length c1, .int .i64 E1], .agg #[.int .i64 S2, .slice A2 D2.length c2, .int .i64 E2]] w fun e w' => ∃ v, e = .returned v ∧ NumAt w' v (B + C) (n + m) (x * y) ∧ Below w.heap.size w w' := by
 have hu := Tryz.underlying77
 have l1 := h1.lo; have l2 := h2.lo; have u1 := h1.hi; have u2 := h2.hi; have p1 := h1.place; have p2 := h2.place
 have s1 := worth_sgn h1 z1
 have s2 := worth_sgn h2 z2
 have hS : S1 * S2 = 1 ∨ S1 * S2 = -1 := by rcases s1 with rfl | rfl <;> rcases s2 with rfl | rfl <;> simp
 have hxy : x * y = S1 * S2 * (W (E1 + E2 + ((B + C : Nat) : Int)).toNat * (dval D1 * dval D2)) := by
  rw [← h1.val, ← h2.val, show (E1 + E2 + ((B + C : Nat) : Int)).toNat = (E1 + (B : Int)).toNat + (E2 + (C : Int)).toNat from by omega, W_add]; grind
 have hd1 := h1.digits
 have hd2 := h2.digits
 have e1 : (S1 == 0) = false := beq_eq_false_iff_ne.mpr z1
 have e2 : (S2 == 0) = false := beq_eq_false_iff_ne.mpr z2
 have hmk := make_i64 (D1.length + D2.length) (by omega)
 rw [Int.natCast_add] at hmk
 have i1 : IntKind.i64.wrap ((D1.length : Int) + (D2.length : Int)) = (D1.length : Int) + (D2.length : Int) := wrapI _ (by omega) (by omega)
 have i2 : IntKind.i64.wrap (S1 * S2) = S1 * S2 := wrapI _ (by omega) (by omega)
 have i3 : IntKind.i64.wrap (E1 + E2) = E1 + E2 := wrapI _ (by omega) (by omega)
 have hX : Boxes w.heap.size _ S1 A1 D1.length c1 E1 S2 A2 D2.length c2 E2 := ⟨(three_new w _ _ _).1, (three_new w _ _ _).2.1, (three_new w _ _ _).2.2⟩
 have hB0 := below_alloc (below_alloc (below_alloc (Below.refl w.heap.size w) (.cells #[.int .i64 S1, .slice A1 D1.length c1, .int .i64 E1] 77)) (.cells #[.int .i64 S2, .slice A2 D2.length c2, .int .i64 E2] 77)) (.cells #[.int .i64 0, .slice none 0 0, .int .i64 0] 77)
 have HXY := Aside0.mk (And.intro hxy hS)
 have HSS := Aside0.mk (And.intro h1 h2)
 clear hxy hS s1 s2 h1 h2 z1 z2
 go_enter Tryz.func109, Tryz.ntmps109
 go_upto_region 3 with (fail)
 go_cut [5] (fun v5 wc => ∃ p o : Nat, v5 = .pointer (some ⟨o, 0, none⟩) ∧ w.heap.size + 2 < p ∧ o ≠ p ∧ w.heap.size + 2 < o ∧ MulSt w wc p o (D1.length + D2.length) (List.replicate (D1.length + D2.length) 0) (S1 * S2) (E1 + E2) S1 A1 D1.length c1 E1 S2 A2 D2.length c2 E2)
 case first =>
  have hl0 := (by simp : (((w.alloc (.cells #[.int .i64 S1, .slice A1 D1.length c1, .int .i64 E1] 77)).alloc (.cells #[.int .i64 S2, .slice A2 D2.length c2, .int .i64 E2] 77)).alloc (.cells #[.int .i64 0, .slice none 0 0, .int .i64 0] 77)).heap.size = w.heap.size + 3)
  generalize ((w.alloc (.cells #[.int .i64 S1, .slice A1 D1.length c1, .int .i64 E1] 77)).alloc (.cells #[.int .i64 S2, .slice A2 D2.length c2, .int .i64 E2] 77)).alloc (.cells #[.int .i64 0, .slice none 0 0, .int .i64 0] 77) = w0 at *
  have HL0 := Aside0.mk hl0
  clear hl0
  obtain ⟨⟨x0, x1, x2⟩, y0, y1, y2⟩ := hX.cells
  have hS : w0.cell? ⟨w.heap.size, 0, none⟩ = some (.int .i64 S1) ∧ w0.cell? ⟨w.heap.size, 1, none⟩ = some (.slice A1 D1.length c1) ∧ w0.cell? ⟨w.heap.size, 2, none⟩ = some (.int .i64 E1) ∧ w0.cell? ⟨w.heap.size + 1, 0, none⟩ = some (.int .i64 S2) ∧ w0.cell? ⟨w.heap.size + 1, 1, none⟩ = some (.slice A2 D2.length c2) ∧ w0.cell? ⟨w.heap.size + 1, 2, none⟩ = some (.int .i64 E2) := ⟨x0, x1, x2, y0, y1, y2⟩
  clear x0 x1 x2 y0 y1 y2
  have hN0 := Below.refl w0.heap.size w0
  go_region_held3 (fun W' => W'.cell? ⟨w.heap.size, 0, none⟩ = some (.int .i64 S1) ∧ W'.cell? ⟨w.heap.size, 1, none⟩ = some (.slice A1 D1.length c1) ∧ W'.cell? ⟨w.heap.size, 2, none⟩ = some (.int .i64 E1) ∧ W'.cell? ⟨w.heap.size + 1, 0, none⟩ = some (.int .i64 S2) ∧ W'.cell? ⟨w.heap.size + 1, 1, none⟩ = some (.slice A2 D2.length c2) ∧ W'.cell? ⟨w.heap.size + 1, 2, none⟩ = some (.int .i64 E2))
   (first | exact hS | exact six_below2 (by (with_reducible (repeat (first | exact hN0 | apply below_drew1 | apply below_alloc | apply pw_below_drewN | assumption)))) hS)
   (fail)
  all_goals
   go_wp2
   go_meet
  case rel =>
   exact ⟨w0.heap.size, w0.heap.size + 1, rfl, by have := HL0.out; omega, by omega, by have := HL0.out; omega, blk_drew (blk_alloc (blk_new _ _) _), blk_drew (blk_new' _ _ _), (hX.below (below_drew1 (below_alloc (below_alloc (Below.refl _ _) _) _))), below_drew1 (below_alloc (below_alloc hB0 _) _)⟩
  case rel =>
   exact ⟨w0.heap.size + 1, w0.heap.size, rfl, by have := HL0.out; omega, by omega, by have := HL0.out; omega, blk_drew (blk_new' _ _ _), blk_drew (blk_alloc (blk_new _ _) _), (hX.below (below_drew1 (below_alloc (below_alloc (Below.refl _ _) _) _))), below_drew1 (below_alloc (below_alloc hB0 _) _)⟩
 case rest =>
  obtain ⟨p, o, rfl, hp, hpo, ho, T⟩ := hcut
  clear hmk i1 i2 i3 hX hB0
  generalize S1 * S2 = SS at *
  go_wp2
  go_loopw [6] (fun v6 wr => ∃ (i : Nat) (xs : List Int), i ≤ D1.length ∧ v6 = .int .i64 i ∧ Dig xs ∧ Aside0 (xs.length = D1.length + D2.length) ∧ Aside0 (∀ m : Nat, i + D2.length ≤ m → rd xs (m : Int) = 0) ∧ Aside0 (dval xs = dval (D1.take i) * dval D2) ∧ MulSt w wr p o (D1.length + D2.length) xs SS (E1 + E2) S1 A1 D1.length c1 E1 S2 A2 D2.length c2 E2) (fun v6 _ => D1.length - (intOf v6).toNat)
  case atStart => exact ⟨0, _, Nat.zero_le _, rfl, fun d hd => by rw [List.eq_of_mem_replicate hd]; omega, ⟨by simp⟩, ⟨fun k hk => by simp only [rd, Int.toNat_natCast, List.getD_eq_getElem?_getD, List.getElem?_replicate]; split <;> rfl⟩, ⟨by rw [dval_zeros]; simp [dval]⟩, T⟩
  case round =>
   clear T
   obtain ⟨i, xs, hi, rfl, hdx, HXL, HZ, HV, T⟩ := hrel
   obtain ⟨⟨x0, x1, x2⟩, y0, y1, y2⟩ := T.box.cells
   by_cases hil : i < D1.length
   ·have d1 : decide ((i : Int) < (D1.length : Int)) = true := by simp; omega
    have d2 : decide (i < D1.length) = true := by simp; omega
    have ha := hd1 _ (List.getElem_mem hil)
    have hra : rd D1 (i : Int) = D1[i] := by rw [rd, Int.toNat_natCast, List.getD_eq_getElem?_getD, List.getElem?_eq_getElem hil]; rfl
    have htk := take_snoc hil
    rw [← hra] at ha
    clear hra
    generalize hae : rd D1 (i : Int) = a at *
    have HAE := Aside0.mk hae
    have HTK := Aside0.mk htk
    clear hae htk
    have i4 : IntKind.i64.wrap ((i : Int) + 1) = (i : Int) + 1 := wrapI _ (by omega) (by omega)
    go_wp2
    go_loopw [7, 8] (fun v7 v8 wr => ∃ (j : Nat) (c : Int) (ys : List Int), j ≤ D2.length ∧ v8 = .int .i64 j ∧ v7 = .int .i64 c ∧ 0 ≤ c ∧ c < 16777216 ∧ Dig ys ∧ Aside0 (ys.length = D1.length + D2.length) ∧ Aside0 (∀ m : Nat, i + D2.length ≤ m → rd ys (m : Int) = 0) ∧ Aside0 (dval ys + W (i + j) * c = dval xs + a * (W i * dval (D2.take j))) ∧ MulSt w wr p o (D1.length + D2.length) ys SS (E1 + E2) S1 A1 D1.length c1 E1 S2 A2 D2.length c2 E2) (fun _ v8 _ => D2.length - (intOf v8).toNat)
    case atStart => exact ⟨0, 0, xs, Nat.zero_le _, rfl, rfl, by omega, by omega, hdx, HXL, HZ, ⟨by simp [dval]⟩, T⟩
    case round =>
     clear T x0 x1 x2 y0 y1 y2
     obtain ⟨j, c, ys, hj, rfl, rfl, hc0, hc1_, hdy, HYL, HZY, HVY, T⟩ := hrel
     obtain ⟨⟨x0, x1, x2⟩, y0, y1, y2⟩ := T.box.cells
     have q1 := (num_cells T.out).2.1
     by_cases hjl : j < D2.length
     ·obtain ⟨ab, ao, rfl, hza⟩ := row_at (Kd.C_below hC1 T.bel) (by omega)
      have xa := hza i hil
      rw [HAE.out] at xa
      obtain ⟨bb, bo, rfl, hzb⟩ := row_at (Kd.C_below hC2 T.bel) (by omega)
      have xb := hzb j hjl
      clear hza hzb
      have hb_ := rd_dig hd2 (j : Int)
      have hy_ := rd_dig hdy ((i + j : Nat) : Int)
      have hlen : i + j < ys.length := by have := HYL.out; omega
      have xr := (blk_cell T.row (i + j)).trans (arrI_get hlen)
      have xf := blk_frozen T.row (i + j)
      have hpl := fun q m_ he => @mul_place ys D2 i j a c (dval xs) q m_ hlen hjl HVY.out he
      generalize rd D2 (j : Int) = b at *
      generalize rd ys ((i + j : Nat) : Int) = y_ at *
      have hm0 : 0 ≤ a * b := Int.mul_nonneg ha.1 hb_.1
      have hm1 : a * b ≤ 16777215 * 16777215 := Int.mul_le_mul (by omega) (by omega) (by omega) (by omega)
      have i5 : IntKind.i64.wrap (a * b) = a * b := wrapI _ (by omega) (by omega)
      have i6 : IntKind.i64.wrap (y_ + a * b) = y_ + a * b := wrapI _ (by omega) (by omega)
      obtain ⟨v, hv⟩ : ∃ v, y_ + a * b + c = v := ⟨_, rfl⟩
      have i7 : IntKind.i64.wrap (y_ + a * b + c) = v := by rw [wrapI _ (by omega) (by omega)]; exact hv
      have hv0 : 0 ≤ v := by omega
      have hv1 : v < 16777216 * 16777216 := by omega
      obtain ⟨q, hq⟩ : ∃ q, q = v / 16777216 := ⟨_, rfl⟩
      obtain ⟨m_, hm_⟩ : ∃ m, m = v % 16777216 := ⟨_, rfl⟩
      have e6 : Int.tdiv v 16777216 = q := by rw [hq]; exact Int.tdiv_eq_ediv_of_nonneg hv0
      have e7 : Int.tmod v 16777216 = m_ := by rw [hm_]; exact Int.tmod_eq_emod_of_nonneg hv0
      have hqm : v = 16777216 * q + m_ ∧ 0 ≤ m_ ∧ m_ < 16777216 ∧ 0 ≤ q ∧ q < 16777216 := by omega
      have i8 : IntKind.i64.wrap q = q := wrapI _ (by omega) (by omega)
      have i9 : IntKind.i64.wrap m_ = m_ := wrapI _ (by omega) (by omega)
      have i10 : IntKind.i64.wrap ((i : Int) + (j : Int)) = ((i + j : Nat) : Int) := by rw [wrapI _ (by omega) (by omega)]; push_cast; rfl
      have i11 : IntKind.i64.wrap ((j : Int) + 1) = (j : Int) + 1 := wrapI _ (by omega) (by omega)
      have d3 : decide ((j : Int) < (D2.length : Int)) = true := by simp; omega
      have d4 : decide (j < D2.length) = true := by simp; omega
      have HPL := Aside0.mk (hpl q m_ (by rw [hv]; exact hqm.1))
      have HLEN := Aside0.mk hlen
      have HQM := Aside0.mk hqm
      have HVV := Aside0.mk hv
      clear hpl hlen hqm hv hq hm_ hm0 hm1 hb_ hy_
      go_wp2
      go_quiet (fail)
      have hqm := HQM.out
      have Td := T.below (pw_below_drewN (Below.refl _ _) nq)
      generalize wr.drewN nq = wd at *
      clear q1 xr xf T x0 x1 x2 y0 y1 y2 xa xb
      have q1 := (num_cells Td.out).2.1
      have xr := (blk_cell Td.row (i + j)).trans (arrI_get HLEN.out)
      have xf := blk_frozen Td.row (i + j)
      generalize rd ys ((i + j : Nat) : Int) = y2_ at *
      have d5 : decide (i + j < D1.length + D2.length) = true := by simp; omega
      have d6 : decide ((i : Int) + (j : Int) < (D1.length : Int) + (D2.length : Int)) = true := by simp; omega
      have p5 : i + j < D1.length + D2.length := by omega
      clear hqm
      go_wp2
      have hqm := HQM.out
      exact ⟨⟨j + 1, q, ys.set (i + j) m_, by omega, by congr 1, rfl, hqm.2.2.2.1, hqm.2.2.2.2, dig_set hdy hqm.2.1 hqm.2.2.1, ⟨by rw [List.length_set]; exact HYL.out⟩, ⟨fun k hk => by rw [rd_set HLEN.out, if_neg (by omega)]; exact HZY.out k hk⟩, ⟨HPL.out⟩, Td.put hp hpo _ _⟩, by simp [intOf]; omega⟩
     ·obtain rfl : j = D2.length := by omega
      have d3 : decide ((D2.length : Int) < (D2.length : Int)) = false := by simp
      have d4 : decide (D2.length < D2.length) = false := by simp
      have hlen : i + D2.length < ys.length := by have := HYL.out; omega
      have hz := HZY.out (i + D2.length) (Nat.le_refl _)
      have xr := (blk_cell T.row (i + D2.length)).trans (arrI_get hlen)
      have xf := blk_frozen T.row (i + D2.length)
      rw [hz] at xr
      have i5 : IntKind.i64.wrap ((i : Int) + (D2.length : Int)) = ((i + D2.length : Nat) : Int) := by rw [wrapI _ (by omega) (by omega)]; push_cast; rfl
      have i6 : IntKind.i64.wrap (0 + c) = c := by rw [Int.zero_add]; exact wrapI _ (by omega) (by omega)
      have i7 : IntKind.i64.wrap c = c := wrapI _ (by omega) (by omega)
      have hset : dval (ys.set (i + D2.length) c) = dval (D1.take (i + 1)) * dval D2 := by
       have h := HVY.out
       rw [List.take_length, HV.out] at h
       rw [dval_set _ _ _ hlen, hz, Int.sub_zero, h, HTK.out]
       grind
      have d5 : decide (i + D2.length < D1.length + D2.length) = true := by simp; omega
      have d6 : decide ((i : Int) + (D2.length : Int) < (D1.length : Int) + (D2.length : Int)) = true := by simp; omega
      have p5 : i + D2.length < D1.length + D2.length := by omega
      have HSET := Aside0.mk hset
      have HLEN := Aside0.mk hlen
      clear hset hlen hz
      go_upto_region 14 with (fail)
      clear x0 x1 x2 y0 y2
      have f1 : (0 ≤ (i : Int) + (D2.length : Int)) = True := eq_true (by omega)
      have f2 : ((i : Int) + (D2.length : Int)).toNat = i + D2.length := by omega
      have f3 : decide (0 ≤ (i : Int) + (D2.length : Int)) = true := by simp; omega
      go_still_tail 19, (by kernel_rfl)
      change wpList _ _ _ _ _ wr.drew
      have Td := T.below (below_drew1 (Below.refl _ _))
      generalize wr.drew = wd at *
      clear xr xf q1 y1 T
      have xr := (blk_cell Td.row (i + D2.length)).trans (arrI_get HLEN.out)
      have xf := blk_frozen Td.row (i + D2.length)
      generalize rd ys ((i + D2.length : Nat) : Int) = y2_ at *
      go_wp2
      exact ⟨⟨i + 1, ys.set (i + D2.length) c, by omega, by go_num, dig_set hdy hc0 hc1_, ⟨by rw [List.length_set]; exact HYL.out⟩, ⟨fun k hk => by rw [rd_set HLEN.out, if_neg (by omega)]; exact HZY.out k (by omega)⟩, ⟨HSET.out⟩, Td.put hp hpo _ _⟩, by simp [intOf]; omega⟩
   ·obtain rfl : i = D1.length := by omega
    have d1 : decide ((D1.length : Int) < (D1.length : Int)) = false := by simp
    have d2 : decide (D1.length < D1.length) = false := by simp
    have hfin := HV.out
    rw [List.take_length] at hfin
    have hxy := HXY.out.1
    rw [← hfin] at hxy
    have hlx := HXL.out
    have hDig : DigAt wr (some ⟨p, 0, none⟩) xs := ⟨ilit_C' xs rfl T.row, fun _ => ⟨_, rfl, _, _, T.row⟩⟩
    have ht := trim_call SS (E1 + E2) xs (some ⟨p, 0, none⟩) (D1.length + D2.length) wr hDig.1 (by omega) hdx HXY.out.2 (B := B + C) (n := n + m) (by push_cast; omega) (by push_cast; omega) (by push_cast; omega) (by omega)
    rw [← hxy, hlx] at ht
    obtain ⟨r0, r1, r2, r3, r4, r5⟩ := num_cells T.out
    have hBw := T.bel
    have HT := Aside0.mk (And.intro T hDig)
    clear hfin hxy hlx hDig T d1 d2
    have d1 : decide ((D1.length : Int) < (D1.length : Int)) = false := by simp
    have d2 : decide (D1.length < D1.length) = false := by simp
    go_wp2_with (go_at_call 125; (with_reducible refine ht.mono ?_); rintro u w5 ⟨v5, rfl, hN5, hb5⟩; have T5 := HT.out.1.below hb5; have hD5 := HT.out.2.below hb5; obtain ⟨S5, D5, E5, A5, c5, rfl, hC5, hc5, hW5⟩ := hN5.at hD5; obtain ⟨q0, q1, q2, q3, q4, q5⟩ := num_cells T5.box.out; have HW5 := Aside0.mk hW5; have HT5 := Aside0.mk T5; clear hN5 hD5 hW5 hb5 T5 ht)
    refine bodyPost_ret (results_cell_row rfl _ _ (w.heap.size + 2) 77 #[.int .i64 S5, .slice A5 D5.length c5, .int .i64 E5] (0, 0) _ rfl (num_put HT5.out.box.out) Tryz.underlying77 rfl (by kernel_rfl)) rfl ⟨_, rfl, ?_, below_put HT5.out.bel (by omega)⟩
    exact ⟨S5, D5, E5, A5, c5, rfl, dig_put hC5 HT5.out.box.out, hc5, HW5.out⟩
end Go.Proofs.YtioahkblhekgpaaGreatDoor.Nw
namespace Go.Proofs.YtioahkblhekgpaaGreatDoor.Nw
open Go.RowKit Go.Proofs.YtioahkblhekgpaaGreatDoor.FltP Go.Proofs.YtioahkblhekgpaaGreatDoor.R Go.Proofs.YtioahkblhekgpaaGreatDoor.E Go.Proofs.YtioahkblhekgpaaGreatDoor.O Go.Proofs.YtioahkblhekgpaaGreatDoorW.PrintWords Go.Proofs.YtioahkblhekgpaaGreatDoorW.PrintLast Go.Proofs.YtioahkblhekgpaaGreatDoorW.PrintMore
open Go.Proofs.YtioahkblhekgpaaGreatDoor.NumP Go.Proofs.YtioahkblhekgpaaGreatDoor.Adm
set_option maxRecDepth 100000 in
set_option maxHeartbeats 4000000 in
theorem mul_call {v1 v2 : Value} {B C n m : Nat} {x y : Int} {w : World} (h1 : NumAt w v1 B n x) (h2 : NumAt w v2 C m y) (hn : n + m ≤ 399999) :
 Calls Tryz.prog 109 #[v1, v2] w fun e w' => ∃ v, e = .returned v ∧ NumAt w' v (B + C) (n + m) (x * y) ∧ Below w.heap.size w w' := by
 have hu := Tryz.underlying77
 obtain ⟨S1, D1, E1, A1, c1, rfl, hC1, hc1, hw1⟩ := h1
 obtain ⟨S2, D2, E2, A2, c2, rfl, hC2, hc2, hw2⟩ := h2
 have hB := below_alloc (below_alloc (below_alloc (Below.refl w.heap.size w) (.cells #[.int .i64 S1, .slice A1 D1.length c1, .int .i64 E1] 77)) (.cells #[.int .i64 S2, .slice A2 D2.length c2, .int .i64 E2] 77)) (.cells #[.int .i64 0, .slice none 0 0, .int .i64 0] 77)
 have hX := (three_new w (.cells #[.int .i64 S1, .slice A1 D1.length c1, .int .i64 E1] 77) (.cells #[.int .i64 S2, .slice A2 D2.length c2, .int .i64 E2] 77) (.cells #[.int .i64 0, .slice none 0 0, .int .i64 0] 77)).2.2
 by_cases z1 : S1 = 0
 ·have HR := Aside0.mk (show x * y = 0 by rw [worth_zero hw1 z1, Int.zero_mul])
  subst z1
  have HB := Aside0.mk (And.intro hB hX)
  clear hw1 hw2 hB hX hC1 hC2 hc1 hc2
  go_enter Tryz.func109, Tryz.ntmps109
  go_wp2
  refine bodyPost_ret (results_cell_row rfl _ _ (w.heap.size + 2) 77 #[.int .i64 0, .slice none 0 0, .int .i64 0] (0, 0) _ rfl HB.out.2 Tryz.underlying77 rfl (by kernel_rfl)) rfl ⟨_, rfl, ?_, HB.out.1⟩
  rw [HR.out]
  exact NumAt.zero _ _ _
 ·by_cases z2 : S2 = 0
  ·have HR := Aside0.mk (show x * y = 0 by rw [worth_zero hw2 z2, Int.mul_zero])
   have e1 : (S1 == 0) = false := beq_eq_false_iff_ne.mpr z1
   subst z2
   have HB := Aside0.mk (And.intro hB hX)
   clear hw1 hw2 hB hX hC1 hC2 hc1 hc2 z1
   go_enter Tryz.func109, Tryz.ntmps109
   go_wp2
   refine bodyPost_ret (results_cell_row rfl _ _ (w.heap.size + 2) 77 #[.int .i64 0, .slice none 0 0, .int .i64 0] (0, 0) _ rfl HB.out.2 Tryz.underlying77 rfl (by kernel_rfl)) rfl ⟨_, rfl, ?_, HB.out.1⟩
   rw [HR.out]
   exact NumAt.zero _ _ _
  ·exact mul_main S1 E1 D1 A1 c1 S2 E2 D2 A2 c2 w hC1.1 hC2.1 hw1 hw2 hn z1 z2
structure PowSt (w wr : World) (o : Nat) (vO : Value) (O : List Int) (e : Int) : Prop where
 row : wr.heap[o]? = some (.cells #[.int .i64 1, vO, .int .i64 e] 77 (0, 0))
 own : Kd.R (Kd.int .i64) 2 wr w.heap.size (fun _ => True) vO O
 out : wr.heap[w.heap.size]? = some (.cells #[.int .i64 0, .slice none 0 0, .int .i64 0] 77 (0, 0))
 bel : Below w.heap.size w wr
theorem PowSt.below {w wr w' : World} {o : Nat} {vO : Value} {O : List Int} {e : Int} (h : PowSt w wr o vO O e) (hb : Below wr.heap.size wr w') : PowSt w w' o vO O e :=
 ⟨blk_below h.row hb, Kd.R_below h.own hb, blk_below h.out hb, h.bel.trans (hb.mono h.bel.size)⟩
theorem pow_push {w wr w9 : World} {o : Nat} {vO : Value} {O : List Int} {e v : Int} (T : PowSt w wr o vO O e) {A9 : Option Addr} {c9 : Nat} (hR9 : Kd.R (Kd.int .i64) 2 w9 w.heap.size (fun _ => True) (.slice A9 (O.length + 1) c9) (O ++ [v])) (hB9 : Below w.heap.size w w9) (hrow : w9.heap[o]? = some (.cells #[.int .i64 1, vO, .int .i64 e] 77 (0, 0))) (hout : w9.heap[w.heap.size]? = some (.cells #[.int .i64 0, .slice none 0 0, .int .i64 0] 77 (0, 0))) (ho : w.heap.size < o) : PowSt w (w9.setCell ⟨o, 1, none⟩ (.slice A9 (O.length + 1) c9)) o (.slice A9 (O.length + 1) c9) (O ++ [v]) e :=
 ⟨blk_put hrow 1 _ rfl, Kd.R_set hR9 hrow (by decide) 1 _, blk_far hout (by show w.heap.size ≠ o; omega) _, hB9.setCell (by show w.heap.size ≤ o; omega) _⟩
theorem pow_row {w wr : World} {o : Nat} {vO : Value} {xs : List Int} {e : Int} (T : PowSt w wr o vO xs e) {k : Nat} (hk : k < xs.length) : ∃ b cap, vO = .slice (some ⟨b, 0, none⟩) xs.length cap ∧ w.heap.size ≤ b ∧ b < wr.heap.size ∧ (∀ v, PowSt w (wr.setCell ⟨b, k, none⟩ (.int .i64 v)) o (.slice (some ⟨b, 0, none⟩) xs.length cap) (xs.set k v) e) ∧ wr.cell? ⟨b, k, none⟩ = some (.int .i64 (rd xs (k : Int))) ∧ wr.frozen? ⟨b, k, none⟩ = false ∧ b ≠ o := by
 obtain ⟨g, cap, rfl, hb, hl, cells, hh⟩ := Kd.R_form T.own (by omega)
 have ne : ∀ (q : Nat) (cs : Array Value), wr.heap[q]? = some (.cells cs 77 (0, 0)) → q ≠ g := fun q cs hq h => by
  rw [h, hh] at hq
  injection hq with hq
  injection hq with _ hq _
  exact absurd hq (by decide)
 refine ⟨g, cap, rfl, hb, hl, fun v => ⟨blk_far T.row (ne o _ T.row) _, ?_, blk_far T.out (ne _ _ T.out) _, T.bel.setCell (by show w.heap.size ≤ g; exact hb) _⟩, ?_, ?_, fun h => ne o _ T.row h.symm⟩
 ·have := Kd.R_putn T.own (k : Int) v
  rwa [Int.toNat_natCast] at this
 ·have := (Kd.R_celln (0 : Int) T.own (k : Int) (by omega) (by omega)).1
  simpa [rdOf, rd, List.getD_eq_getElem?_getD] using this
 ·have := (Kd.R_celln (0 : Int) T.own (k : Int) (by omega) (by omega)).2
  rwa [Int.toNat_natCast] at this
theorem u64I (n : Int) (h0 : 0 ≤ n) (h1 : n < 18446744073709551616) : IntKind.u64.wrap n = n := by simp only [IntKind.wrap]; simp [IntKind.signed, IntKind.bits]; omega
theorem pow2_le {a b : Nat} (h : a ≤ b) : (2 : Int) ^ a ≤ 2 ^ b := by
 have h1 := Nat.pow_le_pow_right (n := 2) (by omega) h
 have e1 : ((2 ^ a : Nat) : Int) = 2 ^ a := by simp
 have e2 : ((2 ^ b : Nat) : Int) = 2 ^ b := by simp
 omega
set_option maxRecDepth 100000 in
set_option maxHeartbeats 8000000 in
theorem power_call (n k0 : Int) (w : World) (hn : 0 ≤ n) (hn2 : n < 18446744073709551616) (hk : -24000 ≤ k0) (hk2 : k0 ≤ 24000) (B : Nat) (hB : 0 ≤ 24 * (B : Int) + k0) :
 Calls Tryz.prog 96 #[.int .u64 n, .int .i64 k0] w fun e w' => ∃ v, e = .returned v ∧ NumAt w' v B 1010 (n * 2 ^ (24 * (B : Int) + k0).toNat) ∧ Below w.heap.size w w' := by
 have hu := Tryz.underlying77
 go_enter Tryz.func96, Tryz.ntmps96
 go_wp2
 have hout := blk_new w (.cells #[.int .i64 0, .slice none 0 0, .int .i64 0] 77)
 have hB0 := below_alloc (Below.refl w.heap.size w) (.cells #[.int .i64 0, .slice none 0 0, .int .i64 0] 77)
 have hsz : w.heap.size < (w.alloc (.cells #[.int .i64 0, .slice none 0 0, .int .i64 0] 77)).heap.size := by simp
 generalize w.alloc (.cells #[.int .i64 0, .slice none 0 0, .int .i64 0] 77) = w0 at *
 go_loopw [1, 5] (fun v1 v5 wr => ∃ k e : Int, v1 = .int .i64 k ∧ v5 = .int .i64 e ∧ Aside0 (k0 = 24 * e + k) ∧ k ≤ 24000 ∧ -24000 ≤ k ∧ -1001 ≤ e ∧ e ≤ 0 ∧ wr = w0) (fun v1 _ _ => (-intOf v1).toNat)
 case atStart => exact ⟨k0, 0, rfl, rfl, ⟨by omega⟩, hk2, hk, by omega, by omega, rfl⟩
 case round =>
  obtain ⟨k, e, rfl, rfl, HK, hk3, hk4, he1, he2, rfl⟩ := hrel
  by_cases hk0 : k < 0
  ·have d1 : decide (k < 0) = true := decide_eq_true hk0
   have i1 : IntKind.i64.wrap (k + 24) = k + 24 := wrapI _ (by omega) (by omega)
   have i2 : IntKind.i64.wrap (e - 1) = e - 1 := wrapI _ (by omega) (by omega)
   have he3 : -1001 ≤ e - 1 := by have := HK.out; omega
   go_wp2
   exact ⟨⟨k + 24, e - 1, rfl, rfl, ⟨by have := HK.out; omega⟩, by omega, by omega, he3, by omega, by first | trivial | rfl⟩, by simp [intOf]; omega⟩
  ·have d1 : decide (k < 0) = false := decide_eq_false hk0
   go_wp2
   go_loopw [1, 5] (fun v1 v5 wq => ∃ k e : Int, v1 = .int .i64 k ∧ v5 = .int .i64 e ∧ Aside0 (k0 = 24 * e + k) ∧ k ≤ 24000 ∧ 0 ≤ k ∧ -1001 ≤ e ∧ e ≤ 1001 ∧ wq = wr) (fun v1 _ _ => (intOf v1).toNat)
   case atStart => exact ⟨k, e, rfl, rfl, HK, hk3, by omega, by omega, by omega, rfl⟩
   case round =>
    clear HK hk3 hk4 he1 he2 hk0 d1
    obtain ⟨k, e, rfl, rfl, HK, hk3, hk4, he1, he2, rfl⟩ := hrel
    by_cases hk5 : 24 ≤ k
    ·have d1 : decide ((24 : Int) ≤ k) = true := decide_eq_true hk5
     have i1 : IntKind.i64.wrap (k - 24) = k - 24 := wrapI _ (by omega) (by omega)
     have i2 : IntKind.i64.wrap (e + 1) = e + 1 := wrapI _ (by omega) (by omega)
     have he3 : e + 1 ≤ 1001 := by have := HK.out; omega
     go_wp2
     exact ⟨⟨k - 24, e + 1, rfl, rfl, ⟨by have := HK.out; omega⟩, by omega, by omega, by omega, he3, by first | trivial | rfl⟩, by simp [intOf]; omega⟩
    ·have d1 : decide ((24 : Int) ≤ k) = false := decide_eq_false hk5
     obtain ⟨m, rfl⟩ := Int.eq_ofNat_of_zero_le hk4
     have T0 : PowSt w (wr.alloc (.cells #[.int .i64 1, .slice none 0 0, .int .i64 e] 77)) wr.heap.size (.slice none 0 0) [] e := ⟨blk_new _ _, Kd.R_nil .., blk_alloc hout _, below_alloc hB0 _⟩
     obtain ⟨o, ho⟩ : ∃ o, o = wr.heap.size := ⟨_, rfl⟩
     have hoo : w.heap.size < o := by omega
     rw [← ho] at T0
     have HO := Aside0.mk ho
     go_wp2
     rw [← ho]
     clear ho hout hB0 hsz hk hk2
     have hml : m < 24 := by omega
     go_loopw [0] (fun v0 wq => ∃ (z : Int) (O : List Int) (vO : Value), v0 = .int .u64 z ∧ 0 ≤ z ∧ z < W (3 - O.length) ∧ O.length ≤ 3 ∧ z < 18446744073709551616 ∧ Dig O ∧ Aside0 (dval O + W O.length * z = n) ∧ PowSt w wq o vO O e) (fun v0 _ => (intOf v0).toNat)
     case atStart => exact ⟨n, [], .slice none 0 0, rfl, hn, by rw [show W (3 - ([] : List Int).length) = 4722366482869645213696 from rfl]; omega, by simp, hn2, by simp [Dig], ⟨by simp [dval, W_zero]⟩, T0⟩
     case round =>
      clear T0
      obtain ⟨z, O, vO, rfl, hz0, hz1, hOl, hz2, hOd, HV, T⟩ := hrel
      by_cases hz : 0 < z
      ·have d2 : decide (0 < z) = true := decide_eq_true hz
       obtain ⟨q, hq⟩ : ∃ q, q = z / 16777216 := ⟨_, rfl⟩
       obtain ⟨m_, hm_⟩ : ∃ m, m = z % 16777216 := ⟨_, rfl⟩
       have e6 : Int.tdiv z 16777216 = q := by rw [hq]; exact Int.tdiv_eq_ediv_of_nonneg hz0
       have e7 : Int.tmod z 16777216 = m_ := by rw [hm_]; exact Int.tmod_eq_emod_of_nonneg hz0
       have hqm : z = 16777216 * q + m_ ∧ 0 ≤ m_ ∧ m_ < 16777216 ∧ 0 ≤ q ∧ q < z := by omega
       have i8 : IntKind.u64.wrap q = q := u64I _ (by omega) (by omega)
       have i9 : IntKind.u64.wrap m_ = m_ := u64I _ (by omega) (by omega)
       have i10 : IntKind.i64.wrap m_ = m_ := wrapI _ (by omega) (by omega)
       have hlen : O.length < 3 := by
        rcases Nat.lt_or_ge O.length 3 with h | h
        ·exact h
        ·rw [show 3 - O.length = 0 by omega, W_zero] at hz1; omega
       have hqW : q < W (3 - (O.length + 1)) := by
        rw [show 3 - O.length = (3 - (O.length + 1)) + 1 by omega, W_succ] at hz1; omega
       have hnx : dval (O ++ [m_]) + W (O.length + 1) * q = n := by
        rw [dval_snoc, W_succ, ← HV.out, hqm.1]; grind
       have HQ := Aside0.mk (And.intro hqm (And.intro hqW hnx))
       have hdj : Dig (O ++ [m_]) := hOd.join (fun x hx => by rw [List.mem_singleton.mp hx]; omega)
       have HLEN := Aside0.mk hlen
       obtain ⟨r0, r1, r2, r3, r4, r5⟩ := num_cells T.row
       clear hq hm_ hqm hqW hnx hz1
       go_wp2_with (first
        | (refine Kd.R_append_rows (Kd.int .i64) (w0 := w) w.heap.size (by rfl) (.tmp 29) (.tmp 33) 75 2 (.int .i64 0) 8 rfl Tryz.underlying75 infoD rfl (by decide) (by omega) vO O [m_] _ _ _ (fun _ => True) (fun _ => False) rfl rfl ?aO ?aR (fun _ _ h => h) (fun _ h => h.elim) (fun _ _ => trivial) ?aB ?aS ?aL ?_
           (case aO => exact Kd.R_alloc T.own _)
           (case aR => exact ilit_C [m_] rfl (heap_alloc_new _ _) rfl (by decide))
           (case aB => exact below_alloc T.bel _)
           (case aS => exact (below_alloc T.bel _).size)
           (case aL => omega)
           intro v9 w9 hR9 hB9 hg9 hat9; clear hat9; obtain ⟨A9, c9, rfl⟩ := Kd.R_slice hR9; have hrow := blk_grown (blk_alloc T.row _) hg9 (Kd.R_ne T.own T.row (by decide)); have hout := blk_grown (blk_alloc T.out _) hg9 (Kd.R_ne T.own T.out (by decide)); obtain ⟨r0, r1, r2, r3, r4, r5⟩ := num_cells hrow; clear hg9))
       have e9 : (O ++ [m_]).length = O.length + 1 := by simp
       rw [e9] at hR9
       have hqm := HQ.out.1
       exact ⟨⟨q, O ++ [m_], _, rfl, hqm.2.2.2.1, by rw [e9]; exact HQ.out.2.1, by rw [e9]; have := HLEN.out; omega, by omega, hdj, ⟨by rw [e9]; exact HQ.out.2.2⟩, pow_push T hR9 hB9 hrow hout hoo⟩, by simp [intOf]; omega⟩
      ·obtain rfl : z = 0 := by omega
       have d2 : decide ((0 : Int) < 0) = false := by decide
       have hOn : dval O = n := by have := HV.out; rw [Int.mul_zero, Int.add_zero] at this; exact this
       have HON := Aside0.mk hOn
       clear hOn hz1 hz2 hz0 hz HV
       go_wp2
       go_loopw [7, 8] (fun v7 v8 wq => ∃ i : Nat, i ≤ m ∧ v8 = .int .i64 i ∧ v7 = .int .i64 (2 ^ i) ∧ PowSt w wq o vO O e) (fun _ v8 _ => m - (intOf v8).toNat)
       case atStart => exact ⟨0, Nat.zero_le _, rfl, rfl, T⟩
       case round =>
        clear T
        obtain ⟨i, him, rfl, rfl, T⟩ := hrel
        by_cases hlt : i < m
        ·have d3 : decide ((i : Int) < (m : Int)) = true := by simp; omega
         have d4 : decide (i < m) = true := by simp; omega
         have hp2 : (2 : Int) ^ i * 2 = 2 ^ (i + 1) := (Int.pow_succ _ _).symm
         have hb2 : (2 : Int) ^ (i + 1) ≤ 2 ^ 24 := pow2_le (by omega)
         have hb3 : (0 : Int) < 2 ^ (i + 1) := Int.pow_pos (by omega)
         have i8 : IntKind.i64.wrap ((2 : Int) ^ i * 2) = 2 ^ (i + 1) := by rw [hp2]; exact wrapI _ (by omega) (by omega)
         have i9 : IntKind.i64.wrap ((i : Int) + 1) = (i : Int) + 1 := wrapI _ (by omega) (by omega)
         clear hp2 hb2 hb3
         go_wp2
         exact ⟨⟨i + 1, by omega, by go_num, rfl, T⟩, by simp [intOf]; omega⟩
        ·obtain rfl : i = m := by omega
         have d3 : decide ((i : Int) < (i : Int)) = false := by simp
         have d4 : decide (i < i) = false := by simp
         have hb2 : (2 : Int) ^ i ≤ 2 ^ 23 := pow2_le (by omega)
         have hb3 : (0 : Int) < 2 ^ i := Int.pow_pos (by omega)
         have hOl4 : O.length ≤ 3 := hOl
         go_wp2
         obtain ⟨tw, htw⟩ : ∃ tw : Int, tw = 2 ^ i := ⟨_, rfl⟩
         rw [← htw] at hb2 hb3 ⊢
         have HTW := Aside0.mk htw
         clear htw
         go_loopw [9, 10] (fun v9 v10 wq => ∃ (j : Nat) (c : Int) (xs : List Int), j ≤ O.length ∧ v10 = .int .i64 j ∧ v9 = .int .i64 c ∧ 0 ≤ c ∧ c < 16777216 ∧ Dig xs ∧ Aside0 (xs.length = O.length) ∧ Aside0 (∀ k : Nat, j ≤ k → rd xs (k : Int) = rd O (k : Int)) ∧ Aside0 (dval (xs.take j) + W j * c = tw * dval (O.take j)) ∧ PowSt w wq o vO xs e) (fun _ v10 _ => O.length - (intOf v10).toNat)
         case atStart => exact ⟨0, 0, O, Nat.zero_le _, rfl, rfl, by omega, by omega, hOd, ⟨rfl⟩, ⟨fun _ _ => rfl⟩, ⟨by simp [dval]⟩, T⟩
         case round =>
          clear T
          obtain ⟨j, c, xs, hj, rfl, rfl, hc0, hc1, hxd, HXL, HXS, HV, T⟩ := hrel
          by_cases hjl : j < O.length
          ·obtain ⟨b, cap, rfl, hbase, hlt, hput, hcell, hfz, hbo⟩ := pow_row T (k := j) (by rw [HXL.out]; exact hjl)
           rw [HXL.out]
           have hxj := HXS.out j (Nat.le_refl _)
           have hdo := rd_dig hOd (j : Int)
           have htk := take_snoc hjl
           rw [hxj] at hcell
           generalize hdg : rd O (j : Int) = d at *
           have hm0 : 0 ≤ d * tw := Int.mul_nonneg hdo.1 (by omega)
           have hm1 : d * tw ≤ 16777215 * 16777215 := Int.mul_le_mul (by omega) (by omega) (by omega) (by omega)
           have i5 : IntKind.i64.wrap (d * tw) = d * tw := wrapI _ (by omega) (by omega)
           obtain ⟨v, hv⟩ : ∃ v, d * tw + c = v := ⟨_, rfl⟩
           have i7 : IntKind.i64.wrap (d * tw + c) = v := by rw [wrapI _ (by omega) (by omega)]; exact hv
           have hv0 : 0 ≤ v := by omega
           obtain ⟨q, hq⟩ : ∃ q, q = v / 16777216 := ⟨_, rfl⟩
           obtain ⟨m_, hm_⟩ : ∃ m, m = v % 16777216 := ⟨_, rfl⟩
           have e6 : Int.tdiv v 16777216 = q := by rw [hq]; exact Int.tdiv_eq_ediv_of_nonneg hv0
           have e7 : Int.tmod v 16777216 = m_ := by rw [hm_]; exact Int.tmod_eq_emod_of_nonneg hv0
           have hqm : v = 16777216 * q + m_ ∧ 0 ≤ m_ ∧ m_ < 16777216 ∧ 0 ≤ q ∧ q < 16777216 := by omega
           have i8 : IntKind.i64.wrap q = q := wrapI _ (by omega) (by omega)
           have i9 : IntKind.i64.wrap m_ = m_ := wrapI _ (by omega) (by omega)
           have i10 : IntKind.i64.wrap ((j : Int) + 1) = (j : Int) + 1 := wrapI _ (by omega) (by omega)
           have d5 : decide ((j : Int) < (O.length : Int)) = true := by simp; omega
           have d6 : decide (j < O.length) = true := by simp; omega
           have hnx : dval ((xs.set j m_).take (j + 1)) + W (j + 1) * q = tw * dval (O.take (j + 1)) := by
            have h1 : j < (xs.set j m_).length := by rw [List.length_set, HXL.out]; exact hjl
            rw [take_snoc h1, rd_set (by rw [HXL.out]; exact hjl), if_pos rfl, List.take_set_of_le (Nat.le_refl _), htk, W_succ]
            have := HV.out
            rw [Int.mul_add, ← this, show m_ = d * tw + c - 16777216 * q from by omega]
            grind
           have HNX := Aside0.mk (And.intro hnx hqm)
           have HPUT := Aside0.mk (hput m_)
           have HFF := Aside0.mk (And.intro hdg hv)
           obtain ⟨r0, r1, r2, r3, r4, r5⟩ := num_cells T.row
           rw [HXL.out] at r1
           clear hnx hqm hput hdg hv hq hm_ hxj htk hm0 hm1 hdo T
           go_wp2
           have hqm := HNX.out.2
           exact ⟨⟨j + 1, q, xs.set j m_, by omega, by go_num, rfl, hqm.2.2.2.1, hqm.2.2.2.2, dig_set hxd hqm.2.1 hqm.2.2.1, ⟨by rw [List.length_set]; exact HXL.out⟩, ⟨fun k hk => by rw [rd_set (by rw [HXL.out]; exact hjl), if_neg (by omega)]; exact HXS.out k (by omega)⟩, ⟨HNX.out.1⟩, by have := HPUT.out; rw [HXL.out] at this; exact this⟩, by simp [intOf]; omega⟩
          ·obtain rfl : j = O.length := by omega
           have d5 : decide ((O.length : Int) < (O.length : Int)) = false := by simp
           have d6 : decide (O.length < O.length) = false := by simp
           have hfin := HV.out
           rw [List.take_of_length_le (by rw [HXL.out]; exact Nat.le_refl _), List.take_of_length_le (Nat.le_refl _), HON.out] at hfin
           have hval : dval (xs ++ [c]) = tw * n := by rw [dval_snoc, HXL.out]; exact hfin
           have hDg : Dig (xs ++ [c]) := hxd.join (fun x hx => by rw [List.mem_singleton.mp hx]; omega)
           have hlx := HXL.out
           have hl5 : (xs ++ [c]).length = O.length + 1 := by rw [List.length_append, hlx]; rfl
           have HLX := Aside0.mk hlx
           obtain ⟨Av, cv, rfl⟩ := Kd.R_slice T.own
           rw [hlx] at T
           obtain ⟨r0, r1, r2, r3, r4, r5⟩ := num_cells T.row
           have HL5 := Aside0.mk hl5
           have HVAL := Aside0.mk hval
           clear hfin hval hlx hl5
           have hxl4 : xs.length ≤ 4000000 := by rw [HLX.out]; omega
           go_wp2_with (first
            | (refine Kd.R_append_rows (Kd.int .i64) (w0 := w) w.heap.size (by rfl) (.tmp 70) (.tmp 72) 75 2 (.int .i64 0) 8 rfl Tryz.underlying75 infoD rfl (by decide) (by omega) _ xs [c] _ _ _ (fun _ => True) (fun _ => False) rfl rfl ?aO ?aR (fun _ _ h => h) (fun _ h => h.elim) (fun _ _ => trivial) ?aB ?aS ?aL ?_
               (case aO => exact Kd.R_alloc T.own _)
               (case aR => exact ilit_C [c] rfl (heap_alloc_new _ _) rfl (by decide))
               (case aB => exact below_alloc T.bel _)
               (case aS => exact (below_alloc T.bel _).size)
               (case aL => omega)
               intro v9 w9 hR9 hB9 hg9 hat9; clear hat9; obtain ⟨A9, c9, rfl⟩ := Kd.R_slice hR9; have hrow := blk_grown (blk_alloc T.row _) hg9 (Kd.R_ne T.own T.row (by decide)); have hout := blk_grown (blk_alloc T.out _) hg9 (Kd.R_ne T.own T.out (by decide)); obtain ⟨r0, r1, r2, r3, r4, r5⟩ := num_cells hrow; have e9 : (xs ++ [c]).length = xs.length + 1 := (by simp); rw [e9] at hR9; have T9 := pow_push T hR9 hB9 hrow hout hoo; obtain ⟨A', c', eA, hcA, hDA⟩ := dig_of_R T9.own; rw [e9] at eA hcA; injection eA with eA _ eC; subst eA eC; have ht := trim_call 1 e (xs ++ [c]) A9 c9 _ hDA.1 (by rw [e9]; exact hcA) hDg (.inl rfl) (B := B) (n := 1010) (by omega) (by rw [e9, HLX.out]; push_cast; omega) (by have := HK.out; omega) (by omega); rw [e9] at ht; have HT9 := Aside0.mk (And.intro T9 hDA); clear hg9 T9 hDA T hR9 e9)
            | (go_at_call 125; (with_reducible refine ht.mono ?_); rintro u w5 ⟨v5, rfl, hN5, hb5⟩; have T5 := HT9.out.1.below hb5; have hD5 := HT9.out.2.below hb5; obtain ⟨S5, D5, E5, A5, c5, rfl, hC5, hc5, hW5⟩ := hN5.at hD5; obtain ⟨q0, q1, q2, q3, q4, q5⟩ := num_cells T5.out; have HW5 := Aside0.mk hW5; have HT5 := Aside0.mk T5; clear hN5 hD5 hW5 hb5 T5 ht))
           refine bodyPost_ret (results_cell_row rfl _ _ w.heap.size 77 #[.int .i64 S5, .slice A5 D5.length c5, .int .i64 E5] (0, 0) _ rfl (num_put HT5.out.out) Tryz.underlying77 rfl (by kernel_rfl)) rfl ⟨_, rfl, ?_, below_put HT5.out.bel (by omega)⟩
           have hxy : n * 2 ^ (24 * (B : Int) + k0).toNat = 1 * (W (e + B).toNat * dval (xs ++ [c])) := by
            rw [HVAL.out, HTW.out, W_two, show (24 * (B : Int) + k0).toNat = 24 * (e + B).toNat + i from by have := HK.out; omega, Int.pow_add]; grind
           rw [hxy]
           exact ⟨S5, D5, E5, A5, c5, rfl, dig_put hC5 HT5.out.out, hc5, HW5.out⟩
end Go.Proofs.YtioahkblhekgpaaGreatDoor.Nw
namespace Go.Proofs.YtioahkblhekgpaaGreatDoor.Nw
set_option exponentiation.threshold 4000
open Go.RowKit Go.Proofs.YtioahkblhekgpaaGreatDoor.FltP Go.Proofs.YtioahkblhekgpaaGreatDoor.R Go.Proofs.YtioahkblhekgpaaGreatDoor.E Go.Proofs.YtioahkblhekgpaaGreatDoor.O Go.Proofs.YtioahkblhekgpaaGreatDoorW.PrintWords Go.Proofs.YtioahkblhekgpaaGreatDoorW.PrintLast Go.Proofs.YtioahkblhekgpaaGreatDoorW.PrintMore
open Go.Proofs.YtioahkblhekgpaaGreatDoor.NumP Go.Proofs.YtioahkblhekgpaaGreatDoor.Adm
theorem two_dvd_iff (m j : Nat) (o : Int) (ho : o % 2 = 1) : (2 : Int) ^ j ∣ 2 ^ m * o ↔ j ≤ m := by
 constructor
 ·intro h
  apply Classical.byContradiction
  intro hlt
  obtain ⟨d, rfl⟩ : ∃ d, j = m + 1 + d := ⟨j - (m + 1), by omega⟩
  rw [Int.pow_add, Int.pow_add, Int.mul_assoc] at h
  have := Int.dvd_of_mul_dvd_mul_left (Int.ne_of_gt (Int.pow_pos (by omega) : (0 : Int) < 2 ^ m)) h
  obtain ⟨c, hc⟩ := this
  rw [show (2 : Int) ^ 1 * 2 ^ d * c = 2 * (2 ^ d * c) from by grind] at hc
  omega
 ·intro h
  obtain ⟨d, rfl⟩ : ∃ d, m = j + d := ⟨m - j, by omega⟩
  rw [Int.pow_add, Int.mul_assoc]
  exact Int.dvd_mul_right _ _
theorem low_dvd {S : Int} {D : List Int} {E : Int} {B n : Nat} {x o : Int} {t : Nat} (h : Worth S D E B n x) (hx : x ≠ 0) (hD : D ≠ []) (ht : t < 24) (ho : o % 2 = 1) (he : rd D 0 = 2 ^ t * o) (j : Nat) : (2 : Int) ^ j ∣ x ↔ (j : Int) ≤ 24 * E + t + 24 * B := by
 have hS : S ≠ 0 := by rw [h.sign]; intro h0; exact hx (Int.sign_eq_zero_iff_zero.1 h0)
 have hab := h.abs hS
 have hp := h.place
 cases D with
 | nil => exact absurd rfl hD
 | cons d0 ds =>
  have hr0 : rd (d0 :: ds) 0 = d0 := rfl
  rw [hr0] at he
  rw [← Int.dvd_natAbs, ← hab, W_two, dval, he]
  have e5 : (2 : Int) ^ (24 * (E + B).toNat) * (2 ^ t * o + 16777216 * dval ds) = 2 ^ (24 * (E + (B : Int)).toNat + t) * (o + 2 * (2 ^ (23 - t) * dval ds)) := by
   rw [show (16777216 : Int) = 2 ^ t * (2 * 2 ^ (23 - t)) from by rw [← Int.pow_succ', ← Int.pow_add, show t + (23 - t + 1) = 24 from by omega]; rfl, Int.pow_add]
   grind
  rw [e5, two_dvd_iff _ _ _ (by omega)]
  omega
theorem pow2_lt {a b : Nat} (h : (2 : Int) ^ a < 2 ^ b) : a < b := by
 rcases Nat.lt_or_ge a b with h1 | h1
 ·exact h1
 ·have := pow2_le h1; omega
set_option maxRecDepth 100000 in
set_option maxHeartbeats 4000000 in
theorem low_call {v : Value} {B n : Nat} {x : Int} {w : World} (h : NumAt w v B n x) (hx : x ≠ 0) (hn : n ≤ 399999) :
 Calls Tryz.prog 97 #[v] w fun e w' => ∃ r : Int, e = .returned (.int .i64 r) ∧ (∀ j : Nat, (2 : Int) ^ j ∣ x ↔ (j : Int) ≤ r + 24 * B) ∧ Below w.heap.size w w' := by
 have hu := Tryz.underlying77
 obtain ⟨S, D, E, A, c, rfl, hC, hc, hw⟩ := h
 have hS : S ≠ 0 := by rw [hw.sign]; intro h0; exact hx (Int.sign_eq_zero_iff_zero.1 h0)
 have e1 : (S == 0) = false := beq_eq_false_iff_ne.mpr hS
 have hval := hw.val
 have hlo := hw.lo
 have hhi := hw.hi
 have hpl := hw.place
 have htr := fun W (hb : Below w.heap.size w W) => trim_call S E D A c W (Kd.C_below hC.1 hb) hc hw.digits (worth_sgn hw hS) (B := B) (n := n) hlo hhi hpl (by omega)
 rw [hval] at htr
 have hB0 := below_alloc (Below.refl w.heap.size w) (.cells #[.int .i64 S, .slice A D.length c, .int .i64 E] 77)
 have HDW := Aside0.mk (And.intro hC hx)
 clear hval hw hlo hhi hpl hS hC hc hx
 go_enter Tryz.func97, Tryz.ntmps97
 go_upto_region 4 with (go_at_call 125; (with_reducible refine (htr _ hB0).mono ?_); rintro u w5 ⟨v5, rfl, hN5, hb5⟩; have hB5 := hB0.trans (hb5.mono hB0.size); obtain ⟨S5, D5, E5, A5, c5, rfl, hC5, hc5, hW5, hD5⟩ := hN5; have hD := hC5 _ (HDW.out.1.below hB5); have HW5 := Aside0.mk hW5; have HDD := Aside0.mk hD5; clear hW5 hD5 hb5 htr hC5)
 have hne : D5 ≠ [] := fun hh => by
  have := HW5.out.val
  rw [hh] at this
  simp [dval] at this
  exact HDW.out.2 this.symm
 have hlo := HW5.out.lo
 have hhi := HW5.out.hi
 have hdb := rd_dig HW5.out.digits 0
 have hd0 := HDD.out.resolve_left hne
 have hp : 0 < D5.length := List.length_pos_iff.mpr hne
 obtain ⟨b, o, rfl, hz⟩ := row_at hD.1 hp
 have x0 := hz 0 hp
 rw [Nat.add_zero] at x0
 clear hz
 have i1 : IntKind.i64.wrap (24 * E5) = 24 * E5 := wrapI _ (by omega) (by omega)
 have d1 : decide ((0 : Int) < (D5.length : Int)) = true := by simp; omega
 have d2 : decide (0 < D5.length) = true := by simp; omega
 have HNE := Aside0.mk hne
 clear hne hD hc5
 have x1 := bcell (below_alloc (Below.refl w5.heap.size w5) (.cells #[.int .i64 S5, .slice (some ⟨b, o, none⟩) D5.length c5, .int .i64 E5] 77)) x0
 obtain ⟨dd, hdd⟩ : ∃ dd, dd = rd D5 ((0 : Nat) : Int) := ⟨_, rfl⟩
 rw [← hdd] at x1 x0
 have hdb2 : 0 < dd ∧ dd < 16777216 := by
  have e : rd D5 ((0 : Nat) : Int) = rd D5 0 := rfl
  rw [hdd, e]; omega
 have HDE := Aside0.mk hdd
 clear hdd hdb hd0
 go_wp2
 go_loopw [4, 5] (fun v4 v5 wr => ∃ (t : Nat) (d : Int), v5 = .int .i64 d ∧ v4 = .int .i64 (24 * E5 + t) ∧ 0 < d ∧ d < 16777216 ∧ t < 24 ∧ Aside0 (dd = 2 ^ t * d) ∧ Below w.heap.size w wr) (fun _ v5 _ => (intOf v5).toNat)
 case atStart => exact ⟨0, dd, rfl, by simp, hdb2.1, hdb2.2, by omega, ⟨by simp⟩, below_alloc hB5 _⟩
 case round =>
  obtain ⟨t, d, rfl, rfl, hd0, hd1, ht, HV, hB⟩ := hrel
  have em : Int.tmod d 2 = d % 2 := Int.tmod_eq_emod_of_nonneg (by omega)
  have ed : Int.tdiv d 2 = d / 2 := Int.tdiv_eq_ediv_of_nonneg (by omega)
  by_cases h2 : d % 2 = 0
  ·obtain ⟨q, hq⟩ : ∃ q, q = d / 2 := ⟨_, rfl⟩
   rw [← hq] at ed
   rw [h2] at em
   have hnx : dd = 2 ^ (t + 1) * q := by rw [HV.out, Int.pow_succ, Int.mul_assoc]; congr 1; omega
   have ht2 : t + 1 < 24 := by
    have h3 : (2 : Int) ^ (t + 1) * 1 ≤ 2 ^ (t + 1) * q := Int.mul_le_mul_of_nonneg_left (by omega) (Int.le_of_lt (Int.pow_pos (by omega)))
    rw [← hnx, Int.mul_one] at h3
    exact pow2_lt (b := 24) (by omega)
   have hq2 : 0 < q ∧ q < d := by omega
   have i2 : IntKind.i64.wrap (24 * E5 + (t : Int) + 1) = 24 * E5 + (t : Int) + 1 := wrapI _ (by omega) (by omega)
   have i3 : IntKind.i64.wrap q = q := wrapI _ (by omega) (by omega)
   have HNX := Aside0.mk hnx
   clear hnx hq h2
   go_wp2
   exact ⟨⟨t + 1, q, rfl, by congr 1; push_cast; omega, hq2.1, by omega, ht2, HNX, hB⟩, by simp [intOf]; omega⟩
  ·have h3 : d % 2 = 1 := by omega
   rw [h3] at em
   have hres := low_dvd HW5.out HDW.out.2 HNE.out ht h3 (by rw [← HV.out, HDE.out]; rfl)
   have HR := Aside0.mk hres
   clear h2 hres h3
   go_wp2
   refine bodyPost_ret (v := .int .i64 (24 * E5 + (t : Int))) (by simp [results, Tryz.results97, go_sem]) rfl ⟨_, rfl, HR.out, hB⟩
end Go.Proofs.YtioahkblhekgpaaGreatDoor.Nw
namespace Go.Proofs.YtioahkblhekgpaaGreatDoor.Nw
set_option exponentiation.threshold 4000
open Go.RowKit Go.Proofs.YtioahkblhekgpaaGreatDoor.FltP Go.Proofs.YtioahkblhekgpaaGreatDoor.R Go.Proofs.YtioahkblhekgpaaGreatDoor.E Go.Proofs.YtioahkblhekgpaaGreatDoor.O Go.Proofs.YtioahkblhekgpaaGreatDoorW.PrintWords Go.Proofs.YtioahkblhekgpaaGreatDoorW.PrintLast Go.Proofs.YtioahkblhekgpaaGreatDoorW.PrintMore
open Go.Proofs.YtioahkblhekgpaaGreatDoor.NumP Go.Proofs.YtioahkblhekgpaaGreatDoor.Adm
theorem zero_fin : Fini 0 := ⟨by decide, by decide⟩
theorem zero_val : fval 0 = 0 := by decide
theorem two53 : Fini 4845873199050653696 ∧ fsig 4845873199050653696 = 2 ^ 52 ∧ fpl 4845873199050653696 = 1075 ∧ fsgn 4845873199050653696 = false := ⟨⟨by decide, by decide⟩, by decide, by decide, by decide⟩
theorem of_parts (y : Nat) (hy : Fini y) (hp : y < 2 ^ 63) (hne : fmag y ≠ 0) : ∃ (s f m : Nat) (e : Int), Ev (fun k => math_Frexp.f k y) (f, e) ∧ floatBits .mul .f64 f 4845873199050653696 = some m ∧ floatToIntVal .f64 m .u64 = some (s : Int) ∧ -1073 ≤ e ∧ e ≤ 1024 ∧ s < 2 ^ 53 ∧ (fmag y : Int) * 2 ^ 54 = (s : Int) * 2 ^ (24 * ((47 : Nat) : Int) + (e - 53)).toNat := by
 obtain ⟨s, e, s1, s2, e1, e2, hv, hev⟩ := frexp_ev hy hp hne
 obtain ⟨g1, g2, g3, g4⟩ := half_fin s s1 s2
 obtain ⟨t1, t2, t3, t4⟩ := two53
 have hex : fsig (s - 2 ^ 52 + 1022 * 2 ^ 52) * fsig 4845873199050653696 * 2 ^ (fpl (s - 2 ^ 52 + 1022 * 2 ^ 52) + fpl 4845873199050653696 - 1074) = s * 2 ^ 1074 := by
  rw [g2, g3, t2, t3, Nat.mul_assoc, ← Nat.pow_add]
 have hrn : rnd (s * 2 ^ 1074) = s * 2 ^ 1074 := rnd_exact rfl s2
 obtain ⟨r, r1, r2, r3, r4⟩ := mul_val g1 t1 (.inl (by rw [g3, t3]; omega)) (by
  rw [hex, hrn]
  have := Nat.mul_lt_mul_of_pos_right s2 (Nat.two_pow_pos 1074)
  rw [← Nat.pow_add] at this
  exact Nat.lt_of_lt_of_le this (Nat.pow_le_pow_right (by decide) (by omega)))
 rw [hex, hrn] at r3
 rw [g4, t4] at r4
 refine ⟨s, _, r, e, hev, r1, ?_, e1, e2, s2, ?_⟩
 ·unfold floatToIntVal
  rw [toInt_val r2, r4, r3, Nat.mul_div_cancel _ (Nat.two_pow_pos _)]
  simp only [Bool.xor_self, Bool.false_eq_true, if_false]
  rw [if_pos]
  have hmin : IntKind.u64.min = 0 := rfl
  have hmax : IntKind.u64.max = 18446744073709551615 := rfl
  rw [hmin, hmax]; omega
 ·have h1 : ((fmag y * 2 ^ 52 : Nat) : Int) = ((s * 2 ^ (e + 1073).toNat : Nat) : Int) := by rw [hv]
  simp only [Int.natCast_mul, Int.natCast_pow] at h1
  rw [show (24 * ((47 : Nat) : Int) + (e - 53)).toNat = (e + 1073).toNat + 2 from by omega, Int.pow_add, ← Int.mul_assoc]
  rw [show (54 : Nat) = 52 + 2 from rfl, Int.pow_add, ← Int.mul_assoc]
  exact congrArg (· * (2 : Int) ^ 2) h1
theorem two53_lt {s : Nat} (h : s < 2 ^ 53) : (s : Int) < 18446744073709551616 := by
 have : (2 : Nat) ^ 53 = 9007199254740992 := by decide
 omega
theorem of_steps {y : Nat} (hy : Fini y) (hp : y < 2 ^ 63) (hne : fmag y ≠ 0) : ∃ (s f m : Nat) (e : Int), (∀ w : World, Calls Tryz.prog 123 #[.float .f64 y] w fun e_ w' => e_ = .returned (.tuple #[.float .f64 f, .int .i64 e]) ∧ Drawn0 w w') ∧ floatBits .mul .f64 f 4845873199050653696 = some m ∧ floatToIntVal .f64 m .u64 = some (s : Int) ∧ IntKind.i64.wrap (e - 53) = e - 53 ∧
 (∀ w : World, Calls Tryz.prog 96 #[.int .u64 (s : Int), .int .i64 (e - 53)] w fun e w' => ∃ v, e = .returned v ∧ NumAt w' v 47 1010 ((fmag y : Int) * 2 ^ 54) ∧ Below w.heap.size w w') := by
 obtain ⟨s, f, m, e, h1, h2, h3, h4, h5, h6, h7⟩ := of_parts y hy hp hne
 obtain ⟨k, hk⟩ := h1.rounds
 refine ⟨s, f, m, e, fun w => math_Frexp.calls k y f e w hk, h2, h3, wrapI _ (by omega) (by omega), fun w => ?_⟩
 rw [h7]
 exact power_call s (e - 53) w (by omega) (two53_lt h6) (by omega) (by omega) 47 (by omega)
theorem below_drawn {w w' : World} (h : Drawn0 w w') : Below w.heap.size w w' := by
 obtain ⟨n, rfl⟩ := h.out
 exact pw_below_drewN (Below.refl _ _) n
theorem neg_bits {x : Nat} (hx : Fini x) (hneg : fval x < 0) : Fini (fneg x) ∧ fneg x < 2 ^ 63 ∧ (fmag (fneg x) : Int) = -fval x ∧ fmag (fneg x) ≠ 0 := by
 have hy := hx.neg
 have hyv := fval_neg hx
 have hyp : fneg x < 2 ^ 63 := by
  apply Classical.byContradiction
  intro hge
  have := hy.2
  have : fsgn (fneg x) = true := by unfold fsgn; rw [show fneg x / 2 ^ 63 % 2 = 1 from by omega]; rfl
  have hv2 : fval (fneg x) = -(fmag (fneg x) : Int) := by unfold fval; rw [this]; rfl
  omega
 have hmv : (fmag (fneg x) : Int) = -fval x := by rw [← fval_nonneg hyp, hyv]
 exact ⟨hy, hyp, hmv, by omega⟩
theorem pos_bits {x : Nat} (hx : Fini x) (h0 : fval x ≠ 0) (hneg : ¬ fval x < 0) : x < 2 ^ 63 ∧ (fmag x : Int) = fval x ∧ fmag x ≠ 0 := by
 have hxp : x < 2 ^ 63 := by
  apply Classical.byContradiction
  intro hge
  have := hx.2
  have hs : fsgn x = true := by unfold fsgn; rw [show x / 2 ^ 63 % 2 = 1 from by omega]; rfl
  have hv2 : fval x = -(fmag x : Int) := by unfold fval; rw [hs]; rfl
  omega
 have hmv : (fmag x : Int) = fval x := (fval_nonneg hxp).symm
 exact ⟨hxp, hmv, by omega⟩
set_option maxRecDepth 100000 in
set_option maxHeartbeats 4000000 in
theorem of_call {x : Nat} (hx : Fini x) (w : World) :
 Calls Tryz.prog 93 #[.float .f64 x] w fun e w' => ∃ v, e = .returned v ∧ NumAt w' v 47 1010 (fval x * 2 ^ 54) ∧ Below w.heap.size w w' := by
 have hu := Tryz.underlying77
 have n1 : (FloatKind.f64.format.order x x != some .eq) = false := by rw [bne, eq_fin hx hx]; simp
 have n2 : (FloatKind.f64.format.order 0 0 != some .eq) = false := by rw [bne, eq_fin zero_fin zero_fin]; simp
 have hsub := fun w_ => run_float_arith (P := Tryz.prog) w_ .sub 30 .f64 x x 0 (sub_self hx)
 have hout := blk_new w (.cells #[.int .i64 0, .slice none 0 0, .int .i64 0] 77)
 have hB0 := below_alloc (Below.refl w.heap.size w) (.cells #[.int .i64 0, .slice none 0 0, .int .i64 0] 77)
 by_cases h0 : fval x = 0
 ·have e0 : (FloatKind.f64.format.order x 0 == some .eq) = true := by rw [eq_fin hx zero_fin, zero_val]; simpa using h0
  have HR := Aside0.mk (show fval x * 2 ^ 54 = 0 by rw [h0, Int.zero_mul])
  have HB := Aside0.mk (And.intro hout hB0)
  clear h0 hout hB0
  go_enter Tryz.func93, Tryz.ntmps93
  go_wp2
  refine bodyPost_ret (results_cell_row rfl _ _ w.heap.size 77 #[.int .i64 0, .slice none 0 0, .int .i64 0] (0, 0) _ rfl HB.out.1 Tryz.underlying77 rfl (by kernel_rfl)) rfl ⟨_, rfl, ?_, HB.out.2⟩
  rw [HR.out]
  exact NumAt.zero _ _ _
 ·have e0 : (FloatKind.f64.format.order x 0 == some .eq) = false := by rw [eq_fin hx zero_fin, zero_val]; simpa using h0
  by_cases hneg : fval x < 0
  ·obtain ⟨hy, hyp, hmv, hne⟩ := neg_bits hx hneg
   have l0 : (FloatKind.f64.format.order x 0 == some .lt) = true := by rw [lt_fin hx zero_fin, zero_val]; simpa using hneg
   obtain ⟨s, f, m, e, q1, q2, q3, q4, q5⟩ := of_steps hy hyp hne
   rw [hmv] at q5
   have hmul := fun w_ => run_float_arith (P := Tryz.prog) w_ .mul 30 .f64 f 4845873199050653696 m q2
   have hcv := fun w_ => run_convert_float_int (P := Tryz.prog) w_ 30 64 .f64 .u64 m s (by rw [Tryz.underlying30]; rfl) Tryz.underlying64 q3
   have HN := Aside0.mk (And.intro hneg hout)
   clear q2 q3 hy hyp hmv hne hneg hx hout h0
   go_enter Tryz.func93, Tryz.ntmps93
   go_wp2_with (first
    | (go_at_call 123; (with_reducible refine (q1 _).mono ?_); rintro u w3 ⟨rfl, hd3⟩; have hB3 := hB0.trans ((below_drawn hd3).mono hB0.size); have hN3 := blk_below HN.out.2 (below_drawn hd3); have HN3 := Aside0.mk hN3; clear hd3 hN3)
    | (go_at_call 96; (with_reducible refine (q5 _).mono ?_); rintro u w5 ⟨v5, rfl, hN5, hb5⟩; have hB5 := hB3.trans (hb5.mono hB3.size); have hN5' := blk_below HN3.out hb5; obtain ⟨S5, D5, E5, A5, c5, rfl, hC5, hc5, hW5⟩ := hN5; obtain ⟨r0, r1, r2, r3, r4, r5⟩ := num_cells hN5'; have HN5 := Aside0.mk hN5'; have HW5 := Aside0.mk hW5; have hlt := blk_lt hN5'; clear hb5 hN5' hW5))
   have hr6 := num_put (y0 := .int .i64 (-1)) (y1 := .slice A5 D5.length c5) (y2 := .int .i64 E5) HN5.out
   have hp6 := below_put (y0 := .int .i64 (-1)) (y1 := .slice A5 D5.length c5) (y2 := .int .i64 E5) hB5 (Nat.le_refl _)
   have hd6 := dig_put (y0 := .int .i64 (-1)) (y1 := .slice A5 D5.length c5) (y2 := .int .i64 E5) hC5 HN5.out
   refine bodyPost_ret (results_cell_row rfl _ _ w.heap.size 77 #[.int .i64 (-1), .slice A5 D5.length c5, .int .i64 E5] (0, 0) _ rfl (blk_alloc hr6 _) Tryz.underlying77 rfl (by kernel_rfl)) rfl ⟨_, rfl, ?_, below_alloc hp6 _⟩
   have hS5 : S5 = 1 := by
    rw [HW5.out.sign]
    exact Int.sign_eq_one_of_pos (Int.mul_pos (by have := HN.out.1; omega) (Int.pow_pos (by omega)))
   have hneg := HW5.out.neg
   rw [hS5] at hneg
   rw [show fval x * 2 ^ 54 = -(-fval x * 2 ^ 54) from by grind]
   exact ⟨-1, D5, E5, A5, c5, rfl, hd6.below (below_alloc (Below.refl _ _) _), hc5, hneg⟩
  ·obtain ⟨hxp, hmv, hne⟩ := pos_bits hx h0 hneg
   have l0 : (FloatKind.f64.format.order x 0 == some .lt) = false := by rw [lt_fin hx zero_fin, zero_val]; simpa using hneg
   obtain ⟨s, f, m, e, q1, q2, q3, q4, q5⟩ := of_steps hx hxp hne
   rw [hmv] at q5
   have hmul := fun w_ => run_float_arith (P := Tryz.prog) w_ .mul 30 .f64 f 4845873199050653696 m q2
   have hcv := fun w_ => run_convert_float_int (P := Tryz.prog) w_ 30 64 .f64 .u64 m s (by rw [Tryz.underlying30]; rfl) Tryz.underlying64 q3
   have HN := Aside0.mk (And.intro hneg hout)
   clear q2 q3 hxp hmv hne hneg hx hout h0
   go_enter Tryz.func93, Tryz.ntmps93
   go_wp2_with (first
    | (go_at_call 123; (with_reducible refine (q1 _).mono ?_); rintro u w3 ⟨rfl, hd3⟩; have hB3 := hB0.trans ((below_drawn hd3).mono hB0.size); have hN3 := blk_below HN.out.2 (below_drawn hd3); have HN3 := Aside0.mk hN3; clear hd3 hN3)
    | (go_at_call 96; (with_reducible refine (q5 _).mono ?_); rintro u w5 ⟨v5, rfl, hN5, hb5⟩; have hB5 := hB3.trans (hb5.mono hB3.size); have hN5' := blk_below HN3.out hb5; obtain ⟨S5, D5, E5, A5, c5, rfl, hC5, hc5, hW5⟩ := hN5; obtain ⟨r0, r1, r2, r3, r4, r5⟩ := num_cells hN5'; have HN5 := Aside0.mk hN5'; have HW5 := Aside0.mk hW5; have hlt := blk_lt hN5'; clear hb5 hN5' hW5))
   have hr6 := num_put (y0 := .int .i64 S5) (y1 := .slice A5 D5.length c5) (y2 := .int .i64 E5) HN5.out
   have hp6 := below_put (y0 := .int .i64 S5) (y1 := .slice A5 D5.length c5) (y2 := .int .i64 E5) hB5 (Nat.le_refl _)
   have hd6 := dig_put (y0 := .int .i64 S5) (y1 := .slice A5 D5.length c5) (y2 := .int .i64 E5) hC5 HN5.out
   refine bodyPost_ret (results_cell_row rfl _ _ w.heap.size 77 #[.int .i64 S5, .slice A5 D5.length c5, .int .i64 E5] (0, 0) _ rfl (blk_alloc hr6 _) Tryz.underlying77 rfl (by kernel_rfl)) rfl ⟨_, rfl, ?_, below_alloc hp6 _⟩
   exact ⟨S5, D5, E5, A5, c5, rfl, hd6.below (below_alloc (Below.refl _ _) _), hc5, HW5.out⟩
end Go.Proofs.YtioahkblhekgpaaGreatDoor.Nw
namespace Go.Proofs.YtioahkblhekgpaaGreatDoor.Nw
set_option exponentiation.threshold 4000
open Go.RowKit Go.Proofs.YtioahkblhekgpaaGreatDoor.FltP Go.Proofs.YtioahkblhekgpaaGreatDoor.R Go.Proofs.YtioahkblhekgpaaGreatDoor.E Go.Proofs.YtioahkblhekgpaaGreatDoor.O Go.Proofs.YtioahkblhekgpaaGreatDoorW.PrintWords Go.Proofs.YtioahkblhekgpaaGreatDoorW.PrintLast Go.Proofs.YtioahkblhekgpaaGreatDoorW.PrintMore
open Go.Proofs.YtioahkblhekgpaaGreatDoor.NumP Go.Proofs.YtioahkblhekgpaaGreatDoor.Adm
theorem order_inf_inf {x : Nat} (h : x % 2 ^ 63 = 2047 * 2 ^ 52) : FloatKind.f64.format.order x x = some .eq := by
 rw [fmt_eq]; unfold Ieee.Format.order; rw [read_inf h]; simp only [Ieee.Datum.order]; cases fsgn x <;> rfl
theorem sub_inf {P : Program} {x : Nat} (h : x % 2 ^ 63 = 2047 * 2 ^ 52) : ∃ b : World → Nat, (∀ w, 2047 * 2 ^ 52 < b w % 2 ^ 63) ∧ ∀ t w, (binOp .sub t (.float .f64 x) (.float .f64 x)).run P w = .ok (.float .f64 (b w)) w.drew := by
 have h0 : FloatKind.f64.format.sub x x = none := by
  rw [fmt_eq]; unfold Ieee.Format.sub; rw [read_inf h]; cases fsgn x <;> rfl
 refine ⟨fun w => (Question.nanBits .f64 x x).cut (w.tape w.drawn (.nanBits .f64 x x)), fun w => ?_, fun t w => ?_⟩
 ·simp only [Question.cut]
  generalize w.tape w.drawn (.nanBits .f64 x x) = n
  have h1 : n / 2 % (2 ^ 52 - 1) < 2 ^ 52 - 1 := Nat.mod_lt _ (by decide)
  have h2 : n % 2 < 2 := Nat.mod_lt _ (by decide)
  generalize n / 2 % (2 ^ 52 - 1) = u at *
  generalize n % 2 = v at *
  omega
 ·simp [binOp, Op.floatArith, h0, Question.forced]
theorem nan_none {x : Nat} (h : 2047 * 2 ^ 52 < x % 2 ^ 63) : goodB x = false := decide_eq_false (fun hg : GoodF x => by have := hg.1.1; omega)
theorem inf_none {x : Nat} (h : x % 2 ^ 63 = 2047 * 2 ^ 52) : goodB x = false := decide_eq_false (fun hg : GoodF x => by have := hg.1.1; omega)
theorem fit_top (x : Nat) : ((((fval x * 2 ^ 54).natAbs : Nat) : Int) - 1 * 2 ^ (24 * ((47 : Nat) : Int) + 100).toNat).sign ≤ 0 ↔ fmag x ≤ 2 ^ 1174 := by
 have hp54 : (0 : Int) < 2 ^ 54 := Int.pow_pos (by omega)
 rw [Int.one_mul, Int.natAbs_mul, natAbs_fval, show (2 ^ 54 : Int).natAbs = 2 ^ 54 from rfl, show (24 * ((47 : Nat) : Int) + 100).toNat = 1174 + 54 from rfl]
 have key : ((fmag x * 2 ^ 54 : Nat) : Int) - 2 ^ (1174 + 54) = ((fmag x : Int) - 2 ^ 1174) * 2 ^ 54 := by
  rw [Int.natCast_mul, Int.pow_add, Int.sub_mul]; rfl
 rw [key, Int.sign_mul, Int.sign_eq_one_of_pos hp54, Int.mul_one]
 have hc : ((2 ^ 1174 : Nat) : Int) = 2 ^ 1174 := by simp
 constructor
 ·intro h
  have := Int.sign_nonpos_iff.1 h
  apply Int.ofNat_le.1
  rw [hc]; omega
 ·intro h
  have := Int.ofNat_le.2 h
  rw [hc] at this
  exact Int.sign_nonpos_iff.2 (by omega)
theorem fit_low {x : Nat} {l : Int} (h : ∀ j : Nat, (2 : Int) ^ j ∣ fval x * 2 ^ 54 ↔ (j : Int) ≤ l + 24 * ((47 : Nat) : Int)) : -100 ≤ l ↔ 2 ^ 974 ∣ fmag x := by
 have hp54 : (0 : Int) < 2 ^ 54 := Int.pow_pos (by omega)
 have h1 := h 1028
 rw [show (1028 : Nat) = 974 + 54 from rfl, Int.pow_add] at h1
 have h2 : (2 : Int) ^ 974 * 2 ^ 54 ∣ fval x * 2 ^ 54 ↔ 2 ^ 974 ∣ fmag x := by
  constructor
  ·intro h
   have := Int.dvd_of_mul_dvd_mul_right (Int.ne_of_gt hp54) h
   rw [← Int.dvd_natAbs, natAbs_fval] at this
   exact Int.ofNat_dvd.1 (by rw [Int.natCast_pow]; exact this)
  ·intro h
   refine Int.mul_dvd_mul_right _ ?_
   rw [← Int.dvd_natAbs, natAbs_fval]
   have := Int.ofNat_dvd.2 h
   rw [Int.natCast_pow] at this; exact this
 rw [← h2, h1]
 omega
set_option maxRecDepth 100000 in
set_option maxHeartbeats 4000000 in
theorem coord05_fin {x : Nat} (hx : Fini x) (w : World) : Calls Tryz.prog 70 #[.float .f64 x] w fun e w' => e = .returned (.bool (goodB x)) ∧ Below w.heap.size w w' := by
 have hu := Tryz.underlying77
 have n1 : (FloatKind.f64.format.order x x != some .eq) = false := by rw [bne, eq_fin hx hx]; simp
 have n2 : (FloatKind.f64.format.order 0 0 != some .eq) = false := by rw [bne, eq_fin zero_fin zero_fin]; simp
 have hsub := fun w_ => run_float_arith (P := Tryz.prog) w_ .sub 30 .f64 x x 0 (sub_self hx)
 by_cases h0 : fval x = 0
 ·have e0 : (FloatKind.f64.format.order x 0 == some .eq) = true := by rw [eq_fin hx zero_fin, zero_val]; simpa using h0
  have hg : goodB x = true := by
   have hm := (fval_zero_iff x).1 h0
   exact decide_eq_true (p := GoodF x) ⟨hx, by rw [hm]; exact Nat.zero_le _, by rw [hm]; exact Nat.dvd_zero _⟩
  rw [hg]
  clear h0 hg hx
  go_enter Tryz.func70, Tryz.ntmps70
  go_wp2
  go_ret
  exact ⟨rfl, Below.refl _ _⟩
 ·have e0 : (FloatKind.f64.format.order x 0 == some .eq) = false := by rw [eq_fin hx zero_fin, zero_val]; simpa using h0
  have hof := fun W => of_call hx W
  have hpw := fun W => power_call 1 100 W (by omega) (by omega) (by omega) (by omega) 47 (by omega)
  have hx0 : fval x * 2 ^ 54 ≠ 0 := Int.mul_ne_zero h0 (Int.ne_of_gt (Int.pow_pos (by omega)))
  have htop := fit_top x
  have hlw := @fit_low x
  have hgd : goodB x = (decide (fmag x ≤ 2 ^ 1174) && decide (2 ^ 974 ∣ fmag x)) := by
   rw [Bool.eq_iff_iff, Bool.and_eq_true, decide_eq_true_iff, decide_eq_true_iff]
   exact ⟨fun h => (of_decide_eq_true (p := GoodF x) h).2, fun h => decide_eq_true (p := GoodF x) ⟨hx, h⟩⟩
  rw [hgd]
  generalize fval x * 2 ^ 54 = v at *
  generalize hP : decide (fmag x ≤ 2 ^ 1174) = b1 at *
  generalize hQ : decide (2 ^ 974 ∣ fmag x) = b2 at *
  have htop2 : decide ((((v.natAbs : Nat) : Int) - 1 * 2 ^ (24 * ((47 : Nat) : Int) + 100).toNat).sign ≤ 0) = b1 := by rw [← hP]; exact decide_eq_decide.mpr htop
  have hlw2 : ∀ l : Int, (∀ j : Nat, (2 : Int) ^ j ∣ v ↔ (j : Int) ≤ l + 24 * ((47 : Nat) : Int)) → decide (-100 ≤ l) = b2 := fun l h => by rw [← hQ]; exact decide_eq_decide.mpr (hlw h)
  have HX := Aside0.mk (And.intro hx0 hlw2)
  have hcm : ∀ W v1 v2, NumAt W v1 47 1010 ((v.natAbs : Nat) : Int) → NumAt W v2 47 1010 (1 * 2 ^ (24 * ((47 : Nat) : Int) + 100).toNat) → Calls Tryz.prog 94 #[v1, v2] W fun e w' => e = .returned (.int .i64 (((v.natAbs : Nat) : Int) - 1 * 2 ^ (24 * ((47 : Nat) : Int) + 100).toNat).sign) ∧ Below W.heap.size W w' := fun W v1 v2 a b => cmp_call a b (by omega)
  have hcm : ∃ c, decide (c ≤ (0 : Int)) = b1 ∧ ∀ W v1 v2, NumAt W v1 47 1010 ((v.natAbs : Nat) : Int) → NumAt W v2 47 1010 (1 * 2 ^ (24 * ((47 : Nat) : Int) + 100).toNat) → Calls Tryz.prog 94 #[v1, v2] W fun e w' => e = .returned (.int .i64 c) ∧ Below W.heap.size W w' := ⟨_, htop2, hcm⟩
  clear hlw2 hx0 htop hlw htop2 hP hQ hgd h0 hx
  obtain ⟨c, htop2, hcm⟩ := hcm
  generalize (1 : Int) * 2 ^ (24 * ((47 : Nat) : Int) + 100).toNat = u at *
  cases b1
  all_goals
   go_enter Tryz.func70, Tryz.ntmps70
   go_wp2_with (first
    | (go_at_call 93; (with_reducible refine (hof _).mono ?_); rintro u3 w3 ⟨v3, rfl, hN3, hb3⟩; have hN3' := hN3; obtain ⟨S3, D3, E3, A3, c3, rfl, -, -, -⟩ := hN3'; have hN4 := hN3.below (below_alloc (Below.refl _ _) (.cells #[.int .i64 S3, .slice A3 D3.length c3, .int .i64 E3] 77)); have hB4 := below_alloc hb3 (.cells #[.int .i64 S3, .slice A3 D3.length c3, .int .i64 E3] 77); have hC4 := blk_new w3 (.cells #[.int .i64 S3, .slice A3 D3.length c3, .int .i64 E3] 77); clear hb3 hN3 hof)
    | (go_at_call 95; (with_reducible refine (abs_call hN4).mono ?_); rintro u5 w5 ⟨v5, rfl, hN5, hb5⟩; have hB5 := hB4.trans (hb5.mono hB4.size); have hM5 := hN4.below hb5; have hC5 := blk_below hC4 hb5; clear hb5 hN4 hC4)
    | (go_at_call 96; (with_reducible refine (hpw _).mono ?_); rintro u6 w6 ⟨v6, rfl, hN6, hb6⟩; have hB6 := hB5.trans (hb6.mono hB5.size); have hM6 := hM5.below hb6; have hA6 := hN5.below hb6; have hC6 := blk_below hC5 hb6; clear hb6 hM5 hN5 hC5 hpw)
    | (go_at_call 94; (with_reducible refine (hcm _ _ _ hA6 hN6).mono ?_); rintro u7 w7 ⟨rfl, hb7⟩; have hB7 := hB6.trans (hb7.mono hB6.size); have hM7 := hM6.below hb7; have hC7 := blk_below hC6 hb7; obtain ⟨r0, r1, r2, r3, r4, r5⟩ := num_cells hC7; clear hb7 hM6 hA6 hN6 hC6 hcm)
    | (go_at_call 97; (with_reducible refine (low_call hM7 HX.out.1 (by omega)).mono ?_); rintro u8 w8 ⟨l, rfl, hl, hb8⟩; have hB8 := hB7.trans (hb8.mono hB7.size); have hl2 := HX.out.2 l hl; clear hl hb8 hM7))
   go_ret
   first
    | exact ⟨rfl, hB7⟩
    | exact ⟨by simp [hl2], hB8⟩
theorem coord05_inf {x : Nat} (hx : x % 2 ^ 63 = 2047 * 2 ^ 52) (w : World) : Calls Tryz.prog 70 #[.float .f64 x] w fun e w' => e = .returned (.bool false) ∧ Below w.heap.size w w' := by
 obtain ⟨b, hb, hop⟩ := sub_inf (P := Tryz.prog) hx
 have n1 : (FloatKind.f64.format.order x x != some .eq) = false := by rw [bne, order_inf_inf hx]; rfl
 have n2 : ∀ w : World, (FloatKind.f64.format.order (b w) 0 != some .eq) = true := fun w => by rw [order_nan_l (hb w)]; rfl
 clear hx hb
 go_enter Tryz.func70, Tryz.ntmps70
 go_wp2_with (simp only [hop])
 go_ret
 exact ⟨rfl, (Below.refl _ _).drew⟩
theorem coord05_nan {x : Nat} (hx : 2047 * 2 ^ 52 < x % 2 ^ 63) (w : World) : Calls Tryz.prog 70 #[.float .f64 x] w fun e w' => e = .returned (.bool false) ∧ Below w.heap.size w w' := by
 have n1 : (FloatKind.f64.format.order x x != some .eq) = true := by rw [order_nan_l hx]; rfl
 clear hx
 go_enter Tryz.func70, Tryz.ntmps70
 go_wp2
 go_ret
 exact ⟨rfl, Below.refl _ _⟩
theorem coord05_call {x : Nat} (hx : x < 2 ^ 64) (w : World) : Calls Tryz.prog 70 #[.float .f64 x] w fun e w' => e = .returned (.bool (goodB x)) ∧ Below w.heap.size w w' := by
 rcases cls x hx with h | h | h
 ·exact coord05_fin h w
 ·rw [inf_none h]; exact coord05_inf h w
 ·rw [nan_none h]; exact coord05_nan h w
set_option maxRecDepth 100000 in
set_option maxHeartbeats 1000000 in
theorem may05_call {p : S} (h0 : p.f0 < 2 ^ 64) (h1 : p.f1 < 2 ^ 64) (w : World) : Calls Tryz.prog 44 #[.agg #[.float .f64 p.f0, .float .f64 p.f1]] w fun e w' => e = .returned (.bool (gp p)) ∧ Below w.heap.size w w' := by
 have hu := Tryz.underlying32
 have c0 := fun W => coord05_call h0 W
 have c1 := fun W => coord05_call h1 W
 have hg : gp p = (goodB p.f0 && goodB p.f1) := rfl
 rw [hg]
 clear hg h0 h1
 obtain ⟨x, y⟩ := p
 simp only at *
 generalize goodB x = b0 at *
 generalize goodB y = b1 at *
 cases b0
 all_goals
  go_enter Tryz.func44, Tryz.ntmps44
  go_wp2_with (first
   | (go_at_call 70; (with_reducible refine (c0 _).mono ?_); rintro u3 w3 ⟨rfl, hb3⟩; have hB3 := (below_alloc (Below.refl w.heap.size w) (.cells #[.float .f64 x, .float .f64 y] 32)).trans (hb3.mono (by simp)); have x1 := bcell (p := ⟨w.heap.size, 1, none⟩) (v := .float .f64 y) hb3 (by simp); clear hb3 c0)
   | (go_at_call 70; (with_reducible refine (c1 _).mono ?_); rintro u4 w4 ⟨rfl, hb4⟩; have hB4 := hB3.trans (hb4.mono hB3.size); clear hb4 c1))
  go_ret
  first
   | exact ⟨rfl, hB3⟩
   | exact ⟨by simp, hB4⟩
set_option maxRecDepth 100000 in
set_option maxHeartbeats 1000000 in
theorem less05_call {x y : Nat} (hx : Fini x) (hy : Fini y) (w : World) : Calls Tryz.prog 110 #[.float .f64 x, .float .f64 y] w fun e w' => ∃ v, e = .returned v ∧ NumAt w' v 47 1011 ((fval x - fval y) * 2 ^ 54) ∧ Below w.heap.size w w' := by
 have hu := Tryz.underlying77
 have h1 := fun W => of_call hx W
 have h2 := fun W => of_call hy W
 have hout := blk_new w (.cells #[.int .i64 0, .slice none 0 0, .int .i64 0] 77)
 have hB0 := below_alloc (Below.refl w.heap.size w) (.cells #[.int .i64 0, .slice none 0 0, .int .i64 0] 77)
 rw [Int.sub_mul]
 generalize fval x * 2 ^ 54 = a at *
 generalize fval y * 2 ^ 54 = b at *
 have HO := Aside0.mk hout
 clear hx hy hout
 go_enter Tryz.func110, Tryz.ntmps110
 go_wp2_with (first
  | (go_at_call 93; (with_reducible refine (h1 _).mono ?_); rintro u3 w3 ⟨v3, rfl, hN3, hb3⟩; have hB3 := hB0.trans (hb3.mono hB0.size); have HO3 := Aside0.mk (blk_below HO.out hb3); clear hb3 h1)
  | (go_at_call 93; (with_reducible refine (h2 _).mono ?_); rintro u4 w4 ⟨v4, rfl, hN4, hb4⟩; have hB4 := hB3.trans (hb4.mono hB3.size); have hM4 := hN3.below hb4; have HO4 := Aside0.mk (blk_below HO3.out hb4); clear hb4 h2 hN3)
  | (go_at_call 111; (with_reducible refine (sub_call hM4 hN4 (by omega)).mono ?_); rintro u5 w5 ⟨v5, rfl, hN5, hb5⟩; have hB5 := hB4.trans (hb5.mono hB4.size); have hO5 := blk_below HO4.out hb5; obtain ⟨r0, r1, r2, r3, r4, r5⟩ := num_cells hO5; obtain ⟨S5, D5, E5, A5, c5, rfl, hC5, hc5, hW5⟩ := hN5; have HW5 := Aside0.mk hW5; have HO5 := Aside0.mk hO5; clear hb5 hM4 hN4 hW5 hO5))
 refine bodyPost_ret (results_cell_row rfl _ _ w.heap.size 77 #[.int .i64 S5, .slice A5 D5.length c5, .int .i64 E5] (0, 0) _ rfl (num_put HO5.out) Tryz.underlying77 rfl (by kernel_rfl)) rfl ⟨_, rfl, ?_, below_put hB5 (Nat.le_refl _)⟩
 exact ⟨S5, D5, E5, A5, c5, rfl, dig_put hC5 HO5.out, hc5, HW5.out⟩
end Go.Proofs.YtioahkblhekgpaaGreatDoor.Nw
