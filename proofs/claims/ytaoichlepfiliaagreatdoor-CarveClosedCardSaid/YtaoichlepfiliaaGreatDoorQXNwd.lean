/- Lemmas of Nwd. Conditions stand in each. -/
import Derived.Laws.MakeOwn
import Derived.Deep.QuietTactic
import Derived.BigQuiet
import Derived.Deep.AppendLies
import Derived.StillTailTactics
import Derived.Test.YtaoichlepfiliaaGreatDoorQXNwc
set_option linter.unusedSimpArgs false
set_option linter.unusedVariables false
namespace Go.Proofs.YtaoichlepfiliaaGreatDoor.Nw
open Go.RowKit Go.Proofs.YtaoichlepfiliaaGreatDoor.FltP Go.Proofs.YtaoichlepfiliaaGreatDoor.R Go.Proofs.YtaoichlepfiliaaGreatDoor.E Go.Proofs.YtaoichlepfiliaaGreatDoor.O Go.Proofs.YtaoichlepfiliaaGreatDoorW.PrintWords Go.Proofs.YtaoichlepfiliaaGreatDoorW.PrintLast
open Go.Proofs.YtaoichlepfiliaaGreatDoor.NumP Go.Proofs.YtaoichlepfiliaaGreatDoor.Adm
def arrI (xs : List Int) : Array Value := (xs.map (Value.int .i64)).toArray
theorem arrI_get {xs : List Int} {i : Nat} (h : i < xs.length) : (arrI xs)[i]? = some (.int .i64 (rd xs (i : Int))) := by
 unfold arrI
 rw [List.getElem?_toArray, List.getElem?_map, List.getElem?_eq_getElem h, rd, Int.toNat_natCast, List.getD_eq_getElem?_getD, List.getElem?_eq_getElem h]
 rfl
theorem arrI_set (xs : List Int) (i : Nat) (v : Int) : (arrI xs).setIfInBounds i (.int .i64 v) = arrI (xs.set i v) := by
 unfold arrI
 rw [List.setIfInBounds_toArray, List.map_set]
theorem arrI_made (n : Nat) : madeCells #[Value.int .i64 0] n = arrI (List.replicate n 0) := by
 apply Array.ext_getElem?
 intro j
 unfold madeCells arrI
 by_cases hn : j < n
 ·simp [hn, Nat.mod_one]
 ·simp [hn]
theorem make_i64 (n : Nat) (hn : n ≤ 1048576) (W : World) : (Instr.makeSlice 129 (.int .i64 (n : Int)) (.int .i64 (n : Int))).run Tryz.prog W = .ok (.slice (some ⟨W.heap.size, 0, none⟩) n n) (W.alloc (.cells (arrI (List.replicate n 0)) 2)) := by
 obtain ⟨i0, hi, hz0, hz1, hz2⟩ := info_parts infoD
 have hr := run_make (P := Tryz.prog) W 129 2 i0 _ Tryz.underlying129 hi hz0 .i64 .i64 (n : Int) (n : Int) (by omega) (by omega) (by rw [hz2]; omega) (by omega)
 rw [hz1, Int.toNat_natCast, Nat.mul_one, show (Value.int IntKind.i64 0).cells = #[Value.int .i64 0] from rfl, arrI_made] at hr
 exact hr
theorem dval_set : ∀ (l : List Int) (i : Nat) (v : Int), i < l.length → dval (l.set i v) = dval l + W i * (v - rd l (i : Int))
 | [], i, v, h => by simp at h
 | d :: l, 0, v, _ => by simp [dval, rd, W_zero]; omega
 | d :: l, i + 1, v, h => by
  have ih := dval_set l i v (by simpa using h)
  have e : rd (d :: l) ((i + 1 : Nat) : Int) = rd l (i : Int) := by simp [rd, List.getD_eq_getElem?_getD]
  rw [e, List.set_cons_succ]
  simp only [dval, ih, W_succ]
  grind
theorem rd_set {l : List Int} {i : Nat} {v : Int} (h : i < l.length) (j : Nat) : rd (l.set i v) (j : Int) = if j = i then v else rd l (j : Int) := by
 simp only [rd, Int.toNat_natCast, List.getD_eq_getElem?_getD]
 by_cases e : j = i
 ·subst e; rw [if_pos rfl, List.getElem?_set_self h]; rfl
 ·rw [if_neg e, List.getElem?_set_ne (Ne.symm e)]
theorem dig_set {l : List Int} {i : Nat} {v : Int} (h : Dig l) (h0 : 0 ≤ v) (h1 : v < 16777216) : Dig (l.set i v) := fun x hx => by
 rcases List.mem_or_eq_of_mem_set hx with h2 | h2
 ·exact h x h2
 ·omega
theorem take_snoc {D : List Int} {i : Nat} (h : i < D.length) : dval (D.take (i + 1)) = dval (D.take i) + W i * rd D (i : Int) := by
 rw [List.take_add_one, List.getElem?_eq_getElem h, rd, Int.toNat_natCast, List.getD_eq_getElem?_getD, List.getElem?_eq_getElem h]
 simp only [Option.toList]
 rw [dval_snoc, List.length_take, Nat.min_eq_left (Nat.le_of_lt h)]
 rfl
theorem mul_place {xs D2 : List Int} {i j : Nat} {a c V q m : Int} (hl : i + j < xs.length) (hj : j < D2.length) (hv : dval xs + W (i + j) * c = V + a * (W i * dval (D2.take j))) (he : rd xs ((i + j : Nat) : Int) + a * rd D2 (j : Int) + c = 16777216 * q + m) :
 dval (xs.set (i + j) m) + W (i + (j + 1)) * q = V + a * (W i * dval (D2.take (j + 1))) := by
 rw [dval_set xs (i + j) m hl, take_snoc hj, ← Nat.add_assoc, W_succ, W_add]
 rw [W_add] at hv
 generalize dval (D2.take j) = t at *
 generalize dval xs = X at *
 generalize W i = wi at *
 generalize W j = wj at *
 generalize rd xs ((i + j : Nat) : Int) = y at *
 generalize rd D2 (j : Int) = b at *
 rw [show X = V + a * (wi * t) - wi * wj * c from by omega, show m = y + a * b + c - 16777216 * q from by omega]
 grind
theorem blk_new' (w : World) (a b : Obj) : ((w.alloc a).alloc b).heap[w.heap.size + 1]? = some b := by
 have h := blk_new (w.alloc a) b
 rwa [show (w.alloc a).heap.size = w.heap.size + 1 from by simp] at h
structure MulSt (w wr : World) (p o N : Nat) (xs : List Int) (S E : Int) (S1 : Int) (A1 : Option Addr) (n1 c1 : Nat) (E1 S2 : Int) (A2 : Option Addr) (n2 c2 : Nat) (E2 : Int) : Prop where
 row : wr.heap[p]? = some (.cells (arrI xs) 2 (0, 0))
 out : wr.heap[o]? = some (.cells #[.int .i64 S, .slice (some ⟨p, 0, none⟩) N N, .int .i64 E] 131 (0, 0))
 box : Boxes w.heap.size wr S1 A1 n1 c1 E1 S2 A2 n2 c2 E2
 bel : Below w.heap.size w wr
theorem MulSt.below {w wr w' : World} {p o N : Nat} {xs : List Int} {S E S1 : Int} {A1 : Option Addr} {n1 c1 : Nat} {E1 S2 : Int} {A2 : Option Addr} {n2 c2 : Nat} {E2 : Int} (h : MulSt w wr p o N xs S E S1 A1 n1 c1 E1 S2 A2 n2 c2 E2) (hb : Below wr.heap.size wr w') : MulSt w w' p o N xs S E S1 A1 n1 c1 E1 S2 A2 n2 c2 E2 :=
 ⟨blk_below h.row hb, blk_below h.out hb, h.box.below hb, h.bel.trans (hb.mono h.bel.size)⟩
theorem MulSt.put {w wr : World} {p o N : Nat} {xs : List Int} {S E S1 : Int} {A1 : Option Addr} {n1 c1 : Nat} {E1 S2 : Int} {A2 : Option Addr} {n2 c2 : Nat} {E2 : Int} (h : MulSt w wr p o N xs S E S1 A1 n1 c1 E1 S2 A2 n2 c2 E2) (hp : w.heap.size + 2 < p) (hpo : o ≠ p) (i : Nat) (v : Int) : MulSt w (wr.setCell ⟨p, i, none⟩ (.int .i64 v)) p o N (xs.set i v) S E S1 A1 n1 c1 E1 S2 A2 n2 c2 E2 :=
 ⟨blk_put h.row i _ (arrI_set xs i v), blk_far h.out hpo _, ⟨blk_far h.box.one (by show w.heap.size ≠ p; omega) _, blk_far h.box.two (by show w.heap.size + 1 ≠ p; omega) _, blk_far h.box.out (by show w.heap.size + 2 ≠ p; omega) _⟩, h.bel.setCell (by show w.heap.size ≤ p; omega) _⟩
theorem ilit_C' {w : World} {B : Nat} {t : TypeId} (l : List Int) {arr : Array Value} (ha : arr = arrI l) (h : w.heap[B]? = some (.cells arr t (0, 0))) (hm : l.length ≤ 9223372036854775807 := by omega) : Kd.C (Kd.int .i64) w (some ⟨B, 0, none⟩) l.length l := by
 subst ha
 refine ⟨rfl, hm, fun _ => ⟨_, rfl, fun j p hj => ?_⟩⟩
 have hjl : j < l.length := by
  rcases Nat.lt_or_ge j l.length with h1 | h1
  ·exact h1
  ·rw [List.getElem?_eq_none h1] at hj; cases hj
 refine ⟨[.int .i64 p], rfl, rfl, fun i u hi => ?_⟩
 have hs : (Kd.int .i64).sz = 1 := rfl
 rw [hs, Addr.add_lit]
 match i, hi with
 | 0, hi =>
  simp at hi; subst hi
  refine (blk_cell h (0 + (j * 1 + 0))).trans ?_
  rw [Nat.zero_add, Nat.add_zero, Nat.mul_one, arrI_get hjl, rd, Int.toNat_natCast, List.getD_eq_getElem?_getD, hj]
  rfl
 | i + 1, hi => simp at hi
set_option maxRecDepth 100000 in
set_option maxHeartbeats 8000000 in
theorem mul_main (S1 E1 : Int) (D1 : List Int) (A1 : Option Addr) (c1 : Nat) (S2 E2 : Int) (D2 : List Int) (A2 : Option Addr) (c2 : Nat) (w : World) (hC1 : Kd.C (Kd.int .i64) w A1 D1.length D1) (hC2 : Kd.C (Kd.int .i64) w A2 D2.length D2) {B C n m : Nat} {x y : Int} (h1 : Worth S1 D1 E1 B n x) (h2 : Worth S2 D2 E2 C m y) (hn : n + m ≤ 399999)
 (z1 : S1 ≠ 0) (z2 : S2 ≠ 0) :
 Calls Tryz.prog 121 #[.agg #[.int .i64 S1, .slice A1 D1.length c1, .int .i64 E1], .agg #[.int .i64 S2, .slice A2 D2.length c2, .int .i64 E2]] w fun e w' => ∃ v, e = .returned v ∧ NumAt w' v (B + C) (n + m) (x * y) ∧ Below w.heap.size w w' := by
 have hu := Tryz.underlying131
 have l1 := h1.lo; have l2 := h2.lo; have u1 := h1.hi; have u2 := h2.hi; have p1 := h1.place; have p2 := h2.place
 have s1 := worth_sgn h1 z1
 have s2 := worth_sgn h2 z2
 have hS : S1 * S2 = 1 ∨ S1 * S2 = -1 := by rcases s1 with rfl | rfl <;> rcases s2 with rfl | rfl <;> simp
 have hxy : x * y = S1 * S2 * (W (E1 + E2 + ((B + C : Nat) : Int)).toNat * (dval D1 * dval D2)) := by
  rw [← h1.val, ← h2.val, show (E1 + E2 + ((B + C : Nat) : Int)).toNat = (E1 + (B : Int)).toNat + (E2 + (C : Int)).toNat from by omega, W_add]; grind
 have hd1 := h1.digits
 have hd2 := h2.digits
 have e1 : (S1 == 0) = false := beq_eq_false_iff_ne.mpr z1
 have e2 : (S2 == 0) = false := beq_eq_false_iff_ne.mpr z2
 have hmk := make_i64 (D1.length + D2.length) (by omega)
 rw [Int.natCast_add] at hmk
 have i1 : IntKind.i64.wrap ((D1.length : Int) + (D2.length : Int)) = (D1.length : Int) + (D2.length : Int) := wrapI _ (by omega) (by omega)
 have i2 : IntKind.i64.wrap (S1 * S2) = S1 * S2 := wrapI _ (by omega) (by omega)
 have i3 : IntKind.i64.wrap (E1 + E2) = E1 + E2 := wrapI _ (by omega) (by omega)
 have hX : Boxes w.heap.size _ S1 A1 D1.length c1 E1 S2 A2 D2.length c2 E2 := ⟨(three_new w _ _ _).1, (three_new w _ _ _).2.1, (three_new w _ _ _).2.2⟩
 have hB0 := below_alloc (below_alloc (below_alloc (Below.refl w.heap.size w) (.cells #[.int .i64 S1, .slice A1 D1.length c1, .int .i64 E1] 131)) (.cells #[.int .i64 S2, .slice A2 D2.length c2, .int .i64 E2] 131)) (.cells #[.int .i64 0, .slice none 0 0, .int .i64 0] 131)
 have HXY := Aside0.mk (And.intro hxy hS)
 have HSS := Aside0.mk (And.intro h1 h2)
 clear hxy hS s1 s2 h1 h2 z1 z2
 go_enter Tryz.func121, Tryz.ntmps121
 go_upto_region 3 with (fail)
 go_cut [5] (fun v5 wc => ∃ p o : Nat, v5 = .pointer (some ⟨o, 0, none⟩) ∧ w.heap.size + 2 < p ∧ o ≠ p ∧ w.heap.size + 2 < o ∧ MulSt w wc p o (D1.length + D2.length) (List.replicate (D1.length + D2.length) 0) (S1 * S2) (E1 + E2) S1 A1 D1.length c1 E1 S2 A2 D2.length c2 E2)
 case first =>
  have hl0 := (by simp : (((w.alloc (.cells #[.int .i64 S1, .slice A1 D1.length c1, .int .i64 E1] 131)).alloc (.cells #[.int .i64 S2, .slice A2 D2.length c2, .int .i64 E2] 131)).alloc (.cells #[.int .i64 0, .slice none 0 0, .int .i64 0] 131)).heap.size = w.heap.size + 3)
  generalize ((w.alloc (.cells #[.int .i64 S1, .slice A1 D1.length c1, .int .i64 E1] 131)).alloc (.cells #[.int .i64 S2, .slice A2 D2.length c2, .int .i64 E2] 131)).alloc (.cells #[.int .i64 0, .slice none 0 0, .int .i64 0] 131) = w0 at *
  have HL0 := Aside0.mk hl0
  clear hl0
  obtain ⟨⟨x0, x1, x2⟩, y0, y1, y2⟩ := hX.cells
  have hS : w0.cell? ⟨w.heap.size, 0, none⟩ = some (.int .i64 S1) ∧ w0.cell? ⟨w.heap.size, 1, none⟩ = some (.slice A1 D1.length c1) ∧ w0.cell? ⟨w.heap.size, 2, none⟩ = some (.int .i64 E1) ∧ w0.cell? ⟨w.heap.size + 1, 0, none⟩ = some (.int .i64 S2) ∧ w0.cell? ⟨w.heap.size + 1, 1, none⟩ = some (.slice A2 D2.length c2) ∧ w0.cell? ⟨w.heap.size + 1, 2, none⟩ = some (.int .i64 E2) := ⟨x0, x1, x2, y0, y1, y2⟩
  clear x0 x1 x2 y0 y1 y2
  have hN0 := Below.refl w0.heap.size w0
  go_region_held3 (fun W' => W'.cell? ⟨w.heap.size, 0, none⟩ = some (.int .i64 S1) ∧ W'.cell? ⟨w.heap.size, 1, none⟩ = some (.slice A1 D1.length c1) ∧ W'.cell? ⟨w.heap.size, 2, none⟩ = some (.int .i64 E1) ∧ W'.cell? ⟨w.heap.size + 1, 0, none⟩ = some (.int .i64 S2) ∧ W'.cell? ⟨w.heap.size + 1, 1, none⟩ = some (.slice A2 D2.length c2) ∧ W'.cell? ⟨w.heap.size + 1, 2, none⟩ = some (.int .i64 E2))
   (first | exact hS | exact six_below2 (by (with_reducible (repeat (first | exact hN0 | apply below_drew1 | apply below_alloc | apply pw_below_drewN | assumption)))) hS)
   (fail)
  all_goals
   go_wp2
   go_meet
  case rel =>
   exact ⟨w0.heap.size, w0.heap.size + 1, rfl, by have := HL0.out; omega, by omega, by have := HL0.out; omega, blk_drew (blk_alloc (blk_new _ _) _), blk_drew (blk_new' _ _ _), (hX.below (below_drew1 (below_alloc (below_alloc (Below.refl _ _) _) _))), below_drew1 (below_alloc (below_alloc hB0 _) _)⟩
  case rel =>
   exact ⟨w0.heap.size + 1, w0.heap.size, rfl, by have := HL0.out; omega, by omega, by have := HL0.out; omega, blk_drew (blk_new' _ _ _), blk_drew (blk_alloc (blk_new _ _) _), (hX.below (below_drew1 (below_alloc (below_alloc (Below.refl _ _) _) _))), below_drew1 (below_alloc (below_alloc hB0 _) _)⟩
 case rest =>
  obtain ⟨p, o, rfl, hp, hpo, ho, T⟩ := hcut
  clear hmk i1 i2 i3 hX hB0
  generalize S1 * S2 = SS at *
  go_wp2
  go_loopw [6] (fun v6 wr => ∃ (i : Nat) (xs : List Int), i ≤ D1.length ∧ v6 = .int .i64 i ∧ Dig xs ∧ Aside0 (xs.length = D1.length + D2.length) ∧ Aside0 (∀ m : Nat, i + D2.length ≤ m → rd xs (m : Int) = 0) ∧ Aside0 (dval xs = dval (D1.take i) * dval D2) ∧ MulSt w wr p o (D1.length + D2.length) xs SS (E1 + E2) S1 A1 D1.length c1 E1 S2 A2 D2.length c2 E2) (fun v6 _ => D1.length - (intOf v6).toNat)
  case atStart => exact ⟨0, _, Nat.zero_le _, rfl, fun d hd => by rw [List.eq_of_mem_replicate hd]; omega, ⟨by simp⟩, ⟨fun k hk => by simp only [rd, Int.toNat_natCast, List.getD_eq_getElem?_getD, List.getElem?_replicate]; split <;> rfl⟩, ⟨by rw [dval_zeros]; simp [dval]⟩, T⟩
  case round =>
   clear T
   obtain ⟨i, xs, hi, rfl, hdx, HXL, HZ, HV, T⟩ := hrel
   obtain ⟨⟨x0, x1, x2⟩, y0, y1, y2⟩ := T.box.cells
   by_cases hil : i < D1.length
   ·have d1 : decide ((i : Int) < (D1.length : Int)) = true := by simp; omega
    have d2 : decide (i < D1.length) = true := by simp; omega
    have ha := hd1 _ (List.getElem_mem hil)
    have hra : rd D1 (i : Int) = D1[i] := by rw [rd, Int.toNat_natCast, List.getD_eq_getElem?_getD, List.getElem?_eq_getElem hil]; rfl
    have htk := take_snoc hil
    rw [← hra] at ha
    clear hra
    generalize hae : rd D1 (i : Int) = a at *
    have HAE := Aside0.mk hae
    have HTK := Aside0.mk htk
    clear hae htk
    have i4 : IntKind.i64.wrap ((i : Int) + 1) = (i : Int) + 1 := wrapI _ (by omega) (by omega)
    go_wp2
    go_loopw [7, 8] (fun v7 v8 wr => ∃ (j : Nat) (c : Int) (ys : List Int), j ≤ D2.length ∧ v8 = .int .i64 j ∧ v7 = .int .i64 c ∧ 0 ≤ c ∧ c < 16777216 ∧ Dig ys ∧ Aside0 (ys.length = D1.length + D2.length) ∧ Aside0 (∀ m : Nat, i + D2.length ≤ m → rd ys (m : Int) = 0) ∧ Aside0 (dval ys + W (i + j) * c = dval xs + a * (W i * dval (D2.take j))) ∧ MulSt w wr p o (D1.length + D2.length) ys SS (E1 + E2) S1 A1 D1.length c1 E1 S2 A2 D2.length c2 E2) (fun _ v8 _ => D2.length - (intOf v8).toNat)
    case atStart => exact ⟨0, 0, xs, Nat.zero_le _, rfl, rfl, by omega, by omega, hdx, HXL, HZ, ⟨by simp [dval]⟩, T⟩
    case round =>
     clear T x0 x1 x2 y0 y1 y2
     obtain ⟨j, c, ys, hj, rfl, rfl, hc0, hc1_, hdy, HYL, HZY, HVY, T⟩ := hrel
     obtain ⟨⟨x0, x1, x2⟩, y0, y1, y2⟩ := T.box.cells
     have q1 := (num_cells T.out).2.1
     by_cases hjl : j < D2.length
     ·obtain ⟨ab, ao, rfl, hza⟩ := row_at (Kd.C_below hC1 T.bel) (by omega)
      have xa := hza i hil
      rw [HAE.out] at xa
      obtain ⟨bb, bo, rfl, hzb⟩ := row_at (Kd.C_below hC2 T.bel) (by omega)
      have xb := hzb j hjl
      clear hza hzb
      have hb_ := rd_dig hd2 (j : Int)
      have hy_ := rd_dig hdy ((i + j : Nat) : Int)
      have hlen : i + j < ys.length := by have := HYL.out; omega
      have xr := (blk_cell T.row (i + j)).trans (arrI_get hlen)
      have xf := blk_frozen T.row (i + j)
      have hpl := fun q m_ he => @mul_place ys D2 i j a c (dval xs) q m_ hlen hjl HVY.out he
      generalize rd D2 (j : Int) = b at *
      generalize rd ys ((i + j : Nat) : Int) = y_ at *
      have hm0 : 0 ≤ a * b := Int.mul_nonneg ha.1 hb_.1
      have hm1 : a * b ≤ 16777215 * 16777215 := Int.mul_le_mul (by omega) (by omega) (by omega) (by omega)
      have i5 : IntKind.i64.wrap (a * b) = a * b := wrapI _ (by omega) (by omega)
      have i6 : IntKind.i64.wrap (y_ + a * b) = y_ + a * b := wrapI _ (by omega) (by omega)
      obtain ⟨v, hv⟩ : ∃ v, y_ + a * b + c = v := ⟨_, rfl⟩
      have i7 : IntKind.i64.wrap (y_ + a * b + c) = v := by rw [wrapI _ (by omega) (by omega)]; exact hv
      have hv0 : 0 ≤ v := by omega
      have hv1 : v < 16777216 * 16777216 := by omega
      obtain ⟨q, hq⟩ : ∃ q, q = v / 16777216 := ⟨_, rfl⟩
      obtain ⟨m_, hm_⟩ : ∃ m, m = v % 16777216 := ⟨_, rfl⟩
      have e6 : Int.tdiv v 16777216 = q := by rw [hq]; exact Int.tdiv_eq_ediv_of_nonneg hv0
      have e7 : Int.tmod v 16777216 = m_ := by rw [hm_]; exact Int.tmod_eq_emod_of_nonneg hv0
      have hqm : v = 16777216 * q + m_ ∧ 0 ≤ m_ ∧ m_ < 16777216 ∧ 0 ≤ q ∧ q < 16777216 := by omega
      have i8 : IntKind.i64.wrap q = q := wrapI _ (by omega) (by omega)
      have i9 : IntKind.i64.wrap m_ = m_ := wrapI _ (by omega) (by omega)
      have i10 : IntKind.i64.wrap ((i : Int) + (j : Int)) = ((i + j : Nat) : Int) := by rw [wrapI _ (by omega) (by omega)]; push_cast; rfl
      have i11 : IntKind.i64.wrap ((j : Int) + 1) = (j : Int) + 1 := wrapI _ (by omega) (by omega)
      have d3 : decide ((j : Int) < (D2.length : Int)) = true := by simp; omega
      have d4 : decide (j < D2.length) = true := by simp; omega
      have HPL := Aside0.mk (hpl q m_ (by rw [hv]; exact hqm.1))
      have HLEN := Aside0.mk hlen
      have HQM := Aside0.mk hqm
      have HVV := Aside0.mk hv
      clear hpl hlen hqm hv hq hm_ hm0 hm1 hb_ hy_
      go_wp2
      go_quiet (fail)
      have hqm := HQM.out
      have Td := T.below (pw_below_drewN (Below.refl _ _) nq)
      generalize wr.drewN nq = wd at *
      clear q1 xr xf T x0 x1 x2 y0 y1 y2 xa xb
      have q1 := (num_cells Td.out).2.1
      have xr := (blk_cell Td.row (i + j)).trans (arrI_get HLEN.out)
      have xf := blk_frozen Td.row (i + j)
      generalize rd ys ((i + j : Nat) : Int) = y2_ at *
      have d5 : decide (i + j < D1.length + D2.length) = true := by simp; omega
      have d6 : decide ((i : Int) + (j : Int) < (D1.length : Int) + (D2.length : Int)) = true := by simp; omega
      have p5 : i + j < D1.length + D2.length := by omega
      clear hqm
      go_wp2
      have hqm := HQM.out
      exact ⟨⟨j + 1, q, ys.set (i + j) m_, by omega, by congr 1, rfl, hqm.2.2.2.1, hqm.2.2.2.2, dig_set hdy hqm.2.1 hqm.2.2.1, ⟨by rw [List.length_set]; exact HYL.out⟩, ⟨fun k hk => by rw [rd_set HLEN.out, if_neg (by omega)]; exact HZY.out k hk⟩, ⟨HPL.out⟩, Td.put hp hpo _ _⟩, by simp [intOf]; omega⟩
     ·obtain rfl : j = D2.length := by omega
      have d3 : decide ((D2.length : Int) < (D2.length : Int)) = false := by simp
      have d4 : decide (D2.length < D2.length) = false := by simp
      have hlen : i + D2.length < ys.length := by have := HYL.out; omega
      have hz := HZY.out (i + D2.length) (Nat.le_refl _)
      have xr := (blk_cell T.row (i + D2.length)).trans (arrI_get hlen)
      have xf := blk_frozen T.row (i + D2.length)
      rw [hz] at xr
      have i5 : IntKind.i64.wrap ((i : Int) + (D2.length : Int)) = ((i + D2.length : Nat) : Int) := by rw [wrapI _ (by omega) (by omega)]; push_cast; rfl
      have i6 : IntKind.i64.wrap (0 + c) = c := by rw [Int.zero_add]; exact wrapI _ (by omega) (by omega)
      have i7 : IntKind.i64.wrap c = c := wrapI _ (by omega) (by omega)
      have hset : dval (ys.set (i + D2.length) c) = dval (D1.take (i + 1)) * dval D2 := by
       have h := HVY.out
       rw [List.take_length, HV.out] at h
       rw [dval_set _ _ _ hlen, hz, Int.sub_zero, h, HTK.out]
       grind
      have d5 : decide (i + D2.length < D1.length + D2.length) = true := by simp; omega
      have d6 : decide ((i : Int) + (D2.length : Int) < (D1.length : Int) + (D2.length : Int)) = true := by simp; omega
      have p5 : i + D2.length < D1.length + D2.length := by omega
      have HSET := Aside0.mk hset
      have HLEN := Aside0.mk hlen
      clear hset hlen hz
      go_upto_region 14 with (fail)
      clear x0 x1 x2 y0 y2
      have f1 : (0 ≤ (i : Int) + (D2.length : Int)) = True := eq_true (by omega)
      have f2 : ((i : Int) + (D2.length : Int)).toNat = i + D2.length := by omega
      have f3 : decide (0 ≤ (i : Int) + (D2.length : Int)) = true := by simp; omega
      go_still_tail 19, (by kernel_rfl)
      change wpList _ _ _ _ _ wr.drew
      have Td := T.below (below_drew1 (Below.refl _ _))
      generalize wr.drew = wd at *
      clear xr xf q1 y1 T
      have xr := (blk_cell Td.row (i + D2.length)).trans (arrI_get HLEN.out)
      have xf := blk_frozen Td.row (i + D2.length)
      generalize rd ys ((i + D2.length : Nat) : Int) = y2_ at *
      go_wp2
      exact ⟨⟨i + 1, ys.set (i + D2.length) c, by omega, by go_num, dig_set hdy hc0 hc1_, ⟨by rw [List.length_set]; exact HYL.out⟩, ⟨fun k hk => by rw [rd_set HLEN.out, if_neg (by omega)]; exact HZY.out k (by omega)⟩, ⟨HSET.out⟩, Td.put hp hpo _ _⟩, by simp [intOf]; omega⟩
   ·obtain rfl : i = D1.length := by omega
    have d1 : decide ((D1.length : Int) < (D1.length : Int)) = false := by simp
    have d2 : decide (D1.length < D1.length) = false := by simp
    have hfin := HV.out
    rw [List.take_length] at hfin
    have hxy := HXY.out.1
    rw [← hfin] at hxy
    have hlx := HXL.out
    have hDig : DigAt wr (some ⟨p, 0, none⟩) xs := ⟨ilit_C' xs rfl T.row, fun _ => ⟨_, rfl, _, _, T.row⟩⟩
    have ht := trim_call SS (E1 + E2) xs (some ⟨p, 0, none⟩) (D1.length + D2.length) wr hDig.1 (by omega) hdx HXY.out.2 (B := B + C) (n := n + m) (by push_cast; omega) (by push_cast; omega) (by push_cast; omega) (by omega)
    rw [← hxy, hlx] at ht
    obtain ⟨r0, r1, r2, r3, r4, r5⟩ := num_cells T.out
    have hBw := T.bel
    have HT := Aside0.mk (And.intro T hDig)
    clear hfin hxy hlx hDig T d1 d2
    have d1 : decide ((D1.length : Int) < (D1.length : Int)) = false := by simp
    have d2 : decide (D1.length < D1.length) = false := by simp
    go_wp2_with (go_at_call 128; (with_reducible refine ht.mono ?_); rintro u w5 ⟨v5, rfl, hN5, hb5⟩; have T5 := HT.out.1.below hb5; have hD5 := HT.out.2.below hb5; obtain ⟨S5, D5, E5, A5, c5, rfl, hC5, hc5, hW5⟩ := hN5.at hD5; obtain ⟨q0, q1, q2, q3, q4, q5⟩ := num_cells T5.box.out; have HW5 := Aside0.mk hW5; have HT5 := Aside0.mk T5; clear hN5 hD5 hW5 hb5 T5 ht)
    refine bodyPost_ret (results_cell_row rfl _ _ (w.heap.size + 2) 131 #[.int .i64 S5, .slice A5 D5.length c5, .int .i64 E5] (0, 0) _ rfl (num_put HT5.out.box.out) Tryz.underlying131 rfl (by kernel_rfl)) rfl ⟨_, rfl, ?_, below_put HT5.out.bel (by omega)⟩
    exact ⟨S5, D5, E5, A5, c5, rfl, dig_put hC5 HT5.out.box.out, hc5, HW5.out⟩
end Go.Proofs.YtaoichlepfiliaaGreatDoor.Nw
