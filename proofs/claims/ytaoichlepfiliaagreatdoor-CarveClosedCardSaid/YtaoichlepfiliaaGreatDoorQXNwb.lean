/- Lemmas of Nwb. Conditions stand in each. -/
import Derived.Test.YtaoichlepfiliaaGreatDoorQXNwa
set_option linter.unusedSimpArgs false
set_option linter.unusedVariables false
namespace Go.Proofs.YtaoichlepfiliaaGreatDoor.Nw
open Go.RowKit Go.Proofs.YtaoichlepfiliaaGreatDoor.FltP Go.Proofs.YtaoichlepfiliaaGreatDoor.R Go.Proofs.YtaoichlepfiliaaGreatDoor.E Go.Proofs.YtaoichlepfiliaaGreatDoor.O Go.Proofs.YtaoichlepfiliaaGreatDoorW.PrintWords Go.Proofs.YtaoichlepfiliaaGreatDoorW.PrintLast
open Go.Proofs.YtaoichlepfiliaaGreatDoor.NumP Go.Proofs.YtaoichlepfiliaaGreatDoor.Adm
theorem infoD : (Tryz.prog.info? 2).map (fun i => (i.zero, i.size, i.bytes)) = some (some (.int .i64 0), 1, 8) := by kernel_rfl
theorem worth_sgn {S : Int} {D : List Int} {E : Int} {B n : Nat} {x : Int} (h : Worth S D E B n x) (h0 : S ≠ 0) : S = 1 ∨ S = -1 := by
 have hs := h.sign
 rcases Int.lt_trichotomy x 0 with hx | hx | hx
 ·rw [Int.sign_eq_neg_one_of_neg hx] at hs; exact .inr hs
 ·subst hx; simp at hs; exact absurd hs h0
 ·rw [Int.sign_eq_one_of_pos hx] at hs; exact .inl hs
theorem place_step {D1 D2 O : List Int} {E1 E2 b g c v q : Int} {j : Nat} (hO : O.length = j) (hv : dval O + W j * c = dpart D1 E1 b j + g * dpart D2 E2 b j) (he : v + 16777216 * q = dig D1 E1 (b + j) + g * dig D2 E2 (b + j) + c) :
 dval (O ++ [v]) + W (j + 1) * q = dpart D1 E1 b (j + 1) + g * dpart D2 E2 b (j + 1) := by
 rw [dval_snoc, hO, W_succ]
 simp only [dpart]
 rw [show v = dig D1 E1 (b + j) + g * dig D2 E2 (b + j) + c - 16777216 * q from by omega]
 grind
theorem no_carry {O : List Int} {c : Int} {m : Nat} {y : Int} (hd : Dig O) (hl : O.length = m) (hv : dval O + W m * c = y) (h0 : 0 ≤ y) (h1 : y < W m) : dval O = y := by
 have hb := dval_bd hd
 rw [hl] at hb
 have hw := W_pos m
 rcases Int.lt_trichotomy c 0 with h | h | h
 ·have := Int.mul_le_mul_of_nonneg_left (show c ≤ -1 by omega) (Int.le_of_lt hw); omega
 ·subst h; omega
 ·have := Int.mul_le_mul_of_nonneg_left (show 1 ≤ c by omega) (Int.le_of_lt hw); omega
theorem three_new (w : World) (a b c : Obj) : (((w.alloc a).alloc b).alloc c).heap[w.heap.size]? = some a ∧ (((w.alloc a).alloc b).alloc c).heap[w.heap.size + 1]? = some b ∧ (((w.alloc a).alloc b).alloc c).heap[w.heap.size + 2]? = some c := by
 have h := blk_new ((w.alloc a).alloc b) c
 rw [show ((w.alloc a).alloc b).heap.size = w.heap.size + 2 from by simp] at h
 exact ⟨blk_alloc (two_new w a b).1 c, blk_alloc (two_new w a b).2 c, h⟩
structure Boxes (g : Nat) (wr : World) (S1 : Int) (A1 : Option Addr) (n1 c1 : Nat) (E1 S2 : Int) (A2 : Option Addr) (n2 c2 : Nat) (E2 : Int) : Prop where
 one : wr.heap[g]? = some (.cells #[.int .i64 S1, .slice A1 n1 c1, .int .i64 E1] 131 (0, 0))
 two : wr.heap[g + 1]? = some (.cells #[.int .i64 S2, .slice A2 n2 c2, .int .i64 E2] 131 (0, 0))
 out : wr.heap[g + 2]? = some (.cells #[.int .i64 0, .slice none 0 0, .int .i64 0] 131 (0, 0))
theorem Boxes.below {g : Nat} {wr w' : World} {S1 : Int} {A1 : Option Addr} {n1 c1 : Nat} {E1 S2 : Int} {A2 : Option Addr} {n2 c2 : Nat} {E2 : Int} (h : Boxes g wr S1 A1 n1 c1 E1 S2 A2 n2 c2 E2) (hb : Below wr.heap.size wr w') : Boxes g w' S1 A1 n1 c1 E1 S2 A2 n2 c2 E2 := ⟨blk_below h.one hb, blk_below h.two hb, blk_below h.out hb⟩
theorem Boxes.cells {g : Nat} {wr : World} {S1 : Int} {A1 : Option Addr} {n1 c1 : Nat} {E1 S2 : Int} {A2 : Option Addr} {n2 c2 : Nat} {E2 : Int} (h : Boxes g wr S1 A1 n1 c1 E1 S2 A2 n2 c2 E2) : (wr.cell? ⟨g, 0, none⟩ = some (.int .i64 S1) ∧ wr.cell? ⟨g, 1, none⟩ = some (.slice A1 n1 c1) ∧ wr.cell? ⟨g, 2, none⟩ = some (.int .i64 E1)) ∧ wr.cell? ⟨g + 1, 0, none⟩ = some (.int .i64 S2) ∧ wr.cell? ⟨g + 1, 1, none⟩ = some (.slice A2 n2 c2) ∧ wr.cell? ⟨g + 1, 2, none⟩ = some (.int .i64 E2) := by
 have h1 := num_cells h.one
 have h2 := num_cells h.two
 exact ⟨⟨h1.1, h1.2.1, h1.2.2.1⟩, h2.1, h2.2.1, h2.2.2.1⟩
structure AddSt (w wr : World) (o : Nat) (vO : Value) (O : List Int) (b S1 : Int) (A1 : Option Addr) (n1 c1 : Nat) (E1 S2 : Int) (A2 : Option Addr) (n2 c2 : Nat) (E2 : Int) : Prop where
 row : wr.heap[o]? = some (.cells #[.int .i64 S1, vO, .int .i64 b] 131 (0, 0))
 own : Kd.R (Kd.int .i64) 2 wr w.heap.size (fun _ => True) vO O
 box : Boxes w.heap.size wr S1 A1 n1 c1 E1 S2 A2 n2 c2 E2
 bel : Below w.heap.size w wr
theorem AddSt.below {w wr w' : World} {o : Nat} {vO : Value} {O : List Int} {b S1 : Int} {A1 : Option Addr} {n1 c1 : Nat} {E1 S2 : Int} {A2 : Option Addr} {n2 c2 : Nat} {E2 : Int} (h : AddSt w wr o vO O b S1 A1 n1 c1 E1 S2 A2 n2 c2 E2) (hb : Below wr.heap.size wr w') : AddSt w w' o vO O b S1 A1 n1 c1 E1 S2 A2 n2 c2 E2 :=
 ⟨blk_below h.row hb, Kd.R_below h.own hb, h.box.below hb, h.bel.trans (hb.mono h.bel.size)⟩
set_option maxRecDepth 100000 in
set_option maxHeartbeats 8000000 in
theorem add_main (S1 E1 : Int) (D1 : List Int) (A1 : Option Addr) (c1 : Nat) (S2 E2 : Int) (D2 : List Int) (A2 : Option Addr) (c2 : Nat) (w : World) (hC1 : Kd.C (Kd.int .i64) w A1 D1.length D1) (hC2 : Kd.C (Kd.int .i64) w A2 D2.length D2) {B n : Nat} {x y : Int} (h1 : Worth S1 D1 E1 B n x) (h2 : Worth S2 D2 E2 B n y) (hn : n ≤ 399999)
 (z1 : S1 ≠ 0) (z2 : S2 ≠ 0) (hge : S1 = S2 ∨ W (E2 + B).toNat * dval D2 ≤ W (E1 + B).toNat * dval D1) :
 Calls Tryz.prog 159 #[.agg #[.int .i64 S1, .slice A1 D1.length c1, .int .i64 E1], .agg #[.int .i64 S2, .slice A2 D2.length c2, .int .i64 E2]] w fun e w' => ∃ v, e = .returned v ∧ NumAt w' v B (n + 1) (x + y) ∧ Below w.heap.size w w' := by
 have hu := Tryz.underlying131
 have l1 := h1.lo; have l2 := h2.lo; have u1 := h1.hi; have u2 := h2.hi; have p1 := h1.place; have p2 := h2.place
 obtain ⟨b, hb⟩ : ∃ b, b = min E1 E2 := ⟨_, rfl⟩
 obtain ⟨m, hm⟩ : ∃ m : Nat, max (E1 + (D1.length : Int)) (E2 + D2.length) = b + m := ⟨(max (E1 + (D1.length : Int)) (E2 + D2.length) - b).toNat, by omega⟩
 obtain ⟨g, hg, hgS, hle⟩ : ∃ g : Int, (g = 1 ∨ g = -1) ∧ (g = 1 ∧ S1 = S2 ∨ g = -1 ∧ S1 ≠ S2) ∧ (0 ≤ dpart D1 E1 b (m + 1) + g * dpart D2 E2 b (m + 1) ∧ dpart D1 E1 b (m + 1) + g * dpart D2 E2 b (m + 1) < W (m + 1) ∧ x + y = S1 * (W (b + B).toNat * (dpart D1 E1 b (m + 1) + g * dpart D2 E2 b (m + 1)))) := by
  have q1 := dpart_all D1 E1 b (m + 1) (by omega) (by omega)
  have q2 := dpart_all D2 E2 b (m + 1) (by omega) (by omega)
  have r1 := dpart_all D1 E1 b m (by omega) (by omega)
  have r2 := dpart_all D2 E2 b m (by omega) (by omega)
  have b1 := dpart_bd h1.digits E1 b m
  have b2 := dpart_bd h2.digits E2 b m
  have sc1 : W (E1 + B).toNat * dval D1 = W (b + B).toNat * (W (E1 - b).toNat * dval D1) := by rw [← Int.mul_assoc, ← W_add, show (b + (B : Int)).toNat + (E1 - b).toNat = (E1 + B).toNat from by omega]
  have sc2 : W (E2 + B).toNat * dval D2 = W (b + B).toNat * (W (E2 - b).toNat * dval D2) := by rw [← Int.mul_assoc, ← W_add, show (b + (B : Int)).toNat + (E2 - b).toNat = (E2 + B).toNat from by omega]
  have v1 := h1.val
  have v2 := h2.val
  rw [sc1, ← r1] at v1
  rw [sc2, ← r2] at v2
  rw [q1, q2, ← r1, ← r2]
  have s1 := worth_sgn h1 z1
  have s2 := worth_sgn h2 z2
  have hw : W (m + 1) = 16777216 * W m := W_succ m
  by_cases he : S1 = S2
  ·refine ⟨1, .inl rfl, .inl ⟨rfl, he⟩, by omega, by omega, ?_⟩
   rw [← v1, ← v2, ← he]; grind
  ·have hle : dpart D2 E2 b m ≤ dpart D1 E1 b m := by
    have := hge.resolve_left he
    rw [sc1, sc2, ← r1, ← r2] at this
    exact Int.le_of_mul_le_mul_left this (W_pos _)
   refine ⟨-1, .inr rfl, .inr ⟨rfl, he⟩, by omega, by omega, ?_⟩
   rw [← v1, ← v2, show S2 = -S1 by omega]; grind
 have s1 := worth_sgn h1 z1
 have i1 : IntKind.i64.wrap (E1 + (D1.length : Int)) = E1 + (D1.length : Int) := wrapI _ (by omega) (by omega)
 have i2 : IntKind.i64.wrap (E2 + (D2.length : Int)) = E2 + (D2.length : Int) := wrapI _ (by omega) (by omega)
 have hd1 := h1.digits
 have hd2 := h2.digits
 have hg1 := fun i W h a b => digit_call S1 E1 i D1 A1 c1 W h (by omega) (by omega) (by omega) a b
 have hg2 := fun i W h a b => digit_call S2 E2 i D2 A2 c2 W h (by omega) (by omega) (by omega) a b
 have hsz := fun W a b => size_call S1 E1 D1 A1 c1 S2 E2 D2 A2 c2 W a b hd1 hd2 (B := B) (n := n) (by omega) p1 p2 l1 l2 u1 u2
 have hbd : -399999 ≤ b ∧ b + (m : Int) ≤ 399999 ∧ b ≤ E1 ∧ b ≤ E2 ∧ -(B : Int) ≤ b ∧ -(n : Int) ≤ b ∧ b + (m : Int) ≤ n := by omega
 have e1 : (S1 == 0) = false := beq_eq_false_iff_ne.mpr z1
 have e2 : (S2 == 0) = false := beq_eq_false_iff_ne.mpr z2
 have HBM := Aside0.mk (And.intro hb hm)
 have HLE := Aside0.mk hle
 have HGE := Aside0.mk hge
 have HGS := Aside0.mk (And.intro hg s1)
 clear hle hge s1 h1 h2 p1 p2 z1 z2
 go_enter Tryz.func159, Tryz.ntmps159
 go_upto_region 5 with (fail)
 go_cut [30] (fun v30 wc => v30 = .bool false ∧ Boxes w.heap.size wc S1 A1 D1.length c1 E1 S2 A2 D2.length c2 E2 ∧ Below w.heap.size w wc)
 case first =>
  have hB0 := below_alloc (below_alloc (below_alloc (Below.refl w.heap.size w) (.cells #[.int .i64 S1, .slice A1 D1.length c1, .int .i64 E1] 131)) (.cells #[.int .i64 S2, .slice A2 D2.length c2, .int .i64 E2] 131)) (.cells #[.int .i64 0, .slice none 0 0, .int .i64 0] 131)
  have hX : Boxes w.heap.size _ S1 A1 D1.length c1 E1 S2 A2 D2.length c2 E2 := ⟨(three_new w _ _ _).1, (three_new w _ _ _).2.1, (three_new w _ _ _).2.2⟩
  obtain ⟨⟨x0, x1, x2⟩, y0, y1, y2⟩ := hX.cells
  generalize ((w.alloc (.cells #[.int .i64 S1, .slice A1 D1.length c1, .int .i64 E1] 131)).alloc (.cells #[.int .i64 S2, .slice A2 D2.length c2, .int .i64 E2] 131)).alloc (.cells #[.int .i64 0, .slice none 0 0, .int .i64 0] 131) = w0 at *
  rcases hgS with ⟨hg1_, he⟩ | ⟨hg1_, he⟩
  ·subst he
   have e3 : (S1 != S1) = false := bne_self_eq_false _
   clear hg1_ hg
   go_wp2
   go_meet
   case rel => exact ⟨rfl, hX, hB0⟩
  ·have e3 : (S1 != S2) = true := bne_iff_ne.mpr he
   have HNE := Aside0.mk he
   clear he hg1_ hg
   go_wp2_with (go_at_call 191; (with_reducible refine (hsz _ (Kd.C_below hC1 hB0) (Kd.C_below hC2 hB0)).mono ?_); rintro u w3 ⟨r, rfl, hr, hb3⟩; have hr0 : decide (r < 0) = false := (by simp; have := HGE.out.resolve_left HNE.out; omega); have HR := Aside0.mk hr; clear hr)
   go_meet
   case rel => exact ⟨rfl, hX.below hb3, hB0.trans (hb3.mono hB0.size)⟩
 case rest =>
  obtain ⟨rfl, hX, hB⟩ := hcut
  obtain ⟨⟨x0, x1, x2⟩, y0, y1, y2⟩ := hX.cells
  obtain ⟨z, hz, hgz⟩ : ∃ z : Bool, (S1 != S2) = z ∧ g = if z = true then -1 else 1 := by
   rcases hgS with ⟨hg1_, he⟩ | ⟨hg1_, he⟩
   ·exact ⟨false, by rw [he]; exact bne_self_eq_false _, by rw [if_neg (by decide)]; exact hg1_⟩
   ·exact ⟨true, bne_iff_ne.mpr he, by rw [if_pos rfl]; exact hg1_⟩
  have HGZ := Aside0.mk hgz
  clear hgS hgz hg
  go_upto_if 38 with (fail)
  go_cut [5] (fun v5 wc' => v5 = .int .i64 g ∧ wc' = wc)
  case first =>
   cases z
   all_goals
    go_wp2
    go_meet
    case rel => exact ⟨by rw [HGZ.out]; rfl, rfl⟩
  case rest =>
   obtain ⟨rfl, rfl⟩ := hcut
   go_wp2
   rw [← hb]
   have hT0 : AddSt w (wc.alloc (.cells #[.int .i64 S1, .slice none 0 0, .int .i64 b] 131)) wc.heap.size (.slice none 0 0) [] b S1 A1 D1.length c1 E1 S2 A2 D2.length c2 E2 :=
    ⟨blk_new _ _, Kd.R_nil .., hX.below (below_alloc (Below.refl _ _) _), below_alloc hB _⟩
   obtain ⟨o, ho⟩ : ∃ o, o = wc.heap.size := ⟨_, rfl⟩
   rw [← ho] at hT0 ⊢
   have hol : w.heap.size + 2 < o := by rw [ho]; exact blk_lt hX.out
   clear hb hm ho hX x0 x1 x2 y0 y1 y2 hsz hB i1 i2
   obtain ⟨hb1, hb2, hb3, hb4, hb5, hb6, hb7⟩ := hbd
   go_loopw [9, 10] (fun v9 v10 wr => ∃ (j : Nat) (c : Int) (O : List Int) (vO : Value), j ≤ m + 1 ∧ v9 = .int .i64 c ∧ v10 = .int .i64 (b + (j : Int)) ∧ -1 ≤ c ∧ c ≤ 3 ∧ O.length = j ∧ Dig O ∧ Aside0 (dval O + W j * c = dpart D1 E1 b j + g * dpart D2 E2 b j) ∧ AddSt w wr o vO O b S1 A1 D1.length c1 E1 S2 A2 D2.length c2 E2) (fun _ v10 _ => (b + (m : Int) + 1 - intOf v10).toNat)
   case atStart => exact ⟨0, 0, [], .slice none 0 0, Nat.zero_le _, rfl, by simp, by omega, by omega, rfl, by simp [Dig], ⟨by simp [dval, dpart]⟩, hT0⟩
   case round =>
    obtain ⟨j, c, O, vO, hj, rfl, rfl, hc0, hc1_, hOl, hOd, HV, T⟩ := hrel
    by_cases hjm : j ≤ m
    ·have d1 : decide (b + (j : Int) ≤ b + (m : Int)) = true := by simp; omega
     have ha := fun W (h : Below w.heap.size w W) => hg1 (b + (j : Int)) W (Kd.C_below hC1 h) (by omega) (by omega)
     have hb_ := fun W (h : Below w.heap.size w W) => hg2 (b + (j : Int)) W (Kd.C_below hC2 h) (by omega) (by omega)
     have hx := dig_bd hd1 E1 (b + (j : Int))
     have hy := dig_bd hd2 E2 (b + (j : Int))
     have hps := fun v q => @place_step D1 D2 O E1 E2 b g c v q j hOl HV.out
     generalize dig D1 E1 (b + (j : Int)) = x_ at *
     generalize dig D2 E2 (b + (j : Int)) = y_ at *
     have hgy : -16777215 ≤ g * y_ ∧ g * y_ ≤ 16777215 := by rcases HGS.out.1 with h | h <;> rw [h] <;> omega
     have i3 : IntKind.i64.wrap (g * y_) = g * y_ := wrapI _ (by omega) (by omega)
     have i4 : IntKind.i64.wrap (x_ + g * y_) = x_ + g * y_ := wrapI _ (by omega) (by omega)
     have i5 : IntKind.i64.wrap (x_ + g * y_ + c) = x_ + g * y_ + c := wrapI _ (by omega) (by omega)
     have i6 : IntKind.i64.wrap (b + (j : Int) + 1) = b + (j : Int) + 1 := wrapI _ (by omega) (by omega)
     have hV : -16777216 ≤ x_ + g * y_ + c ∧ x_ + g * y_ + c < 67108864 := by omega
     have hOl2 : O.length ≤ 4000000 := by omega
     have HOL := Aside0.mk hOl
     have HPS := Aside0.mk hps
     clear hOl hps hgy hx hy
     obtain ⟨⟨x0, x1, x2⟩, y0, y1, y2⟩ := T.box.cells
     have hS : wr.cell? ⟨w.heap.size, 0, none⟩ = some (.int .i64 S1) ∧ wr.cell? ⟨w.heap.size, 1, none⟩ = some (.slice A1 D1.length c1) ∧ wr.cell? ⟨w.heap.size, 2, none⟩ = some (.int .i64 E1) ∧ wr.cell? ⟨w.heap.size + 1, 0, none⟩ = some (.int .i64 S2) ∧ wr.cell? ⟨w.heap.size + 1, 1, none⟩ = some (.slice A2 D2.length c2) ∧ wr.cell? ⟨w.heap.size + 1, 2, none⟩ = some (.int .i64 E2) := ⟨x0, x1, x2, y0, y1, y2⟩
     clear x0 x1 x2 y0 y1 y2
     have hBw := T.bel
     go_upto_region 17 with (fail)
     go_region_held3 (fun W' => W'.cell? ⟨w.heap.size, 0, none⟩ = some (.int .i64 S1) ∧ W'.cell? ⟨w.heap.size, 1, none⟩ = some (.slice A1 D1.length c1) ∧ W'.cell? ⟨w.heap.size, 2, none⟩ = some (.int .i64 E1) ∧ W'.cell? ⟨w.heap.size + 1, 0, none⟩ = some (.int .i64 S2) ∧ W'.cell? ⟨w.heap.size + 1, 1, none⟩ = some (.slice A2 D2.length c2) ∧ W'.cell? ⟨w.heap.size + 1, 2, none⟩ = some (.int .i64 E2))
      (first | exact hS | exact six_below2 (by (with_reducible (repeat (first | exact Below.refl _ _ | apply below_drew1 | apply below_alloc | apply pw_below_drewN | assumption)))) hS)
      (first
       | (go_at_call 192; (with_reducible refine (ha _ ?hq).mono ?_); (case hq => with_reducible (repeat (first | exact hBw | assumption | apply below_drew1 | apply below_alloc | apply pw_below_drewN))); rintro u w5 ⟨rfl, hb5⟩; have hB5 := below_step (w := w) (by (with_reducible (repeat (first | exact hBw | assumption | apply below_drew1 | apply below_alloc | apply pw_below_drewN)))) hb5; have hN5 := below_step (w := wr) (by (with_reducible (repeat (first | exact Below.refl _ _ | assumption | apply below_drew1 | apply below_alloc | apply pw_below_drewN)))) hb5)
       | (go_at_call 192; (with_reducible refine (hb_ _ ?hq).mono ?_); (case hq => with_reducible (repeat (first | assumption | apply below_drew1 | apply below_alloc | apply pw_below_drewN))); rintro u w6 ⟨rfl, hb6⟩; have hB6 := below_step (w := w) (by (with_reducible (repeat (first | assumption | apply below_drew1 | apply below_alloc | apply pw_below_drewN)))) hb6; have hN6 := below_step (w := wr) (by (with_reducible (repeat (first | assumption | apply below_drew1 | apply below_alloc | apply pw_below_drewN)))) hb6))
     all_goals
      have T6 := T.below hN6
      have HBW := Aside0.mk hBw
      clear hB5 hN5 hB6 hN6 hS hBw ha hb_ T
      obtain ⟨V, hVe⟩ : ∃ V, V = x_ + g * y_ + c := ⟨_, rfl⟩
      rw [← hVe] at hV ⊢
      have HVE := Aside0.mk hVe
      clear hVe i3 i4 i5
      go_wp2
      go_loopw [9, 11] (fun v9 v11 wq => ∃ q v : Int, v9 = .int .i64 q ∧ v11 = .int .i64 v ∧ Aside0 (v + 16777216 * q = V) ∧ -16777216 ≤ v ∧ v < 67108864 ∧ -1 ≤ q ∧ q ≤ 3 ∧ AddSt w wq o vO O b S1 A1 D1.length c1 E1 S2 A2 D2.length c2 E2) (fun _ v11 _ => (-intOf v11).toNat)
      case atStart => exact ⟨0, V, rfl, rfl, ⟨by omega⟩, by omega, by omega, by omega, by omega, T6⟩
      case round =>
       clear T6
       obtain ⟨q, v, rfl, rfl, HQ, hv0, hv1, hq0, hq1, T⟩ := hrel
       by_cases hv : v < 0
       ·have d2 : decide (v < 0) = true := decide_eq_true hv
        have i7 : IntKind.i64.wrap (v + 16777216) = v + 16777216 := wrapI _ (by omega) (by omega)
        have i8 : IntKind.i64.wrap (q - 1) = q - 1 := wrapI _ (by omega) (by omega)
        have hq2 : -1 ≤ q - 1 := by have := HQ.out; omega
        go_wp2
        exact ⟨⟨q - 1, v + 16777216, rfl, rfl, ⟨by have := HQ.out; omega⟩, by omega, by omega, hq2, by omega, T⟩, by simp [intOf]; omega⟩
       ·have d2 : decide (v < 0) = false := decide_eq_false hv
        go_wp2
        go_loopw [9, 11] (fun v9 v11 wq => ∃ q v : Int, v9 = .int .i64 q ∧ v11 = .int .i64 v ∧ Aside0 (v + 16777216 * q = V) ∧ 0 ≤ v ∧ v < 67108864 ∧ -1 ≤ q ∧ q ≤ 3 ∧ AddSt w wq o vO O b S1 A1 D1.length c1 E1 S2 A2 D2.length c2 E2) (fun _ v11 _ => (intOf v11).toNat)
        case atStart => exact ⟨q, v, rfl, rfl, HQ, by omega, by omega, by omega, by omega, T⟩
        case round =>
         clear T hv hv0 hv1 hq0 hq1 HQ d2
         obtain ⟨q, v, rfl, rfl, HQ, hv0, hv1, hq0, hq1, T⟩ := hrel
         by_cases hv : 16777216 ≤ v
         ·have d2 : decide ((16777216 : Int) ≤ v) = true := decide_eq_true hv
          have i7 : IntKind.i64.wrap (v - 16777216) = v - 16777216 := wrapI _ (by omega) (by omega)
          have i8 : IntKind.i64.wrap (q + 1) = q + 1 := wrapI _ (by omega) (by omega)
          have hq2 : q + 1 ≤ 3 := by have := HQ.out; omega
          go_wp2
          exact ⟨⟨q + 1, v - 16777216, rfl, rfl, ⟨by have := HQ.out; omega⟩, by omega, by omega, by omega, hq2, T⟩, by simp [intOf]; omega⟩
         ·have d2 : decide ((16777216 : Int) ≤ v) = false := decide_eq_false hv
          have hfin := HPS.out v q (by have := HQ.out; have := HVE.out; omega)
          have HF := Aside0.mk hfin
          have hdj : Dig (O ++ [v]) := hOd.join (fun z hz => by rw [List.mem_singleton.mp hz]; omega)
          obtain ⟨r0, r1, r2, r3, r4, r5⟩ := num_cells T.row
          have HOLT := Aside0.mk hol
          clear hfin hol
          go_wp2_with (first
           | (refine Kd.R_append_rows (Kd.int .i64) (w0 := w) w.heap.size (by rfl) (.tmp 91) (.tmp 93) 129 2 (.int .i64 0) 8 rfl Tryz.underlying129 infoD rfl (by decide) (by omega) vO O [v] _ _ _ (fun _ => True) (fun _ => False) rfl rfl ?aO ?aR (fun _ _ h => h) (fun _ h => h.elim) (fun _ _ => trivial) ?aB ?aS ?aL ?_
              (case aO => exact Kd.R_alloc T.own _)
              (case aR => exact ilit_C [v] rfl (heap_alloc_new _ _) rfl (by decide))
              (case aB => exact below_alloc T.bel _)
              (case aS => exact (below_alloc T.bel _).size)
              (case aL => omega)
              intro v9 w9 hR9 hB9 hg9 hat9; clear hat9; obtain ⟨A9, c9, rfl⟩ := Kd.R_slice hR9; have hrow := blk_grown (blk_alloc T.row _) hg9 (Kd.R_ne T.own T.row (by decide)); have hone := blk_grown (blk_alloc T.box.one _) hg9 (Kd.R_ne T.own T.box.one (by decide)); have htwo := blk_grown (blk_alloc T.box.two _) hg9 (Kd.R_ne T.own T.box.two (by decide)); have hout := blk_grown (blk_alloc T.box.out _) hg9 (Kd.R_ne T.own T.box.out (by decide)); obtain ⟨r0, r1, r2, r3, r4, r5⟩ := num_cells hrow; clear hg9))
          have hol := HOLT.out
          have e9 : (O ++ [v]).length = O.length + 1 := by simp
          rw [e9] at hR9
          have T9 : AddSt w (w9.setCell ⟨o, 1, none⟩ (.slice A9 (O.length + 1) c9)) o (.slice A9 (O.length + 1) c9) (O ++ [v]) b S1 A1 D1.length c1 E1 S2 A2 D2.length c2 E2 :=
           ⟨blk_put hrow 1 _ rfl, Kd.R_set hR9 hrow (by decide) 1 _, ⟨blk_far hone (by show w.heap.size ≠ o; omega) _, blk_far htwo (by show w.heap.size + 1 ≠ o; omega) _, blk_far hout (by show w.heap.size + 2 ≠ o; omega) _⟩, hB9.setCell (by show w.heap.size ≤ o; omega) _⟩
          exact ⟨⟨j + 1, q, O ++ [v], _, by omega, rfl, by congr 1; push_cast; omega, hq0, hq1, by rw [List.length_append, HOL.out]; rfl, hdj, HF, T9⟩, by simp [intOf]; omega⟩
    ·obtain rfl : j = m + 1 := by omega
     have d1 : decide (b + ((m + 1 : Nat) : Int) ≤ b + (m : Int)) = false := by simp; omega
     have hfin := no_carry hOd hOl HV.out HLE.out.1 HLE.out.2.1
     obtain ⟨AO, cO, rfl, hcO, hCO⟩ := Kd.R_reads T.own
     have hT := trim_call S1 b O AO cO
     have ht := fun W h => hT W h hcO hOd HGS.out.2 (B := B) (n := n + 1) (by omega) (by omega) hb5 (by omega)
     have hxy := HLE.out.2.2
     rw [← hfin] at hxy
     rw [← hxy] at ht
     have hBw := T.bel
     have hown := T.own
     have hrow := T.row
     have hout := T.box.out
     obtain ⟨r0, r1, r2, r3, r4, r5⟩ := num_cells hrow
     have ht2 := ht _ hCO
     have HOUT := Aside0.mk hout
     have HOL := Aside0.mk hOl
     clear hfin hxy ht hT T hrow hout hOl hCO
     go_wp2_with (go_at_call 128; (with_reducible refine ht2.mono ?_); rintro u w5 ⟨v5, rfl, hN5, hb5'⟩; have hB5 := hBw.trans (hb5'.mono hBw.size); have hown5 := Kd.R_below hown hb5'; have hout := blk_below HOUT.out hb5'; obtain ⟨S5, D5, E5, A5, c5, rfl, hC5, hc5, hW5, -⟩ := hN5; obtain ⟨q0, q1, q2, q3, q4, q5⟩ := num_cells hout; have HW5 := Aside0.mk hW5; clear hW5 hown)
     refine bodyPost_ret (results_cell_row rfl _ _ (w.heap.size + 2) 131 #[.int .i64 S5, .slice A5 D5.length c5, .int .i64 E5] (0, 0) _ rfl (num_put hout) Tryz.underlying131 rfl (by kernel_rfl)) rfl ⟨_, rfl, ?_, ((hB5.setCell (p := ⟨w.heap.size + 2, 0, none⟩) (by show w.heap.size ≤ w.heap.size + 2; omega) _).setCell (p := ⟨w.heap.size + 2, 1, none⟩) (by show w.heap.size ≤ w.heap.size + 2; omega) _).setCell (p := ⟨w.heap.size + 2, 2, none⟩) (by show w.heap.size ≤ w.heap.size + 2; omega) _⟩
     have hR3 := Kd.R_set (Kd.R_set (Kd.R_set hown5 hout (by decide) 0 (.int .i64 S5)) (blk_set hout 0 _) (by decide) 1 (.slice A5 D5.length c5)) (blk_set (blk_set hout 0 _) 1 _) (by decide) 2 (.int .i64 E5)
     obtain ⟨AO', cO', eO, -, hCO⟩ := dig_of_R hR3
     injection eO with eA _ _
     subst eA
     exact ⟨S5, D5, E5, A5, c5, rfl, hC5 _ hCO, hc5, HW5.out⟩
end Go.Proofs.YtaoichlepfiliaaGreatDoor.Nw
