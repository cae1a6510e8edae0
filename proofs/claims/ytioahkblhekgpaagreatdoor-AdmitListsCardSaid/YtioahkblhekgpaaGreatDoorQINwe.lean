/- What the proof needs of Nwb, Nwc, Nwd, Nwe: only what is used is left (wip/tools/prune.py). Conditions stand in each sentence. -/
import Derived.Laws.MakeOwn
import Derived.Deep.QuietTactic
import Derived.BigQuiet
import Derived.Deep.AppendLies
import Derived.StillTailTactics
import Derived.Test.YtioahkblhekgpaaGreatDoorQINwa
import Derived.Test.YtioahkblhekgpaaGreatDoorQIHlb
set_option linter.unusedVariables false
set_option linter.unusedSimpArgs false
namespace Go.Proofs.YtioahkblhekgpaaGreatDoor.Adm
end Go.Proofs.YtioahkblhekgpaaGreatDoor.Adm
namespace Go.Proofs.YtioahkblhekgpaaGreatDoor.E
end Go.Proofs.YtioahkblhekgpaaGreatDoor.E
namespace Go.Proofs.YtioahkblhekgpaaGreatDoor.FltP
end Go.Proofs.YtioahkblhekgpaaGreatDoor.FltP
namespace Go.Proofs.YtioahkblhekgpaaGreatDoor.NumP
end Go.Proofs.YtioahkblhekgpaaGreatDoor.NumP
namespace Go.Proofs.YtioahkblhekgpaaGreatDoor.O
end Go.Proofs.YtioahkblhekgpaaGreatDoor.O
namespace Go.Proofs.YtioahkblhekgpaaGreatDoor.R
end Go.Proofs.YtioahkblhekgpaaGreatDoor.R
namespace Go.Proofs.YtioahkblhekgpaaGreatDoorW.PrintLast
end Go.Proofs.YtioahkblhekgpaaGreatDoorW.PrintLast
namespace Go.Proofs.YtioahkblhekgpaaGreatDoorW.PrintMore
end Go.Proofs.YtioahkblhekgpaaGreatDoorW.PrintMore
namespace Go.Proofs.YtioahkblhekgpaaGreatDoorW.PrintWords
end Go.Proofs.YtioahkblhekgpaaGreatDoorW.PrintWords
namespace Go.Proofs.YtioahkblhekgpaaGreatDoor.Nw
open Go.RowKit Go.Proofs.YtioahkblhekgpaaGreatDoor.FltP Go.Proofs.YtioahkblhekgpaaGreatDoor.R Go.Proofs.YtioahkblhekgpaaGreatDoor.E Go.Proofs.YtioahkblhekgpaaGreatDoor.O Go.Proofs.YtioahkblhekgpaaGreatDoorW.PrintWords Go.Proofs.YtioahkblhekgpaaGreatDoorW.PrintLast Go.Proofs.YtioahkblhekgpaaGreatDoorW.PrintMore
open Go.Proofs.YtioahkblhekgpaaGreatDoor.NumP Go.Proofs.YtioahkblhekgpaaGreatDoor.Adm
theorem infoD : (Tryz.prog.info? 2).map (fun i => (i.zero, i.size, i.bytes)) = some (some (.int .i64 0), 1, 8) := by kernel_rfl
theorem worth_sgn {S : Int} {D : List Int} {E : Int} {B n : Nat} {x : Int} (h : Worth S D E B n x) (h0 : S ≠ 0) : S = 1 ∨ S = -1 := by
  have hs := h.sign
  rcases Int.lt_trichotomy x 0 with hx | hx | hx
  · rw [Int.sign_eq_neg_one_of_neg hx] at hs; exact .inr hs
  · subst hx; simp at hs; exact absurd hs h0
  · rw [Int.sign_eq_one_of_pos hx] at hs; exact .inl hs
theorem place_step {D1 D2 O : List Int} {E1 E2 b g c v q : Int} {j : Nat} (hO : O.length = j) (hv : dval O + W j * c = dpart D1 E1 b j + g * dpart D2 E2 b j) (he : v + 16777216 * q = dig D1 E1 (b + j) + g * dig D2 E2 (b + j) + c) :
    dval (O ++ [v]) + W (j + 1) * q = dpart D1 E1 b (j + 1) + g * dpart D2 E2 b (j + 1) := by
  rw [dval_snoc, hO, W_succ]
  simp only [dpart]
  rw [show v = dig D1 E1 (b + j) + g * dig D2 E2 (b + j) + c - 16777216 * q from by omega]
  grind
theorem no_carry {O : List Int} {c : Int} {m : Nat} {y : Int} (hd : Dig O) (hl : O.length = m) (hv : dval O + W m * c = y) (h0 : 0 ≤ y) (h1 : y < W m) : dval O = y := by
  have hb := dval_bd hd
  rw [hl] at hb
  have hw := W_pos m
  rcases Int.lt_trichotomy c 0 with h | h | h
  · have := Int.mul_le_mul_of_nonneg_left (show c ≤ -1 by omega) (Int.le_of_lt hw); omega
  · subst h; omega
  · have := Int.mul_le_mul_of_nonneg_left (show 1 ≤ c by omega) (Int.le_of_lt hw); omega
theorem three_new (w : World) (a b c : Obj) : (((w.alloc a).alloc b).alloc c).heap[w.heap.size]? = some a ∧ (((w.alloc a).alloc b).alloc c).heap[w.heap.size + 1]? = some b ∧ (((w.alloc a).alloc b).alloc c).heap[w.heap.size + 2]? = some c := by
  have h := blk_new ((w.alloc a).alloc b) c
  rw [show ((w.alloc a).alloc b).heap.size = w.heap.size + 2 from by simp] at h
  exact ⟨blk_alloc (two_new w a b).1 c, blk_alloc (two_new w a b).2 c, h⟩
structure Boxes (g : Nat) (wr : World) (S1 : Int) (A1 : Option Addr) (n1 c1 : Nat) (E1 S2 : Int) (A2 : Option Addr) (n2 c2 : Nat) (E2 : Int) : Prop where
  one : wr.heap[g]? = some (.cells #[.int .i64 S1, .slice A1 n1 c1, .int .i64 E1] 77 (0, 0))
  two : wr.heap[g + 1]? = some (.cells #[.int .i64 S2, .slice A2 n2 c2, .int .i64 E2] 77 (0, 0))
  out : wr.heap[g + 2]? = some (.cells #[.int .i64 0, .slice none 0 0, .int .i64 0] 77 (0, 0))
theorem Boxes.below {g : Nat} {wr w' : World} {S1 : Int} {A1 : Option Addr} {n1 c1 : Nat} {E1 S2 : Int} {A2 : Option Addr} {n2 c2 : Nat} {E2 : Int} (h : Boxes g wr S1 A1 n1 c1 E1 S2 A2 n2 c2 E2) (hb : Below wr.heap.size wr w') : Boxes g w' S1 A1 n1 c1 E1 S2 A2 n2 c2 E2 := ⟨blk_below h.one hb, blk_below h.two hb, blk_below h.out hb⟩
theorem Boxes.cells {g : Nat} {wr : World} {S1 : Int} {A1 : Option Addr} {n1 c1 : Nat} {E1 S2 : Int} {A2 : Option Addr} {n2 c2 : Nat} {E2 : Int} (h : Boxes g wr S1 A1 n1 c1 E1 S2 A2 n2 c2 E2) : (wr.cell? ⟨g, 0, none⟩ = some (.int .i64 S1) ∧ wr.cell? ⟨g, 1, none⟩ = some (.slice A1 n1 c1) ∧ wr.cell? ⟨g, 2, none⟩ = some (.int .i64 E1)) ∧ wr.cell? ⟨g + 1, 0, none⟩ = some (.int .i64 S2) ∧ wr.cell? ⟨g + 1, 1, none⟩ = some (.slice A2 n2 c2) ∧ wr.cell? ⟨g + 1, 2, none⟩ = some (.int .i64 E2) := by
  have h1 := num_cells h.one
  have h2 := num_cells h.two
  exact ⟨⟨h1.1, h1.2.1, h1.2.2.1⟩, h2.1, h2.2.1, h2.2.2.1⟩
structure AddSt (w wr : World) (o : Nat) (vO : Value) (O : List Int) (b S1 : Int) (A1 : Option Addr) (n1 c1 : Nat) (E1 S2 : Int) (A2 : Option Addr) (n2 c2 : Nat) (E2 : Int) : Prop where
  row : wr.heap[o]? = some (.cells #[.int .i64 S1, vO, .int .i64 b] 77 (0, 0))
  own : Kd.R (Kd.int .i64) 2 wr w.heap.size (fun _ => True) vO O
  box : Boxes w.heap.size wr S1 A1 n1 c1 E1 S2 A2 n2 c2 E2
  bel : Below w.heap.size w wr
theorem AddSt.below {w wr w' : World} {o : Nat} {vO : Value} {O : List Int} {b S1 : Int} {A1 : Option Addr} {n1 c1 : Nat} {E1 S2 : Int} {A2 : Option Addr} {n2 c2 : Nat} {E2 : Int} (h : AddSt w wr o vO O b S1 A1 n1 c1 E1 S2 A2 n2 c2 E2) (hb : Below wr.heap.size wr w') : AddSt w w' o vO O b S1 A1 n1 c1 E1 S2 A2 n2 c2 E2 :=
  ⟨blk_below h.row hb, Kd.R_below h.own hb, h.box.below hb, h.bel.trans (hb.mono h.bel.size)⟩
set_option maxRecDepth 100000 in
set_option maxHeartbeats 8000000 in
theorem add_main (S1 E1 : Int) (D1 : List Int) (A1 : Option Addr) (c1 : Nat) (S2 E2 : Int) (D2 : List Int) (A2 : Option Addr) (c2 : Nat) (w : World) (hC1 : Kd.C (Kd.int .i64) w A1 D1.length D1) (hC2 : Kd.C (Kd.int .i64) w A2 D2.length D2) {B n : Nat} {x y : Int} (h1 : Worth S1 D1 E1 B n x) (h2 : Worth S2 D2 E2 B n y) (hn : n ≤ 399999)
    (z1 : S1 ≠ 0) (z2 : S2 ≠ 0) (hge : S1 = S2 ∨ W (E2 + B).toNat * dval D2 ≤ W (E1 + B).toNat * dval D1) :
    Calls Tryz.prog 131 #[.agg #[.int .i64 S1, .slice A1 D1.length c1, .int .i64 E1], .agg #[.int .i64 S2, .slice A2 D2.length c2, .int .i64 E2]] w fun e w' => ∃ v, e = .returned v ∧ NumAt w' v B (n + 1) (x + y) ∧ Below w.heap.size w w' := by
  have hu := Tryz.underlying77
  have l1 := h1.lo; have l2 := h2.lo; have u1 := h1.hi; have u2 := h2.hi; have p1 := h1.place; have p2 := h2.place
  obtain ⟨b, hb⟩ : ∃ b, b = min E1 E2 := ⟨_, rfl⟩
  obtain ⟨m, hm⟩ : ∃ m : Nat, max (E1 + (D1.length : Int)) (E2 + D2.length) = b + m := ⟨(max (E1 + (D1.length : Int)) (E2 + D2.length) - b).toNat, by omega⟩
  obtain ⟨g, hg, hgS, hle⟩ : ∃ g : Int, (g = 1 ∨ g = -1) ∧ (g = 1 ∧ S1 = S2 ∨ g = -1 ∧ S1 ≠ S2) ∧ (0 ≤ dpart D1 E1 b (m + 1) + g * dpart D2 E2 b (m + 1) ∧ dpart D1 E1 b (m + 1) + g * dpart D2 E2 b (m + 1) < W (m + 1) ∧ x + y = S1 * (W (b + B).toNat * (dpart D1 E1 b (m + 1) + g * dpart D2 E2 b (m + 1)))) := by
    have q1 := dpart_all D1 E1 b (m + 1) (by omega) (by omega)
    have q2 := dpart_all D2 E2 b (m + 1) (by omega) (by omega)
    have r1 := dpart_all D1 E1 b m (by omega) (by omega)
    have r2 := dpart_all D2 E2 b m (by omega) (by omega)
    have b1 := dpart_bd h1.digits E1 b m
    have b2 := dpart_bd h2.digits E2 b m
    have sc1 : W (E1 + B).toNat * dval D1 = W (b + B).toNat * (W (E1 - b).toNat * dval D1) := by rw [← Int.mul_assoc, ← W_add, show (b + (B : Int)).toNat + (E1 - b).toNat = (E1 + B).toNat from by omega]
    have sc2 : W (E2 + B).toNat * dval D2 = W (b + B).toNat * (W (E2 - b).toNat * dval D2) := by rw [← Int.mul_assoc, ← W_add, show (b + (B : Int)).toNat + (E2 - b).toNat = (E2 + B).toNat from by omega]
    have v1 := h1.val
    have v2 := h2.val
    rw [sc1, ← r1] at v1
    rw [sc2, ← r2] at v2
    rw [q1, q2, ← r1, ← r2]
    have s1 := worth_sgn h1 z1
    have s2 := worth_sgn h2 z2
    have hw : W (m + 1) = 16777216 * W m := W_succ m
    by_cases he : S1 = S2
    · refine ⟨1, .inl rfl, .inl ⟨rfl, he⟩, by omega, by omega, ?_⟩
      rw [← v1, ← v2, ← he]; grind
    · have hle : dpart D2 E2 b m ≤ dpart D1 E1 b m := by
        have := hge.resolve_left he
        rw [sc1, sc2, ← r1, ← r2] at this
        exact Int.le_of_mul_le_mul_left this (W_pos _)
      refine ⟨-1, .inr rfl, .inr ⟨rfl, he⟩, by omega, by omega, ?_⟩
      rw [← v1, ← v2, show S2 = -S1 by omega]; grind
  have s1 := worth_sgn h1 z1
  have i1 : IntKind.i64.wrap (E1 + (D1.length : Int)) = E1 + (D1.length : Int) := wrapI _ (by omega) (by omega)
  have i2 : IntKind.i64.wrap (E2 + (D2.length : Int)) = E2 + (D2.length : Int) := wrapI _ (by omega) (by omega)
  have hd1 := h1.digits
  have hd2 := h2.digits
  have hg1 := fun i W h a b => digit_call S1 E1 i D1 A1 c1 W h (by omega) (by omega) (by omega) a b
  have hg2 := fun i W h a b => digit_call S2 E2 i D2 A2 c2 W h (by omega) (by omega) (by omega) a b
  have hsz := fun W a b => size_call S1 E1 D1 A1 c1 S2 E2 D2 A2 c2 W a b hd1 hd2 (B := B) (n := n) (by omega) p1 p2 l1 l2 u1 u2
  have hbd : -399999 ≤ b ∧ b + (m : Int) ≤ 399999 ∧ b ≤ E1 ∧ b ≤ E2 ∧ -(B : Int) ≤ b ∧ -(n : Int) ≤ b ∧ b + (m : Int) ≤ n := by omega
  have e1 : (S1 == 0) = false := beq_eq_false_iff_ne.mpr z1
  have e2 : (S2 == 0) = false := beq_eq_false_iff_ne.mpr z2
  have HBM := Aside0.mk (And.intro hb hm)
  have HLE := Aside0.mk hle
  have HGE := Aside0.mk hge
  have HGS := Aside0.mk (And.intro hg s1)
  clear hle hge s1 h1 h2 p1 p2 z1 z2
  go_enter Tryz.func131, Tryz.ntmps131
  go_upto_region 5 with (fail)
  go_cut [30] (fun v30 wc => v30 = .bool false ∧ Boxes w.heap.size wc S1 A1 D1.length c1 E1 S2 A2 D2.length c2 E2 ∧ Below w.heap.size w wc)
  case first =>
    have hB0 := below_alloc (below_alloc (below_alloc (Below.refl w.heap.size w) (.cells #[.int .i64 S1, .slice A1 D1.length c1, .int .i64 E1] 77)) (.cells #[.int .i64 S2, .slice A2 D2.length c2, .int .i64 E2] 77)) (.cells #[.int .i64 0, .slice none 0 0, .int .i64 0] 77)
    have hX : Boxes w.heap.size _ S1 A1 D1.length c1 E1 S2 A2 D2.length c2 E2 := ⟨(three_new w _ _ _).1, (three_new w _ _ _).2.1, (three_new w _ _ _).2.2⟩
    obtain ⟨⟨x0, x1, x2⟩, y0, y1, y2⟩ := hX.cells
    generalize ((w.alloc (.cells #[.int .i64 S1, .slice A1 D1.length c1, .int .i64 E1] 77)).alloc (.cells #[.int .i64 S2, .slice A2 D2.length c2, .int .i64 E2] 77)).alloc (.cells #[.int .i64 0, .slice none 0 0, .int .i64 0] 77) = w0 at *
    rcases hgS with ⟨hg1_, he⟩ | ⟨hg1_, he⟩
    · subst he
      have e3 : (S1 != S1) = false := bne_self_eq_false _
      clear hg1_ hg
      go_wp2
      go_meet
      case rel => exact ⟨rfl, hX, hB0⟩
    · have e3 : (S1 != S2) = true := bne_iff_ne.mpr he
      have HNE := Aside0.mk he
      clear he hg1_ hg
      go_wp2_with (go_at_call 146; (with_reducible refine (hsz _ (Kd.C_below hC1 hB0) (Kd.C_below hC2 hB0)).mono ?_); rintro u w3 ⟨r, rfl, hr, hb3⟩; have hr0 : decide (r < 0) = false := (by simp; have := HGE.out.resolve_left HNE.out; omega); have HR := Aside0.mk hr; clear hr)
      go_meet
      case rel => exact ⟨rfl, hX.below hb3, hB0.trans (hb3.mono hB0.size)⟩
  case rest =>
    obtain ⟨rfl, hX, hB⟩ := hcut
    obtain ⟨⟨x0, x1, x2⟩, y0, y1, y2⟩ := hX.cells
    obtain ⟨z, hz, hgz⟩ : ∃ z : Bool, (S1 != S2) = z ∧ g = if z = true then -1 else 1 := by
      rcases hgS with ⟨hg1_, he⟩ | ⟨hg1_, he⟩
      · exact ⟨false, by rw [he]; exact bne_self_eq_false _, by rw [if_neg (by decide)]; exact hg1_⟩
      · exact ⟨true, bne_iff_ne.mpr he, by rw [if_pos rfl]; exact hg1_⟩
    have HGZ := Aside0.mk hgz
    clear hgS hgz hg
    go_upto_if 38 with (fail)
    go_cut [5] (fun v5 wc' => v5 = .int .i64 g ∧ wc' = wc)
    case first =>
      cases z
      all_goals
        go_wp2
        go_meet
        case rel => exact ⟨by rw [HGZ.out]; rfl, rfl⟩
    case rest =>
      obtain ⟨rfl, rfl⟩ := hcut
      go_wp2
      rw [← hb]
      have hT0 : AddSt w (wc.alloc (.cells #[.int .i64 S1, .slice none 0 0, .int .i64 b] 77)) wc.heap.size (.slice none 0 0) [] b S1 A1 D1.length c1 E1 S2 A2 D2.length c2 E2 :=
        ⟨blk_new _ _, Kd.R_nil .., hX.below (below_alloc (Below.refl _ _) _), below_alloc hB _⟩
      obtain ⟨o, ho⟩ : ∃ o, o = wc.heap.size := ⟨_, rfl⟩
      rw [← ho] at hT0 ⊢
      have hol : w.heap.size + 2 < o := by rw [ho]; exact blk_lt hX.out
      clear hb hm ho hX x0 x1 x2 y0 y1 y2 hsz hB i1 i2
      obtain ⟨hb1, hb2, hb3, hb4, hb5, hb6, hb7⟩ := hbd
      go_loopw [9, 10] (fun v9 v10 wr => ∃ (j : Nat) (c : Int) (O : List Int) (vO : Value), j ≤ m + 1 ∧ v9 = .int .i64 c ∧ v10 = .int .i64 (b + (j : Int)) ∧ -1 ≤ c ∧ c ≤ 3 ∧ O.length = j ∧ Dig O ∧ Aside0 (dval O + W j * c = dpart D1 E1 b j + g * dpart D2 E2 b j) ∧ AddSt w wr o vO O b S1 A1 D1.length c1 E1 S2 A2 D2.length c2 E2) (fun _ v10 _ => (b + (m : Int) + 1 - intOf v10).toNat)
      case atStart => exact ⟨0, 0, [], .slice none 0 0, Nat.zero_le _, rfl, by simp, by omega, by omega, rfl, by simp [Dig], ⟨by simp [dval, dpart]⟩, hT0⟩
      case round =>
        obtain ⟨j, c, O, vO, hj, rfl, rfl, hc0, hc1_, hOl, hOd, HV, T⟩ := hrel
        by_cases hjm : j ≤ m
        · have d1 : decide (b + (j : Int) ≤ b + (m : Int)) = true := by simp; omega
          have ha := fun W (h : Below w.heap.size w W) => hg1 (b + (j : Int)) W (Kd.C_below hC1 h) (by omega) (by omega)
          have hb_ := fun W (h : Below w.heap.size w W) => hg2 (b + (j : Int)) W (Kd.C_below hC2 h) (by omega) (by omega)
          have hx := dig_bd hd1 E1 (b + (j : Int))
          have hy := dig_bd hd2 E2 (b + (j : Int))
          have hps := fun v q => @place_step D1 D2 O E1 E2 b g c v q j hOl HV.out
          generalize dig D1 E1 (b + (j : Int)) = x_ at *
          generalize dig D2 E2 (b + (j : Int)) = y_ at *
          have hgy : -16777215 ≤ g * y_ ∧ g * y_ ≤ 16777215 := by rcases HGS.out.1 with h | h <;> rw [h] <;> omega
          have i3 : IntKind.i64.wrap (g * y_) = g * y_ := wrapI _ (by omega) (by omega)
          have i4 : IntKind.i64.wrap (x_ + g * y_) = x_ + g * y_ := wrapI _ (by omega) (by omega)
          have i5 : IntKind.i64.wrap (x_ + g * y_ + c) = x_ + g * y_ + c := wrapI _ (by omega) (by omega)
          have i6 : IntKind.i64.wrap (b + (j : Int) + 1) = b + (j : Int) + 1 := wrapI _ (by omega) (by omega)
          have hV : -16777216 ≤ x_ + g * y_ + c ∧ x_ + g * y_ + c < 67108864 := by omega
          have hOl2 : O.length ≤ 4000000 := by omega
          have HOL := Aside0.mk hOl
          have HPS := Aside0.mk hps
          clear hOl hps hgy hx hy
          obtain ⟨⟨x0, x1, x2⟩, y0, y1, y2⟩ := T.box.cells
          have hS : wr.cell? ⟨w.heap.size, 0, none⟩ = some (.int .i64 S1) ∧ wr.cell? ⟨w.heap.size, 1, none⟩ = some (.slice A1 D1.length c1) ∧ wr.cell? ⟨w.heap.size, 2, none⟩ = some (.int .i64 E1) ∧ wr.cell? ⟨w.heap.size + 1, 0, none⟩ = some (.int .i64 S2) ∧ wr.cell? ⟨w.heap.size + 1, 1, none⟩ = some (.slice A2 D2.length c2) ∧ wr.cell? ⟨w.heap.size + 1, 2, none⟩ = some (.int .i64 E2) := ⟨x0, x1, x2, y0, y1, y2⟩
          clear x0 x1 x2 y0 y1 y2
          have hBw := T.bel
          go_upto_region 17 with (fail)
          go_region_held3 (fun W' => W'.cell? ⟨w.heap.size, 0, none⟩ = some (.int .i64 S1) ∧ W'.cell? ⟨w.heap.size, 1, none⟩ = some (.slice A1 D1.length c1) ∧ W'.cell? ⟨w.heap.size, 2, none⟩ = some (.int .i64 E1) ∧ W'.cell? ⟨w.heap.size + 1, 0, none⟩ = some (.int .i64 S2) ∧ W'.cell? ⟨w.heap.size + 1, 1, none⟩ = some (.slice A2 D2.length c2) ∧ W'.cell? ⟨w.heap.size + 1, 2, none⟩ = some (.int .i64 E2))
            (first | exact hS | exact six_below2 (by (with_reducible (repeat (first | exact Below.refl _ _ | apply below_drew1 | apply below_alloc | apply pw_below_drewN | assumption)))) hS)
            (first
              | (go_at_call 147; (with_reducible refine (ha _ ?hq).mono ?_); (case hq => with_reducible (repeat (first | exact hBw | assumption | apply below_drew1 | apply below_alloc | apply pw_below_drewN))); rintro u w5 ⟨rfl, hb5⟩; have hB5 := below_step (w := w) (by (with_reducible (repeat (first | exact hBw | assumption | apply below_drew1 | apply below_alloc | apply pw_below_drewN)))) hb5; have hN5 := below_step (w := wr) (by (with_reducible (repeat (first | exact Below.refl _ _ | assumption | apply below_drew1 | apply below_alloc | apply pw_below_drewN)))) hb5)
              | (go_at_call 147; (with_reducible refine (hb_ _ ?hq).mono ?_); (case hq => with_reducible (repeat (first | assumption | apply below_drew1 | apply below_alloc | apply pw_below_drewN))); rintro u w6 ⟨rfl, hb6⟩; have hB6 := below_step (w := w) (by (with_reducible (repeat (first | assumption | apply below_drew1 | apply below_alloc | apply pw_below_drewN)))) hb6; have hN6 := below_step (w := wr) (by (with_reducible (repeat (first | assumption | apply below_drew1 | apply below_alloc | apply pw_below_drewN)))) hb6))
          all_goals
            have T6 := T.below hN6
            have HBW := Aside0.mk hBw
            clear hB5 hN5 hB6 hN6 hS hBw ha hb_ T
            obtain ⟨V, hVe⟩ : ∃ V, V = x_ + g * y_ + c := ⟨_, rfl⟩
            rw [← hVe] at hV ⊢
            have HVE := Aside0.mk hVe
            clear hVe i3 i4 i5
            go_wp2
            go_loopw [9, 11] (fun v9 v11 wq => ∃ q v : Int, v9 = .int .i64 q ∧ v11 = .int .i64 v ∧ Aside0 (v + 16777216 * q = V) ∧ -16777216 ≤ v ∧ v < 67108864 ∧ -1 ≤ q ∧ q ≤ 3 ∧ AddSt w wq o vO O b S1 A1 D1.length c1 E1 S2 A2 D2.length c2 E2) (fun _ v11 _ => (-intOf v11).toNat)
            case atStart => exact ⟨0, V, rfl, rfl, ⟨by omega⟩, by omega, by omega, by omega, by omega, T6⟩
            case round =>
              clear T6
              obtain ⟨q, v, rfl, rfl, HQ, hv0, hv1, hq0, hq1, T⟩ := hrel
              by_cases hv : v < 0
              · have d2 : decide (v < 0) = true := decide_eq_true hv
                have i7 : IntKind.i64.wrap (v + 16777216) = v + 16777216 := wrapI _ (by omega) (by omega)
                have i8 : IntKind.i64.wrap (q - 1) = q - 1 := wrapI _ (by omega) (by omega)
                have hq2 : -1 ≤ q - 1 := by have := HQ.out; omega
                go_wp2
                exact ⟨⟨q - 1, v + 16777216, rfl, rfl, ⟨by have := HQ.out; omega⟩, by omega, by omega, hq2, by omega, T⟩, by simp [intOf]; omega⟩
              · have d2 : decide (v < 0) = false := decide_eq_false hv
                go_wp2
                go_loopw [9, 11] (fun v9 v11 wq => ∃ q v : Int, v9 = .int .i64 q ∧ v11 = .int .i64 v ∧ Aside0 (v + 16777216 * q = V) ∧ 0 ≤ v ∧ v < 67108864 ∧ -1 ≤ q ∧ q ≤ 3 ∧ AddSt w wq o vO O b S1 A1 D1.length c1 E1 S2 A2 D2.length c2 E2) (fun _ v11 _ => (intOf v11).toNat)
                case atStart => exact ⟨q, v, rfl, rfl, HQ, by omega, by omega, by omega, by omega, T⟩
                case round =>
                  clear T hv hv0 hv1 hq0 hq1 HQ d2
                  obtain ⟨q, v, rfl, rfl, HQ, hv0, hv1, hq0, hq1, T⟩ := hrel
                  by_cases hv : 16777216 ≤ v
                  · have d2 : decide ((16777216 : Int) ≤ v) = true := decide_eq_true hv
                    have i7 : IntKind.i64.wrap (v - 16777216) = v - 16777216 := wrapI _ (by omega) (by omega)
                    have i8 : IntKind.i64.wrap (q + 1) = q + 1 := wrapI _ (by omega) (by omega)
                    have hq2 : q + 1 ≤ 3 := by have := HQ.out; omega
                    go_wp2
                    exact ⟨⟨q + 1, v - 16777216, rfl, rfl, ⟨by have := HQ.out; omega⟩, by omega, by omega, by omega, hq2, T⟩, by simp [intOf]; omega⟩
                  · have d2 : decide ((16777216 : Int) ≤ v) = false := decide_eq_false hv
                    have hfin := HPS.out v q (by have := HQ.out; have := HVE.out; omega)
                    have HF := Aside0.mk hfin
                    have hdj : Dig (O ++ [v]) := hOd.join (fun z hz => by rw [List.mem_singleton.mp hz]; omega)
                    obtain ⟨r0, r1, r2, r3, r4, r5⟩ := num_cells T.row
                    have HOLT := Aside0.mk hol
                    clear hfin hol
                    go_wp2_with (first
                      | (refine Kd.R_append_rows (Kd.int .i64) (w0 := w) w.heap.size (by rfl) (.tmp 91) (.tmp 93) 75 2 (.int .i64 0) 8 rfl Tryz.underlying75 infoD rfl (by decide) (by omega) vO O [v] _ _ _ (fun _ => True) (fun _ => False) rfl rfl ?aO ?aR (fun _ _ h => h) (fun _ h => h.elim) (fun _ _ => trivial) ?aB ?aS ?aL ?_
                         (case aO => exact Kd.R_alloc T.own _)
                         (case aR => exact ilit_C [v] rfl (heap_alloc_new _ _) rfl (by decide))
                         (case aB => exact below_alloc T.bel _)
                         (case aS => exact (below_alloc T.bel _).size)
                         (case aL => omega)
                         intro v9 w9 hR9 hB9 hg9 hat9; clear hat9; obtain ⟨A9, c9, rfl⟩ := Kd.R_slice hR9; have hrow := blk_grown (blk_alloc T.row _) hg9 (Kd.R_ne T.own T.row (by decide)); have hone := blk_grown (blk_alloc T.box.one _) hg9 (Kd.R_ne T.own T.box.one (by decide)); have htwo := blk_grown (blk_alloc T.box.two _) hg9 (Kd.R_ne T.own T.box.two (by decide)); have hout := blk_grown (blk_alloc T.box.out _) hg9 (Kd.R_ne T.own T.box.out (by decide)); obtain ⟨r0, r1, r2, r3, r4, r5⟩ := num_cells hrow; clear hg9))
                    have hol := HOLT.out
                    have e9 : (O ++ [v]).length = O.length + 1 := by simp
                    rw [e9] at hR9
                    have T9 : AddSt w (w9.setCell ⟨o, 1, none⟩ (.slice A9 (O.length + 1) c9)) o (.slice A9 (O.length + 1) c9) (O ++ [v]) b S1 A1 D1.length c1 E1 S2 A2 D2.length c2 E2 :=
                      ⟨blk_put hrow 1 _ rfl, Kd.R_set hR9 hrow (by decide) 1 _, ⟨blk_far hone (by show w.heap.size ≠ o; omega) _, blk_far htwo (by show w.heap.size + 1 ≠ o; omega) _, blk_far hout (by show w.heap.size + 2 ≠ o; omega) _⟩, hB9.setCell (by show w.heap.size ≤ o; omega) _⟩
                    exact ⟨⟨j + 1, q, O ++ [v], _, by omega, rfl, by congr 1; push_cast; omega, hq0, hq1, by rw [List.length_append, HOL.out]; rfl, hdj, HF, T9⟩, by simp [intOf]; omega⟩
        · obtain rfl : j = m + 1 := by omega
          have d1 : decide (b + ((m + 1 : Nat) : Int) ≤ b + (m : Int)) = false := by simp; omega
          have hfin := no_carry hOd hOl HV.out HLE.out.1 HLE.out.2.1
          obtain ⟨AO, cO, rfl, hcO, hCO⟩ := Kd.R_reads T.own
          have hT := trim_call S1 b O AO cO
          have ht := fun W h => hT W h hcO hOd HGS.out.2 (B := B) (n := n + 1) (by omega) (by omega) hb5 (by omega)
          have hxy := HLE.out.2.2
          rw [← hfin] at hxy
          rw [← hxy] at ht
          have hBw := T.bel
          have hown := T.own
          have hrow := T.row
          have hout := T.box.out
          obtain ⟨r0, r1, r2, r3, r4, r5⟩ := num_cells hrow
          have ht2 := ht _ hCO
          have HOUT := Aside0.mk hout
          have HOL := Aside0.mk hOl
          clear hfin hxy ht hT T hrow hout hOl hCO
          go_wp2_with (go_at_call 125; (with_reducible refine ht2.mono ?_); rintro u w5 ⟨v5, rfl, hN5, hb5'⟩; have hB5 := hBw.trans (hb5'.mono hBw.size); have hown5 := Kd.R_below hown hb5'; have hout := blk_below HOUT.out hb5'; obtain ⟨S5, D5, E5, A5, c5, rfl, hC5, hc5, hW5, -⟩ := hN5; obtain ⟨q0, q1, q2, q3, q4, q5⟩ := num_cells hout; have HW5 := Aside0.mk hW5; clear hW5 hown)
          refine bodyPost_ret (results_cell_row rfl _ _ (w.heap.size + 2) 77 #[.int .i64 S5, .slice A5 D5.length c5, .int .i64 E5] (0, 0) _ rfl (num_put hout) Tryz.underlying77 rfl (by kernel_rfl)) rfl ⟨_, rfl, ?_, ((hB5.setCell (p := ⟨w.heap.size + 2, 0, none⟩) (by show w.heap.size ≤ w.heap.size + 2; omega) _).setCell (p := ⟨w.heap.size + 2, 1, none⟩) (by show w.heap.size ≤ w.heap.size + 2; omega) _).setCell (p := ⟨w.heap.size + 2, 2, none⟩) (by show w.heap.size ≤ w.heap.size + 2; omega) _⟩
          have hR3 := Kd.R_set (Kd.R_set (Kd.R_set hown5 hout (by decide) 0 (.int .i64 S5)) (blk_set hout 0 _) (by decide) 1 (.slice A5 D5.length c5)) (blk_set (blk_set hout 0 _) 1 _) (by decide) 2 (.int .i64 E5)
          obtain ⟨AO', cO', eO, -, hCO⟩ := dig_of_R hR3
          injection eO with eA _ _
          subst eA
          exact ⟨S5, D5, E5, A5, c5, rfl, hC5 _ hCO, hc5, HW5.out⟩
end Go.Proofs.YtioahkblhekgpaaGreatDoor.Nw
namespace Go.Proofs.YtioahkblhekgpaaGreatDoor.Nw
open Go.RowKit Go.Proofs.YtioahkblhekgpaaGreatDoor.FltP Go.Proofs.YtioahkblhekgpaaGreatDoor.R Go.Proofs.YtioahkblhekgpaaGreatDoor.E Go.Proofs.YtioahkblhekgpaaGreatDoor.O Go.Proofs.YtioahkblhekgpaaGreatDoorW.PrintWords Go.Proofs.YtioahkblhekgpaaGreatDoorW.PrintLast Go.Proofs.YtioahkblhekgpaaGreatDoorW.PrintMore
open Go.Proofs.YtioahkblhekgpaaGreatDoor.NumP Go.Proofs.YtioahkblhekgpaaGreatDoor.Adm
theorem worth_zero {S : Int} {D : List Int} {E : Int} {B n : Nat} {x : Int} (h : Worth S D E B n x) (h0 : S = 0) : x = 0 := by
  have := h.sign; rw [h0] at this; exact Int.sign_eq_zero_iff_zero.1 this.symm
theorem below_put {w wr : World} {g : Nat} {y0 y1 y2 : Value} (h : Below w.heap.size w wr) (hg : w.heap.size ≤ g) : Below w.heap.size w (((wr.setCell ⟨g, 0, none⟩ y0).setCell ⟨g, 1, none⟩ y1).setCell ⟨g, 2, none⟩ y2) :=
  ((h.setCell (p := ⟨g, 0, none⟩) hg _).setCell (p := ⟨g, 1, none⟩) hg _).setCell (p := ⟨g, 2, none⟩) hg _
theorem dig_put {w : World} {A : Option Addr} {D : List Int} (h : DigAt w A D) {g : Nat} {x0 x1 x2 y0 y1 y2 : Value} (hg : w.heap[g]? = some (.cells #[x0, x1, x2] 77 (0, 0))) : DigAt (((w.setCell ⟨g, 0, none⟩ y0).setCell ⟨g, 1, none⟩ y1).setCell ⟨g, 2, none⟩ y2) A D :=
  ((h.far hg (by decide) 0 y0).far (blk_set hg 0 y0) (by decide) 1 y1).far (blk_set (blk_set hg 0 y0) 1 y1) (by decide) 2 y2
set_option maxRecDepth 100000 in
set_option maxHeartbeats 4000000 in
theorem add_call {v1 v2 : Value} {B n : Nat} {x y : Int} {w : World} (h1 : NumAt w v1 B n x) (h2 : NumAt w v2 B n y) (hn : n ≤ 399999) :
    Calls Tryz.prog 131 #[v1, v2] w fun e w' => ∃ v, e = .returned v ∧ NumAt w' v B (n + 1) (x + y) ∧ Below w.heap.size w w' := by
  have hu := Tryz.underlying77
  obtain ⟨S1, D1, E1, A1, c1, rfl, hC1, hc1, hw1⟩ := h1
  obtain ⟨S2, D2, E2, A2, c2, rfl, hC2, hc2, hw2⟩ := h2
  have hX : Boxes w.heap.size _ S1 A1 D1.length c1 E1 S2 A2 D2.length c2 E2 := ⟨(three_new w _ _ _).1, (three_new w _ _ _).2.1, (three_new w _ _ _).2.2⟩
  have hB0 := below_alloc (below_alloc (below_alloc (Below.refl w.heap.size w) (.cells #[.int .i64 S1, .slice A1 D1.length c1, .int .i64 E1] 77)) (.cells #[.int .i64 S2, .slice A2 D2.length c2, .int .i64 E2] 77)) (.cells #[.int .i64 0, .slice none 0 0, .int .i64 0] 77)
  have HX := Aside0.mk hX
  have HB0 := Aside0.mk hB0
  by_cases z1 : S1 = 0
  · have HR := Aside0.mk (show x + y = y by rw [worth_zero hw1 z1, Int.zero_add])
    have HW := Aside0.mk (hw2.wide (n' := n + 1) (by omega))
    subst z1
    clear hX hB0 hw1 hw2
    go_enter Tryz.func131, Tryz.ntmps131
    go_wp2
    have hB := below_alloc (below_alloc (below_alloc (Below.refl w.heap.size w) (.cells #[.int .i64 0, .slice A1 D1.length c1, .int .i64 E1] 77)) (.cells #[.int .i64 S2, .slice A2 D2.length c2, .int .i64 E2] 77)) (.cells #[.int .i64 S2, .slice A2 D2.length c2, .int .i64 E2] 77)
    refine bodyPost_ret (results_cell_row rfl _ _ (w.heap.size + 2) 77 #[.int .i64 S2, .slice A2 D2.length c2, .int .i64 E2] (0, 0) _ rfl (three_new w _ _ _).2.2 Tryz.underlying77 rfl (by kernel_rfl)) rfl ⟨_, rfl, ?_, hB⟩
    rw [HR.out]
    exact ⟨S2, D2, E2, A2, c2, rfl, hC2.below hB, hc2, HW.out⟩
  · by_cases z2 : S2 = 0
    · have HR := Aside0.mk (show x + y = x by rw [worth_zero hw2 z2, Int.add_zero])
      have HW := Aside0.mk (hw1.wide (n' := n + 1) (by omega))
      have e1 : (S1 == 0) = false := beq_eq_false_iff_ne.mpr z1
      subst z2
      clear hX hB0 hw1 hw2 z1
      go_enter Tryz.func131, Tryz.ntmps131
      go_wp2
      have hB := below_alloc (below_alloc (below_alloc (Below.refl w.heap.size w) (.cells #[.int .i64 S1, .slice A1 D1.length c1, .int .i64 E1] 77)) (.cells #[.int .i64 0, .slice A2 D2.length c2, .int .i64 E2] 77)) (.cells #[.int .i64 S1, .slice A1 D1.length c1, .int .i64 E1] 77)
      refine bodyPost_ret (results_cell_row rfl _ _ (w.heap.size + 2) 77 #[.int .i64 S1, .slice A1 D1.length c1, .int .i64 E1] (0, 0) _ rfl (three_new w _ _ _).2.2 Tryz.underlying77 rfl (by kernel_rfl)) rfl ⟨_, rfl, ?_, hB⟩
      rw [HR.out]
      exact ⟨S1, D1, E1, A1, c1, rfl, hC1.below hB, hc1, HW.out⟩
    · by_cases hge : S1 = S2 ∨ W (E2 + B).toNat * dval D2 ≤ W (E1 + B).toNat * dval D1
      · exact add_main S1 E1 D1 A1 c1 S2 E2 D2 A2 c2 w hC1.1 hC2.1 hw1 hw2 hn z1 z2 hge
      · have hlt : W (E1 + B).toNat * dval D1 < W (E2 + B).toNat * dval D2 := by omega
        have e1 : (S1 == 0) = false := beq_eq_false_iff_ne.mpr z1
        have e2 : (S2 == 0) = false := beq_eq_false_iff_ne.mpr z2
        have e3 : (S1 != S2) = true := bne_iff_ne.mpr (fun h => hge (.inl h))
        have l1 := hw1.lo; have l2 := hw2.lo; have u1 := hw1.hi; have u2 := hw2.hi; have p1 := hw1.place; have p2 := hw2.place
        have hsz := fun W a b => size_call S1 E1 D1 A1 c1 S2 E2 D2 A2 c2 W a b hw1.digits hw2.digits (B := B) (n := n) (by omega) p1 p2 l1 l2 u1 u2
        have had := fun W a b => add_main S2 E2 D2 A2 c2 S1 E1 D1 A1 c1 W a b hw2 hw1 hn z2 z1 (.inr (Int.le_of_lt hlt))
        have HLT := Aside0.mk hlt
        have k1 := hC1.1
        have k2 := hC2.1
        clear hge hlt z1 z2 hw1 hw2 l1 l2 u1 u2 p1 p2
        obtain ⟨⟨x0, x1, x2⟩, y0, y1, y2⟩ := hX.cells
        go_enter Tryz.func131, Tryz.ntmps131
        go_wp2_with (first
          | (go_at_call 146; (with_reducible refine (hsz _ (Kd.C_below k1 hB0) (Kd.C_below k2 hB0)).mono ?_); rintro u w3 ⟨r, rfl, hr, hb3⟩; have hr0 : decide (r < 0) = true := (by simp; exact hr.mpr HLT.out); have hX3 := hX.below hb3; obtain ⟨⟨x0, x1, x2⟩, y0, y1, y2⟩ := hX3.cells; have hB3 := hB0.trans (hb3.mono hB0.size); clear hr hX hb3 hsz)
          | (go_at_call 131; (with_reducible refine (had _ (Kd.C_below k2 hB3) (Kd.C_below k1 hB3)).mono ?_); rintro u w4 ⟨v4, rfl, hN4, hb4⟩; have hX4 := hX3.below hb4; have hB4 := hB3.trans (hb4.mono hB3.size); obtain ⟨S5, D5, E5, A5, c5, rfl, hC5, hc5, hW5⟩ := hN4; obtain ⟨q0, q1, q2, q3, q4, q5⟩ := num_cells hX4.out; have HW5 := Aside0.mk hW5; clear hW5 had hb4 hX3))
        refine bodyPost_ret (results_cell_row rfl _ _ (w.heap.size + 2) 77 #[.int .i64 S5, .slice A5 D5.length c5, .int .i64 E5] (0, 0) _ rfl (num_put hX4.out) Tryz.underlying77 rfl (by kernel_rfl)) rfl ⟨_, rfl, ?_, below_put hB4 (by omega)⟩
        rw [Int.add_comm]
        exact ⟨S5, D5, E5, A5, c5, rfl, dig_put hC5 hX4.out, hc5, HW5.out⟩
set_option maxRecDepth 100000 in
set_option maxHeartbeats 4000000 in
theorem neg_call {v : Value} {B n : Nat} {x : Int} {w : World} (h : NumAt w v B n x) :
    Calls Tryz.prog 124 #[v] w fun e w' => ∃ v', e = .returned v' ∧ NumAt w' v' B n (-x) ∧ Below w.heap.size w w' := by
  have hu := Tryz.underlying77
  obtain ⟨S, D, E, A, c, rfl, hC, hc, hw⟩ := h
  have hs : -1 ≤ S ∧ S ≤ 1 := by
    by_cases h0 : S = 0
    · omega
    · have := worth_sgn hw h0; omega
  have i1 : IntKind.i64.wrap (-S) = -S := wrapI _ (by omega) (by omega)
  have HW := Aside0.mk hw.neg
  clear hs hw
  go_enter Tryz.func124, Tryz.ntmps124
  go_wp2
  have hB := below_alloc (below_alloc (Below.refl w.heap.size w) (.cells #[.int .i64 (-S), .slice A D.length c, .int .i64 E] 77)) (.cells #[.int .i64 (-S), .slice A D.length c, .int .i64 E] 77)
  refine bodyPost_ret (results_cell_row rfl _ _ (w.heap.size + 1) 77 #[.int .i64 (-S), .slice A D.length c, .int .i64 E] (0, 0) _ rfl (two_new w _ _).2 Tryz.underlying77 rfl (by kernel_rfl)) rfl ⟨_, rfl, ?_, hB⟩
  exact ⟨-S, D, E, A, c, rfl, hC.below hB, hc, HW.out⟩
def peek (w : World) (p : Addr) : Value := (w.cell? p).getD (.bool false)
theorem peek_some {w : World} {p : Addr} {v : Value} (h : w.cell? p = some v) : w.cell? p = some (peek w p) := by unfold peek; rw [h]; rfl
structure Boxy (g : Nat) (wr : World) (S1 : Int) (A1 : Option Addr) (n1 c1 : Nat) (E1 S2 : Int) (A2 : Option Addr) (n2 c2 : Nat) (E2 : Int) : Prop where
  one : wr.heap[g]? = some (.cells #[.int .i64 S1, .slice A1 n1 c1, .int .i64 E1] 77 (0, 0))
  two : wr.heap[g + 1]? = some (.cells #[.int .i64 S2, .slice A2 n2 c2, .int .i64 E2] 77 (0, 0))
  out : ∃ x0 x1 x2, wr.heap[g + 2]? = some (.cells #[x0, x1, x2] 77 (0, 0))
theorem Boxy.below {g : Nat} {wr w' : World} {S1 : Int} {A1 : Option Addr} {n1 c1 : Nat} {E1 S2 : Int} {A2 : Option Addr} {n2 c2 : Nat} {E2 : Int} (h : Boxy g wr S1 A1 n1 c1 E1 S2 A2 n2 c2 E2) (hb : Below wr.heap.size wr w') : Boxy g w' S1 A1 n1 c1 E1 S2 A2 n2 c2 E2 := by
  obtain ⟨x0, x1, x2, h3⟩ := h.out
  exact ⟨blk_below h.one hb, blk_below h.two hb, x0, x1, x2, blk_below h3 hb⟩
theorem Boxy.put {g : Nat} {wr : World} {S1 : Int} {A1 : Option Addr} {n1 c1 : Nat} {E1 S2 : Int} {A2 : Option Addr} {n2 c2 : Nat} {E2 : Int} (h : Boxy g wr S1 A1 n1 c1 E1 S2 A2 n2 c2 E2) (y0 y1 y2 : Value) : Boxy g (((wr.setCell ⟨g + 2, 0, none⟩ y0).setCell ⟨g + 2, 1, none⟩ y1).setCell ⟨g + 2, 2, none⟩ y2) S1 A1 n1 c1 E1 S2 A2 n2 c2 E2 := by
  obtain ⟨x0, x1, x2, h3⟩ := h.out
  exact ⟨blk_far (blk_far (blk_far h.one (by show g ≠ g + 2; omega) _) (by show g ≠ g + 2; omega) _) (by show g ≠ g + 2; omega) _, blk_far (blk_far (blk_far h.two (by show g + 1 ≠ g + 2; omega) _) (by show g + 1 ≠ g + 2; omega) _) (by show g + 1 ≠ g + 2; omega) _, y0, y1, y2, num_put h3⟩
theorem Boxy.all {g : Nat} {wr : World} {S1 : Int} {A1 : Option Addr} {n1 c1 : Nat} {E1 S2 : Int} {A2 : Option Addr} {n2 c2 : Nat} {E2 : Int} (h : Boxy g wr S1 A1 n1 c1 E1 S2 A2 n2 c2 E2) : wr.cell? ⟨g, 0, none⟩ = some (.int .i64 S1) ∧ wr.cell? ⟨g, 1, none⟩ = some (.slice A1 n1 c1) ∧ wr.cell? ⟨g, 2, none⟩ = some (.int .i64 E1) ∧ wr.cell? ⟨g + 1, 0, none⟩ = some (.int .i64 S2) ∧ wr.cell? ⟨g + 1, 1, none⟩ = some (.slice A2 n2 c2) ∧ wr.cell? ⟨g + 1, 2, none⟩ = some (.int .i64 E2) ∧ wr.cell? ⟨g + 2, 0, none⟩ = some (peek wr ⟨g + 2, 0, none⟩) ∧ wr.cell? ⟨g + 2, 1, none⟩ = some (peek wr ⟨g + 2, 1, none⟩) ∧ wr.cell? ⟨g + 2, 2, none⟩ = some (peek wr ⟨g + 2, 2, none⟩) ∧ wr.frozen? ⟨g + 2, 0, none⟩ = false ∧ wr.frozen? ⟨g + 2, 1, none⟩ = false ∧ wr.frozen? ⟨g + 2, 2, none⟩ = false := by
  have h1 := num_cells h.one
  have h2 := num_cells h.two
  obtain ⟨x0, x1, x2, h3⟩ := h.out
  have h3 := num_cells h3
  exact ⟨h1.1, h1.2.1, h1.2.2.1, h2.1, h2.2.1, h2.2.2.1, peek_some h3.1, peek_some h3.2.1, peek_some h3.2.2.1, h3.2.2.2⟩
set_option maxRecDepth 100000 in
set_option maxHeartbeats 4000000 in
theorem sub_call {v1 v2 : Value} {B n : Nat} {x y : Int} {w : World} (h1 : NumAt w v1 B n x) (h2 : NumAt w v2 B n y) (hn : n ≤ 399999) :
    Calls Tryz.prog 111 #[v1, v2] w fun e w' => ∃ v, e = .returned v ∧ NumAt w' v B (n + 1) (x - y) ∧ Below w.heap.size w w' := by
  have hu := Tryz.underlying77
  have h1' := h1
  have h2' := h2
  obtain ⟨S1, D1, E1, A1, c1, rfl, hC1, hc1, hw1⟩ := h1
  obtain ⟨S2, D2, E2, A2, c2, rfl, hC2, hc2, hw2⟩ := h2
  have hX : Boxy w.heap.size _ S1 A1 D1.length c1 E1 S2 A2 D2.length c2 E2 := ⟨(three_new w _ _ _).1, (three_new w _ _ _).2.1, .int .i64 0, .slice none 0 0, .int .i64 0, (three_new w _ _ _).2.2⟩
  have hB0 := below_alloc (below_alloc (below_alloc (Below.refl w.heap.size w) (.cells #[.int .i64 S1, .slice A1 D1.length c1, .int .i64 E1] 77)) (.cells #[.int .i64 S2, .slice A2 D2.length c2, .int .i64 E2] 77)) (.cells #[.int .i64 0, .slice none 0 0, .int .i64 0] 77)
  have hng := fun W (h : Below w.heap.size w W) => neg_call (h2'.below h)
  have had := fun W v (h : Below w.heap.size w W) (h3 : NumAt W v B n (-y)) => add_call (h1'.below h) h3 hn
  clear hw1 hw2 h1' h2' hC1 hC2 hc1 hc2
  go_enter Tryz.func111, Tryz.ntmps111
  go_upto_region 1 with (fail)
  generalize ((w.alloc (.cells #[.int .i64 S1, .slice A1 D1.length c1, .int .i64 E1] 77)).alloc (.cells #[.int .i64 S2, .slice A2 D2.length c2, .int .i64 E2] 77)).alloc (.cells #[.int .i64 0, .slice none 0 0, .int .i64 0] 77) = w0 at *
  have hN0 := Below.refl w0.heap.size w0
  have hS := hX.all
  go_region_held3 (fun W' => W'.cell? ⟨w.heap.size, 0, none⟩ = some (.int .i64 S1) ∧ W'.cell? ⟨w.heap.size, 1, none⟩ = some (.slice A1 D1.length c1) ∧ W'.cell? ⟨w.heap.size, 2, none⟩ = some (.int .i64 E1) ∧ W'.cell? ⟨w.heap.size + 1, 0, none⟩ = some (.int .i64 S2) ∧ W'.cell? ⟨w.heap.size + 1, 1, none⟩ = some (.slice A2 D2.length c2) ∧ W'.cell? ⟨w.heap.size + 1, 2, none⟩ = some (.int .i64 E2) ∧ W'.cell? ⟨w.heap.size + 2, 0, none⟩ = some (peek W' ⟨w.heap.size + 2, 0, none⟩) ∧ W'.cell? ⟨w.heap.size + 2, 1, none⟩ = some (peek W' ⟨w.heap.size + 2, 1, none⟩) ∧ W'.cell? ⟨w.heap.size + 2, 2, none⟩ = some (peek W' ⟨w.heap.size + 2, 2, none⟩) ∧ W'.frozen? ⟨w.heap.size + 2, 0, none⟩ = false ∧ W'.frozen? ⟨w.heap.size + 2, 1, none⟩ = false ∧ W'.frozen? ⟨w.heap.size + 2, 2, none⟩ = false)
    (first | exact hS | exact ((hX.below (by (with_reducible (repeat (first | exact hN0 | apply below_drew1 | apply below_alloc | apply pw_below_drewN | assumption))))).put _ _ _).all | exact (hX.below (by (with_reducible (repeat (first | exact hN0 | apply below_drew1 | apply below_alloc | apply pw_below_drewN | assumption))))).all)
    (first
      | (go_at_call 124; (with_reducible refine (hng _ ?hq).mono ?_); (case hq => with_reducible (repeat (first | exact hB0 | apply below_drew1 | apply below_alloc | apply pw_below_drewN | assumption))); rintro u w5 ⟨v5, rfl, hN5, hb5⟩; have hB5 := below_step (w := w) (by (with_reducible (repeat (first | exact hB0 | apply below_drew1 | apply below_alloc | apply pw_below_drewN | assumption)))) hb5; have hM5 := below_step (w := w0) (by (with_reducible (repeat (first | exact hN0 | apply below_drew1 | apply below_alloc | apply pw_below_drewN | assumption)))) hb5; clear hb5)
      | (go_at_call 131; (with_reducible refine (had _ _ ?hq ?hr).mono ?_); (case hq => with_reducible (repeat (first | exact hB5 | apply below_drew1 | apply below_alloc | apply pw_below_drewN | assumption))); (case hr => exact hN5.below (by (with_reducible (repeat (first | exact Below.refl _ _ | apply below_drew1 | apply below_alloc | apply pw_below_drewN | assumption))))); rintro u w6 ⟨v6, rfl, hN6, hb6⟩; obtain ⟨S5, D5, E5, A5, c5, rfl, hC5, hc5, hW5⟩ := hN6; have hB6 := below_step (w := w) (by (with_reducible (repeat (first | exact hB5 | apply below_drew1 | apply below_alloc | apply pw_below_drewN | assumption)))) hb6; have hM6 := below_step (w := w0) (by (with_reducible (repeat (first | exact hM5 | apply below_drew1 | apply below_alloc | apply pw_below_drewN | assumption)))) hb6; have HW5 := Aside0.mk hW5; clear hW5 hb6))
  all_goals
    obtain ⟨z0, z1, z2, h3⟩ := (hX.below hM6).out
    have HX := Aside0.mk h3
    clear h3 hX hS
    go_wp2
    refine bodyPost_ret (results_cell_row rfl _ _ (w.heap.size + 2) 77 #[.int .i64 S5, .slice A5 D5.length c5, .int .i64 E5] (0, 0) _ rfl (num_put HX.out) Tryz.underlying77 rfl (by kernel_rfl)) rfl ⟨_, rfl, ?_, below_put hB6 (by omega)⟩
    rw [Int.sub_eq_add_neg]
    exact ⟨S5, D5, E5, A5, c5, rfl, dig_put hC5 HX.out, hc5, HW5.out⟩
set_option maxRecDepth 100000 in
set_option maxHeartbeats 4000000 in
theorem cmp_call {v1 v2 : Value} {B n : Nat} {x y : Int} {w : World} (h1 : NumAt w v1 B n x) (h2 : NumAt w v2 B n y) (hn : n ≤ 399999) :
    Calls Tryz.prog 94 #[v1, v2] w fun e w' => e = .returned (.int .i64 (x - y).sign) ∧ Below w.heap.size w w' := by
  have hu := Tryz.underlying77
  have hsb := fun W (h : Below w.heap.size w W) => sub_call (h1.below h) (h2.below h) hn
  obtain ⟨S1, D1, E1, A1, c1, rfl, hC1, hc1, hw1⟩ := h1
  obtain ⟨S2, D2, E2, A2, c2, rfl, hC2, hc2, hw2⟩ := h2
  have hB0 := below_alloc (below_alloc (Below.refl w.heap.size w) (.cells #[.int .i64 S1, .slice A1 D1.length c1, .int .i64 E1] 77)) (.cells #[.int .i64 S2, .slice A2 D2.length c2, .int .i64 E2] 77)
  clear hw1 hw2 hC1 hC2 hc1 hc2
  go_enter Tryz.func94, Tryz.ntmps94
  go_wp2_with (go_at_call 111; (with_reducible refine (hsb _ hB0).mono ?_); rintro u w5 ⟨v5, rfl, hN5, hb5⟩; obtain ⟨S5, D5, E5, A5, c5, rfl, hC5, hc5, hW5⟩ := hN5; have HS := Aside0.mk hW5.sign; have hB5 := hB0.trans (hb5.mono hB0.size); clear hb5 hW5)
  refine bodyPost_ret (v := .int .i64 S5) (by simp [results, Tryz.results94, go_sem]) rfl ⟨by rw [HS.out], hB5⟩
set_option maxRecDepth 100000 in
set_option maxHeartbeats 4000000 in
theorem abs_call {v : Value} {B n : Nat} {x : Int} {w : World} (h : NumAt w v B n x) :
    Calls Tryz.prog 95 #[v] w fun e w' => ∃ v', e = .returned v' ∧ NumAt w' v' B n x.natAbs ∧ Below w.heap.size w w' := by
  have hu := Tryz.underlying77
  have hng := fun W (hb : Below w.heap.size w W) => neg_call (h.below hb)
  obtain ⟨S, D, E, A, c, rfl, hC, hc, hw⟩ := h
  have hB0 := below_alloc (below_alloc (Below.refl w.heap.size w) (.cells #[.int .i64 S, .slice A D.length c, .int .i64 E] 77)) (.cells #[.int .i64 0, .slice none 0 0, .int .i64 0] 77)
  have hs := hw.sign
  by_cases h0 : S < 0
  · have d1 : decide (S < 0) = true := decide_eq_true h0
    have hx : x < 0 := by
      rcases Int.lt_trichotomy x 0 with hx | hx | hx
      · exact hx
      · subst hx; simp at hs; omega
      · rw [Int.sign_eq_one_of_pos hx] at hs; omega
    have HR := Aside0.mk (show ((x.natAbs : Nat) : Int) = -x by omega)
    have hout := (two_new w (.cells #[.int .i64 S, .slice A D.length c, .int .i64 E] 77) (.cells #[.int .i64 0, .slice none 0 0, .int .i64 0] 77)).2
    have HOUT := Aside0.mk hout
    clear hs hw h0 hx hout
    go_enter Tryz.func95, Tryz.ntmps95
    go_wp2_with (go_at_call 124; (with_reducible refine (hng _ hB0).mono ?_); rintro u w5 ⟨v5, rfl, hN5, hb5⟩; obtain ⟨S5, D5, E5, A5, c5, rfl, hC5, hc5, hW5⟩ := hN5; have h5 := blk_below HOUT.out hb5; obtain ⟨q0, q1, q2, q3, q4, q5⟩ := num_cells h5; have HW5 := Aside0.mk hW5; have HH := Aside0.mk h5; have hB5 := hB0.trans (hb5.mono hB0.size); clear hb5 hW5 h5)
    refine bodyPost_ret (results_cell_row rfl _ _ (w.heap.size + 1) 77 #[.int .i64 S5, .slice A5 D5.length c5, .int .i64 E5] (0, 0) _ rfl (num_put HH.out) Tryz.underlying77 rfl (by kernel_rfl)) rfl ⟨_, rfl, ?_, below_put hB5 (by omega)⟩
    rw [HR.out]
    exact ⟨S5, D5, E5, A5, c5, rfl, dig_put hC5 HH.out, hc5, HW5.out⟩
  · have d1 : decide (S < 0) = false := decide_eq_false h0
    have hx : 0 ≤ x := by
      rcases Int.lt_trichotomy x 0 with hx | hx | hx
      · rw [Int.sign_eq_neg_one_of_neg hx] at hs; omega
      · omega
      · omega
    have HR := Aside0.mk (show ((x.natAbs : Nat) : Int) = x by omega)
    have HW := Aside0.mk hw
    clear hs hw h0 hx hng hB0
    go_enter Tryz.func95, Tryz.ntmps95
    go_wp2
    have hB := below_alloc (below_alloc (Below.refl w.heap.size w) (.cells #[.int .i64 S, .slice A D.length c, .int .i64 E] 77)) (.cells #[.int .i64 S, .slice A D.length c, .int .i64 E] 77)
    refine bodyPost_ret (results_cell_row rfl _ _ (w.heap.size + 1) 77 #[.int .i64 S, .slice A D.length c, .int .i64 E] (0, 0) _ rfl (two_new w _ _).2 Tryz.underlying77 rfl (by kernel_rfl)) rfl ⟨_, rfl, ?_, hB⟩
    rw [HR.out]
    exact ⟨S, D, E, A, c, rfl, hC.below hB, hc, HW.out⟩
end Go.Proofs.YtioahkblhekgpaaGreatDoor.Nw
namespace Go.Proofs.YtioahkblhekgpaaGreatDoor.Nw
open Go.RowKit Go.Proofs.YtioahkblhekgpaaGreatDoor.FltP Go.Proofs.YtioahkblhekgpaaGreatDoor.R Go.Proofs.YtioahkblhekgpaaGreatDoor.E Go.Proofs.YtioahkblhekgpaaGreatDoor.O Go.Proofs.YtioahkblhekgpaaGreatDoorW.PrintWords Go.Proofs.YtioahkblhekgpaaGreatDoorW.PrintLast Go.Proofs.YtioahkblhekgpaaGreatDoorW.PrintMore
open Go.Proofs.YtioahkblhekgpaaGreatDoor.NumP Go.Proofs.YtioahkblhekgpaaGreatDoor.Adm
def arrI (xs : List Int) : Array Value := (xs.map (Value.int .i64)).toArray
theorem arrI_get {xs : List Int} {i : Nat} (h : i < xs.length) : (arrI xs)[i]? = some (.int .i64 (rd xs (i : Int))) := by
  unfold arrI
  rw [List.getElem?_toArray, List.getElem?_map, List.getElem?_eq_getElem h, rd, Int.toNat_natCast, List.getD_eq_getElem?_getD, List.getElem?_eq_getElem h]
  rfl
theorem arrI_set (xs : List Int) (i : Nat) (v : Int) : (arrI xs).setIfInBounds i (.int .i64 v) = arrI (xs.set i v) := by
  unfold arrI
  rw [List.setIfInBounds_toArray, List.map_set]
theorem arrI_made (n : Nat) : madeCells #[Value.int .i64 0] n = arrI (List.replicate n 0) := by
  apply Array.ext_getElem?
  intro j
  unfold madeCells arrI
  by_cases hn : j < n
  · simp [hn, Nat.mod_one]
  · simp [hn]
theorem make_i64 (n : Nat) (hn : n ≤ 1048576) (W : World) : (Instr.makeSlice 75 (.int .i64 (n : Int)) (.int .i64 (n : Int))).run Tryz.prog W = .ok (.slice (some ⟨W.heap.size, 0, none⟩) n n) (W.alloc (.cells (arrI (List.replicate n 0)) 2)) := by
  obtain ⟨i0, hi, hz0, hz1, hz2⟩ := info_parts infoD
  have hr := run_make (P := Tryz.prog) W 75 2 i0 _ Tryz.underlying75 hi hz0 .i64 .i64 (n : Int) (n : Int) (by omega) (by omega) (by rw [hz2]; omega) (by omega)
  rw [hz1, Int.toNat_natCast, Nat.mul_one, show (Value.int IntKind.i64 0).cells = #[Value.int .i64 0] from rfl, arrI_made] at hr
  exact hr
theorem dval_set : ∀ (l : List Int) (i : Nat) (v : Int), i < l.length → dval (l.set i v) = dval l + W i * (v - rd l (i : Int))
  | [], i, v, h => by simp at h
  | d :: l, 0, v, _ => by simp [dval, rd, W_zero]; omega
  | d :: l, i + 1, v, h => by
    have ih := dval_set l i v (by simpa using h)
    have e : rd (d :: l) ((i + 1 : Nat) : Int) = rd l (i : Int) := by simp [rd, List.getD_eq_getElem?_getD]
    rw [e, List.set_cons_succ]
    simp only [dval, ih, W_succ]
    grind
theorem rd_set {l : List Int} {i : Nat} {v : Int} (h : i < l.length) (j : Nat) : rd (l.set i v) (j : Int) = if j = i then v else rd l (j : Int) := by
  simp only [rd, Int.toNat_natCast, List.getD_eq_getElem?_getD]
  by_cases e : j = i
  · subst e; rw [if_pos rfl, List.getElem?_set_self h]; rfl
  · rw [if_neg e, List.getElem?_set_ne (Ne.symm e)]
theorem dig_set {l : List Int} {i : Nat} {v : Int} (h : Dig l) (h0 : 0 ≤ v) (h1 : v < 16777216) : Dig (l.set i v) := fun x hx => by
  rcases List.mem_or_eq_of_mem_set hx with h2 | h2
  · exact h x h2
  · omega
theorem take_snoc {D : List Int} {i : Nat} (h : i < D.length) : dval (D.take (i + 1)) = dval (D.take i) + W i * rd D (i : Int) := by
  rw [List.take_add_one, List.getElem?_eq_getElem h, rd, Int.toNat_natCast, List.getD_eq_getElem?_getD, List.getElem?_eq_getElem h]
  simp only [Option.toList]
  rw [dval_snoc, List.length_take, Nat.min_eq_left (Nat.le_of_lt h)]
  rfl
theorem mul_place {xs D2 : List Int} {i j : Nat} {a c V q m : Int} (hl : i + j < xs.length) (hj : j < D2.length) (hv : dval xs + W (i + j) * c = V + a * (W i * dval (D2.take j))) (he : rd xs ((i + j : Nat) : Int) + a * rd D2 (j : Int) + c = 16777216 * q + m) :
    dval (xs.set (i + j) m) + W (i + (j + 1)) * q = V + a * (W i * dval (D2.take (j + 1))) := by
  rw [dval_set xs (i + j) m hl, take_snoc hj, ← Nat.add_assoc, W_succ, W_add]
  rw [W_add] at hv
  generalize dval (D2.take j) = t at *
  generalize dval xs = X at *
  generalize W i = wi at *
  generalize W j = wj at *
  generalize rd xs ((i + j : Nat) : Int) = y at *
  generalize rd D2 (j : Int) = b at *
  rw [show X = V + a * (wi * t) - wi * wj * c from by omega, show m = y + a * b + c - 16777216 * q from by omega]
  grind
theorem blk_new' (w : World) (a b : Obj) : ((w.alloc a).alloc b).heap[w.heap.size + 1]? = some b := by
  have h := blk_new (w.alloc a) b
  rwa [show (w.alloc a).heap.size = w.heap.size + 1 from by simp] at h
structure MulSt (w wr : World) (p o N : Nat) (xs : List Int) (S E : Int) (S1 : Int) (A1 : Option Addr) (n1 c1 : Nat) (E1 S2 : Int) (A2 : Option Addr) (n2 c2 : Nat) (E2 : Int) : Prop where
  row : wr.heap[p]? = some (.cells (arrI xs) 2 (0, 0))
  out : wr.heap[o]? = some (.cells #[.int .i64 S, .slice (some ⟨p, 0, none⟩) N N, .int .i64 E] 77 (0, 0))
  box : Boxes w.heap.size wr S1 A1 n1 c1 E1 S2 A2 n2 c2 E2
  bel : Below w.heap.size w wr
theorem MulSt.below {w wr w' : World} {p o N : Nat} {xs : List Int} {S E S1 : Int} {A1 : Option Addr} {n1 c1 : Nat} {E1 S2 : Int} {A2 : Option Addr} {n2 c2 : Nat} {E2 : Int} (h : MulSt w wr p o N xs S E S1 A1 n1 c1 E1 S2 A2 n2 c2 E2) (hb : Below wr.heap.size wr w') : MulSt w w' p o N xs S E S1 A1 n1 c1 E1 S2 A2 n2 c2 E2 :=
  ⟨blk_below h.row hb, blk_below h.out hb, h.box.below hb, h.bel.trans (hb.mono h.bel.size)⟩
theorem MulSt.put {w wr : World} {p o N : Nat} {xs : List Int} {S E S1 : Int} {A1 : Option Addr} {n1 c1 : Nat} {E1 S2 : Int} {A2 : Option Addr} {n2 c2 : Nat} {E2 : Int} (h : MulSt w wr p o N xs S E S1 A1 n1 c1 E1 S2 A2 n2 c2 E2) (hp : w.heap.size + 2 < p) (hpo : o ≠ p) (i : Nat) (v : Int) : MulSt w (wr.setCell ⟨p, i, none⟩ (.int .i64 v)) p o N (xs.set i v) S E S1 A1 n1 c1 E1 S2 A2 n2 c2 E2 :=
  ⟨blk_put h.row i _ (arrI_set xs i v), blk_far h.out hpo _, ⟨blk_far h.box.one (by show w.heap.size ≠ p; omega) _, blk_far h.box.two (by show w.heap.size + 1 ≠ p; omega) _, blk_far h.box.out (by show w.heap.size + 2 ≠ p; omega) _⟩, h.bel.setCell (by show w.heap.size ≤ p; omega) _⟩
theorem ilit_C' {w : World} {B : Nat} {t : TypeId} (l : List Int) {arr : Array Value} (ha : arr = arrI l) (h : w.heap[B]? = some (.cells arr t (0, 0))) (hm : l.length ≤ 9223372036854775807 := by omega) : Kd.C (Kd.int .i64) w (some ⟨B, 0, none⟩) l.length l := by
  subst ha
  refine ⟨rfl, hm, fun _ => ⟨_, rfl, fun j p hj => ?_⟩⟩
  have hjl : j < l.length := by
    rcases Nat.lt_or_ge j l.length with h1 | h1
    · exact h1
    · rw [List.getElem?_eq_none h1] at hj; cases hj
  refine ⟨[.int .i64 p], rfl, rfl, fun i u hi => ?_⟩
  have hs : (Kd.int .i64).sz = 1 := rfl
  rw [hs, Addr.add_lit]
  match i, hi with
  | 0, hi =>
    simp at hi; subst hi
    refine (blk_cell h (0 + (j * 1 + 0))).trans ?_
    rw [Nat.zero_add, Nat.add_zero, Nat.mul_one, arrI_get hjl, rd, Int.toNat_natCast, List.getD_eq_getElem?_getD, hj]
    rfl
  | i + 1, hi => simp at hi
set_option maxRecDepth 100000 in
set_option maxHeartbeats 8000000 in
theorem mul_main (S1 E1 : Int) (D1 : List Int) (A1 : Option Addr) (c1 : Nat) (S2 E2 : Int) (D2 : List Int) (A2 : Option Addr) (c2 : Nat) (w : World) (hC1 : Kd.C (Kd.int .i64) w A1 D1.length D1) (hC2 : Kd.C (Kd.int .i64) w A2 D2.length D2) {B C n m : Nat} {x y : Int} (h1 : Worth S1 D1 E1 B n x) (h2 : Worth S2 D2 E2 C m y) (hn : n + m ≤ 399999)
    (z1 : S1 ≠ 0) (z2 : S2 ≠ 0) :
    Calls Tryz.prog 109 #[.agg #[.int .i64 S1, .slice A1 D1.length c1, .int .i64 E1], .agg #[.int .i64 S2, .slice A2 D2.length c2, .int .i64 E2]] w fun e w' => ∃ v, e = .returned v ∧ NumAt w' v (B + C) (n + m) (x * y) ∧ Below w.heap.size w w' := by
  have hu := Tryz.underlying77
  have l1 := h1.lo; have l2 := h2.lo; have u1 := h1.hi; have u2 := h2.hi; have p1 := h1.place; have p2 := h2.place
  have s1 := worth_sgn h1 z1
  have s2 := worth_sgn h2 z2
  have hS : S1 * S2 = 1 ∨ S1 * S2 = -1 := by rcases s1 with rfl | rfl <;> rcases s2 with rfl | rfl <;> simp
  have hxy : x * y = S1 * S2 * (W (E1 + E2 + ((B + C : Nat) : Int)).toNat * (dval D1 * dval D2)) := by
    rw [← h1.val, ← h2.val, show (E1 + E2 + ((B + C : Nat) : Int)).toNat = (E1 + (B : Int)).toNat + (E2 + (C : Int)).toNat from by omega, W_add]; grind
  have hd1 := h1.digits
  have hd2 := h2.digits
  have e1 : (S1 == 0) = false := beq_eq_false_iff_ne.mpr z1
  have e2 : (S2 == 0) = false := beq_eq_false_iff_ne.mpr z2
  have hmk := make_i64 (D1.length + D2.length) (by omega)
  rw [Int.natCast_add] at hmk
  have i1 : IntKind.i64.wrap ((D1.length : Int) + (D2.length : Int)) = (D1.length : Int) + (D2.length : Int) := wrapI _ (by omega) (by omega)
  have i2 : IntKind.i64.wrap (S1 * S2) = S1 * S2 := wrapI _ (by omega) (by omega)
  have i3 : IntKind.i64.wrap (E1 + E2) = E1 + E2 := wrapI _ (by omega) (by omega)
  have hX : Boxes w.heap.size _ S1 A1 D1.length c1 E1 S2 A2 D2.length c2 E2 := ⟨(three_new w _ _ _).1, (three_new w _ _ _).2.1, (three_new w _ _ _).2.2⟩
  have hB0 := below_alloc (below_alloc (below_alloc (Below.refl w.heap.size w) (.cells #[.int .i64 S1, .slice A1 D1.length c1, .int .i64 E1] 77)) (.cells #[.int .i64 S2, .slice A2 D2.length c2, .int .i64 E2] 77)) (.cells #[.int .i64 0, .slice none 0 0, .int .i64 0] 77)
  have HXY := Aside0.mk (And.intro hxy hS)
  have HSS := Aside0.mk (And.intro h1 h2)
  clear hxy hS s1 s2 h1 h2 z1 z2
  go_enter Tryz.func109, Tryz.ntmps109
  go_upto_region 3 with (fail)
  go_cut [5] (fun v5 wc => ∃ p o : Nat, v5 = .pointer (some ⟨o, 0, none⟩) ∧ w.heap.size + 2 < p ∧ o ≠ p ∧ w.heap.size + 2 < o ∧ MulSt w wc p o (D1.length + D2.length) (List.replicate (D1.length + D2.length) 0) (S1 * S2) (E1 + E2) S1 A1 D1.length c1 E1 S2 A2 D2.length c2 E2)
  case first =>
    have hl0 := (by simp : (((w.alloc (.cells #[.int .i64 S1, .slice A1 D1.length c1, .int .i64 E1] 77)).alloc (.cells #[.int .i64 S2, .slice A2 D2.length c2, .int .i64 E2] 77)).alloc (.cells #[.int .i64 0, .slice none 0 0, .int .i64 0] 77)).heap.size = w.heap.size + 3)
    generalize ((w.alloc (.cells #[.int .i64 S1, .slice A1 D1.length c1, .int .i64 E1] 77)).alloc (.cells #[.int .i64 S2, .slice A2 D2.length c2, .int .i64 E2] 77)).alloc (.cells #[.int .i64 0, .slice none 0 0, .int .i64 0] 77) = w0 at *
    have HL0 := Aside0.mk hl0
    clear hl0
    obtain ⟨⟨x0, x1, x2⟩, y0, y1, y2⟩ := hX.cells
    have hS : w0.cell? ⟨w.heap.size, 0, none⟩ = some (.int .i64 S1) ∧ w0.cell? ⟨w.heap.size, 1, none⟩ = some (.slice A1 D1.length c1) ∧ w0.cell? ⟨w.heap.size, 2, none⟩ = some (.int .i64 E1) ∧ w0.cell? ⟨w.heap.size + 1, 0, none⟩ = some (.int .i64 S2) ∧ w0.cell? ⟨w.heap.size + 1, 1, none⟩ = some (.slice A2 D2.length c2) ∧ w0.cell? ⟨w.heap.size + 1, 2, none⟩ = some (.int .i64 E2) := ⟨x0, x1, x2, y0, y1, y2⟩
    clear x0 x1 x2 y0 y1 y2
    have hN0 := Below.refl w0.heap.size w0
    go_region_held3 (fun W' => W'.cell? ⟨w.heap.size, 0, none⟩ = some (.int .i64 S1) ∧ W'.cell? ⟨w.heap.size, 1, none⟩ = some (.slice A1 D1.length c1) ∧ W'.cell? ⟨w.heap.size, 2, none⟩ = some (.int .i64 E1) ∧ W'.cell? ⟨w.heap.size + 1, 0, none⟩ = some (.int .i64 S2) ∧ W'.cell? ⟨w.heap.size + 1, 1, none⟩ = some (.slice A2 D2.length c2) ∧ W'.cell? ⟨w.heap.size + 1, 2, none⟩ = some (.int .i64 E2))
      (first | exact hS | exact six_below2 (by (with_reducible (repeat (first | exact hN0 | apply below_drew1 | apply below_alloc | apply pw_below_drewN | assumption)))) hS)
      (fail)
    all_goals
      go_wp2
      go_meet
    case rel =>
      exact ⟨w0.heap.size, w0.heap.size + 1, rfl, by have := HL0.out; omega, by omega, by have := HL0.out; omega, blk_drew (blk_alloc (blk_new _ _) _), blk_drew (blk_new' _ _ _), (hX.below (below_drew1 (below_alloc (below_alloc (Below.refl _ _) _) _))), below_drew1 (below_alloc (below_alloc hB0 _) _)⟩
    case rel =>
      exact ⟨w0.heap.size + 1, w0.heap.size, rfl, by have := HL0.out; omega, by omega, by have := HL0.out; omega, blk_drew (blk_new' _ _ _), blk_drew (blk_alloc (blk_new _ _) _), (hX.below (below_drew1 (below_alloc (below_alloc (Below.refl _ _) _) _))), below_drew1 (below_alloc (below_alloc hB0 _) _)⟩
  case rest =>
    obtain ⟨p, o, rfl, hp, hpo, ho, T⟩ := hcut
    clear hmk i1 i2 i3 hX hB0
    generalize S1 * S2 = SS at *
    go_wp2
    go_loopw [6] (fun v6 wr => ∃ (i : Nat) (xs : List Int), i ≤ D1.length ∧ v6 = .int .i64 i ∧ Dig xs ∧ Aside0 (xs.length = D1.length + D2.length) ∧ Aside0 (∀ m : Nat, i + D2.length ≤ m → rd xs (m : Int) = 0) ∧ Aside0 (dval xs = dval (D1.take i) * dval D2) ∧ MulSt w wr p o (D1.length + D2.length) xs SS (E1 + E2) S1 A1 D1.length c1 E1 S2 A2 D2.length c2 E2) (fun v6 _ => D1.length - (intOf v6).toNat)
    case atStart => exact ⟨0, _, Nat.zero_le _, rfl, fun d hd => by rw [List.eq_of_mem_replicate hd]; omega, ⟨by simp⟩, ⟨fun k hk => by simp only [rd, Int.toNat_natCast, List.getD_eq_getElem?_getD, List.getElem?_replicate]; split <;> rfl⟩, ⟨by rw [dval_zeros]; simp [dval]⟩, T⟩
    case round =>
      clear T
      obtain ⟨i, xs, hi, rfl, hdx, HXL, HZ, HV, T⟩ := hrel
      obtain ⟨⟨x0, x1, x2⟩, y0, y1, y2⟩ := T.box.cells
      by_cases hil : i < D1.length
      · have d1 : decide ((i : Int) < (D1.length : Int)) = true := by simp; omega
        have d2 : decide (i < D1.length) = true := by simp; omega
        have ha := hd1 _ (List.getElem_mem hil)
        have hra : rd D1 (i : Int) = D1[i] := by rw [rd, Int.toNat_natCast, List.getD_eq_getElem?_getD, List.getElem?_eq_getElem hil]; rfl
        have htk := take_snoc hil
        rw [← hra] at ha
        clear hra
        generalize hae : rd D1 (i : Int) = a at *
        have HAE := Aside0.mk hae
        have HTK := Aside0.mk htk
        clear hae htk
        have i4 : IntKind.i64.wrap ((i : Int) + 1) = (i : Int) + 1 := wrapI _ (by omega) (by omega)
        go_wp2
        go_loopw [7, 8] (fun v7 v8 wr => ∃ (j : Nat) (c : Int) (ys : List Int), j ≤ D2.length ∧ v8 = .int .i64 j ∧ v7 = .int .i64 c ∧ 0 ≤ c ∧ c < 16777216 ∧ Dig ys ∧ Aside0 (ys.length = D1.length + D2.length) ∧ Aside0 (∀ m : Nat, i + D2.length ≤ m → rd ys (m : Int) = 0) ∧ Aside0 (dval ys + W (i + j) * c = dval xs + a * (W i * dval (D2.take j))) ∧ MulSt w wr p o (D1.length + D2.length) ys SS (E1 + E2) S1 A1 D1.length c1 E1 S2 A2 D2.length c2 E2) (fun _ v8 _ => D2.length - (intOf v8).toNat)
        case atStart => exact ⟨0, 0, xs, Nat.zero_le _, rfl, rfl, by omega, by omega, hdx, HXL, HZ, ⟨by simp [dval]⟩, T⟩
        case round =>
          clear T x0 x1 x2 y0 y1 y2
          obtain ⟨j, c, ys, hj, rfl, rfl, hc0, hc1_, hdy, HYL, HZY, HVY, T⟩ := hrel
          obtain ⟨⟨x0, x1, x2⟩, y0, y1, y2⟩ := T.box.cells
          have q1 := (num_cells T.out).2.1
          by_cases hjl : j < D2.length
          · obtain ⟨ab, ao, rfl, hza⟩ := row_at (Kd.C_below hC1 T.bel) (by omega)
            have xa := hza i hil
            rw [HAE.out] at xa
            obtain ⟨bb, bo, rfl, hzb⟩ := row_at (Kd.C_below hC2 T.bel) (by omega)
            have xb := hzb j hjl
            clear hza hzb
            have hb_ := rd_dig hd2 (j : Int)
            have hy_ := rd_dig hdy ((i + j : Nat) : Int)
            have hlen : i + j < ys.length := by have := HYL.out; omega
            have xr := (blk_cell T.row (i + j)).trans (arrI_get hlen)
            have xf := blk_frozen T.row (i + j)
            have hpl := fun q m_ he => @mul_place ys D2 i j a c (dval xs) q m_ hlen hjl HVY.out he
            generalize rd D2 (j : Int) = b at *
            generalize rd ys ((i + j : Nat) : Int) = y_ at *
            have hm0 : 0 ≤ a * b := Int.mul_nonneg ha.1 hb_.1
            have hm1 : a * b ≤ 16777215 * 16777215 := Int.mul_le_mul (by omega) (by omega) (by omega) (by omega)
            have i5 : IntKind.i64.wrap (a * b) = a * b := wrapI _ (by omega) (by omega)
            have i6 : IntKind.i64.wrap (y_ + a * b) = y_ + a * b := wrapI _ (by omega) (by omega)
            obtain ⟨v, hv⟩ : ∃ v, y_ + a * b + c = v := ⟨_, rfl⟩
            have i7 : IntKind.i64.wrap (y_ + a * b + c) = v := by rw [wrapI _ (by omega) (by omega)]; exact hv
            have hv0 : 0 ≤ v := by omega
            have hv1 : v < 16777216 * 16777216 := by omega
            obtain ⟨q, hq⟩ : ∃ q, q = v / 16777216 := ⟨_, rfl⟩
            obtain ⟨m_, hm_⟩ : ∃ m, m = v % 16777216 := ⟨_, rfl⟩
            have e6 : Int.tdiv v 16777216 = q := by rw [hq]; exact Int.tdiv_eq_ediv_of_nonneg hv0
            have e7 : Int.tmod v 16777216 = m_ := by rw [hm_]; exact Int.tmod_eq_emod_of_nonneg hv0
            have hqm : v = 16777216 * q + m_ ∧ 0 ≤ m_ ∧ m_ < 16777216 ∧ 0 ≤ q ∧ q < 16777216 := by omega
            have i8 : IntKind.i64.wrap q = q := wrapI _ (by omega) (by omega)
            have i9 : IntKind.i64.wrap m_ = m_ := wrapI _ (by omega) (by omega)
            have i10 : IntKind.i64.wrap ((i : Int) + (j : Int)) = ((i + j : Nat) : Int) := by rw [wrapI _ (by omega) (by omega)]; push_cast; rfl
            have i11 : IntKind.i64.wrap ((j : Int) + 1) = (j : Int) + 1 := wrapI _ (by omega) (by omega)
            have d3 : decide ((j : Int) < (D2.length : Int)) = true := by simp; omega
            have d4 : decide (j < D2.length) = true := by simp; omega
            have HPL := Aside0.mk (hpl q m_ (by rw [hv]; exact hqm.1))
            have HLEN := Aside0.mk hlen
            have HQM := Aside0.mk hqm
            have HVV := Aside0.mk hv
            clear hpl hlen hqm hv hq hm_ hm0 hm1 hb_ hy_
            go_wp2
            go_quiet (fail)
            have hqm := HQM.out
            have Td := T.below (pw_below_drewN (Below.refl _ _) nq)
            generalize wr.drewN nq = wd at *
            clear q1 xr xf T x0 x1 x2 y0 y1 y2 xa xb
            have q1 := (num_cells Td.out).2.1
            have xr := (blk_cell Td.row (i + j)).trans (arrI_get HLEN.out)
            have xf := blk_frozen Td.row (i + j)
            generalize rd ys ((i + j : Nat) : Int) = y2_ at *
            have d5 : decide (i + j < D1.length + D2.length) = true := by simp; omega
            have d6 : decide ((i : Int) + (j : Int) < (D1.length : Int) + (D2.length : Int)) = true := by simp; omega
            have p5 : i + j < D1.length + D2.length := by omega
            clear hqm
            go_wp2
            have hqm := HQM.out
            exact ⟨⟨j + 1, q, ys.set (i + j) m_, by omega, by congr 1, rfl, hqm.2.2.2.1, hqm.2.2.2.2, dig_set hdy hqm.2.1 hqm.2.2.1, ⟨by rw [List.length_set]; exact HYL.out⟩, ⟨fun k hk => by rw [rd_set HLEN.out, if_neg (by omega)]; exact HZY.out k hk⟩, ⟨HPL.out⟩, Td.put hp hpo _ _⟩, by simp [intOf]; omega⟩
          · obtain rfl : j = D2.length := by omega
            have d3 : decide ((D2.length : Int) < (D2.length : Int)) = false := by simp
            have d4 : decide (D2.length < D2.length) = false := by simp
            have hlen : i + D2.length < ys.length := by have := HYL.out; omega
            have hz := HZY.out (i + D2.length) (Nat.le_refl _)
            have xr := (blk_cell T.row (i + D2.length)).trans (arrI_get hlen)
            have xf := blk_frozen T.row (i + D2.length)
            rw [hz] at xr
            have i5 : IntKind.i64.wrap ((i : Int) + (D2.length : Int)) = ((i + D2.length : Nat) : Int) := by rw [wrapI _ (by omega) (by omega)]; push_cast; rfl
            have i6 : IntKind.i64.wrap (0 + c) = c := by rw [Int.zero_add]; exact wrapI _ (by omega) (by omega)
            have i7 : IntKind.i64.wrap c = c := wrapI _ (by omega) (by omega)
            have hset : dval (ys.set (i + D2.length) c) = dval (D1.take (i + 1)) * dval D2 := by
              have h := HVY.out
              rw [List.take_length, HV.out] at h
              rw [dval_set _ _ _ hlen, hz, Int.sub_zero, h, HTK.out]
              grind
            have d5 : decide (i + D2.length < D1.length + D2.length) = true := by simp; omega
            have d6 : decide ((i : Int) + (D2.length : Int) < (D1.length : Int) + (D2.length : Int)) = true := by simp; omega
            have p5 : i + D2.length < D1.length + D2.length := by omega
            have HSET := Aside0.mk hset
            have HLEN := Aside0.mk hlen
            clear hset hlen hz
            go_upto_region 14 with (fail)
            clear x0 x1 x2 y0 y2
            have f1 : (0 ≤ (i : Int) + (D2.length : Int)) = True := eq_true (by omega)
            have f2 : ((i : Int) + (D2.length : Int)).toNat = i + D2.length := by omega
            have f3 : decide (0 ≤ (i : Int) + (D2.length : Int)) = true := by simp; omega
            go_still_tail 19, (by kernel_rfl)
            change wpList _ _ _ _ _ wr.drew
            have Td := T.below (below_drew1 (Below.refl _ _))
            generalize wr.drew = wd at *
            clear xr xf q1 y1 T
            have xr := (blk_cell Td.row (i + D2.length)).trans (arrI_get HLEN.out)
            have xf := blk_frozen Td.row (i + D2.length)
            generalize rd ys ((i + D2.length : Nat) : Int) = y2_ at *
            go_wp2
            exact ⟨⟨i + 1, ys.set (i + D2.length) c, by omega, by go_num, dig_set hdy hc0 hc1_, ⟨by rw [List.length_set]; exact HYL.out⟩, ⟨fun k hk => by rw [rd_set HLEN.out, if_neg (by omega)]; exact HZY.out k (by omega)⟩, ⟨HSET.out⟩, Td.put hp hpo _ _⟩, by simp [intOf]; omega⟩
      · obtain rfl : i = D1.length := by omega
        have d1 : decide ((D1.length : Int) < (D1.length : Int)) = false := by simp
        have d2 : decide (D1.length < D1.length) = false := by simp
        have hfin := HV.out
        rw [List.take_length] at hfin
        have hxy := HXY.out.1
        rw [← hfin] at hxy
        have hlx := HXL.out
        have hDig : DigAt wr (some ⟨p, 0, none⟩) xs := ⟨ilit_C' xs rfl T.row, fun _ => ⟨_, rfl, _, _, T.row⟩⟩
        have ht := trim_call SS (E1 + E2) xs (some ⟨p, 0, none⟩) (D1.length + D2.length) wr hDig.1 (by omega) hdx HXY.out.2 (B := B + C) (n := n + m) (by push_cast; omega) (by push_cast; omega) (by push_cast; omega) (by omega)
        rw [← hxy, hlx] at ht
        obtain ⟨r0, r1, r2, r3, r4, r5⟩ := num_cells T.out
        have hBw := T.bel
        have HT := Aside0.mk (And.intro T hDig)
        clear hfin hxy hlx hDig T d1 d2
        have d1 : decide ((D1.length : Int) < (D1.length : Int)) = false := by simp
        have d2 : decide (D1.length < D1.length) = false := by simp
        go_wp2_with (go_at_call 125; (with_reducible refine ht.mono ?_); rintro u w5 ⟨v5, rfl, hN5, hb5⟩; have T5 := HT.out.1.below hb5; have hD5 := HT.out.2.below hb5; obtain ⟨S5, D5, E5, A5, c5, rfl, hC5, hc5, hW5⟩ := hN5.at hD5; obtain ⟨q0, q1, q2, q3, q4, q5⟩ := num_cells T5.box.out; have HW5 := Aside0.mk hW5; have HT5 := Aside0.mk T5; clear hN5 hD5 hW5 hb5 T5 ht)
        refine bodyPost_ret (results_cell_row rfl _ _ (w.heap.size + 2) 77 #[.int .i64 S5, .slice A5 D5.length c5, .int .i64 E5] (0, 0) _ rfl (num_put HT5.out.box.out) Tryz.underlying77 rfl (by kernel_rfl)) rfl ⟨_, rfl, ?_, below_put HT5.out.bel (by omega)⟩
        exact ⟨S5, D5, E5, A5, c5, rfl, dig_put hC5 HT5.out.box.out, hc5, HW5.out⟩
end Go.Proofs.YtioahkblhekgpaaGreatDoor.Nw
namespace Go.Proofs.YtioahkblhekgpaaGreatDoor.Nw
open Go.RowKit Go.Proofs.YtioahkblhekgpaaGreatDoor.FltP Go.Proofs.YtioahkblhekgpaaGreatDoor.R Go.Proofs.YtioahkblhekgpaaGreatDoor.E Go.Proofs.YtioahkblhekgpaaGreatDoor.O Go.Proofs.YtioahkblhekgpaaGreatDoorW.PrintWords Go.Proofs.YtioahkblhekgpaaGreatDoorW.PrintLast Go.Proofs.YtioahkblhekgpaaGreatDoorW.PrintMore
open Go.Proofs.YtioahkblhekgpaaGreatDoor.NumP Go.Proofs.YtioahkblhekgpaaGreatDoor.Adm
set_option maxRecDepth 100000 in
set_option maxHeartbeats 4000000 in
theorem mul_call {v1 v2 : Value} {B C n m : Nat} {x y : Int} {w : World} (h1 : NumAt w v1 B n x) (h2 : NumAt w v2 C m y) (hn : n + m ≤ 399999) :
    Calls Tryz.prog 109 #[v1, v2] w fun e w' => ∃ v, e = .returned v ∧ NumAt w' v (B + C) (n + m) (x * y) ∧ Below w.heap.size w w' := by
  have hu := Tryz.underlying77
  obtain ⟨S1, D1, E1, A1, c1, rfl, hC1, hc1, hw1⟩ := h1
  obtain ⟨S2, D2, E2, A2, c2, rfl, hC2, hc2, hw2⟩ := h2
  have hB := below_alloc (below_alloc (below_alloc (Below.refl w.heap.size w) (.cells #[.int .i64 S1, .slice A1 D1.length c1, .int .i64 E1] 77)) (.cells #[.int .i64 S2, .slice A2 D2.length c2, .int .i64 E2] 77)) (.cells #[.int .i64 0, .slice none 0 0, .int .i64 0] 77)
  have hX := (three_new w (.cells #[.int .i64 S1, .slice A1 D1.length c1, .int .i64 E1] 77) (.cells #[.int .i64 S2, .slice A2 D2.length c2, .int .i64 E2] 77) (.cells #[.int .i64 0, .slice none 0 0, .int .i64 0] 77)).2.2
  by_cases z1 : S1 = 0
  · have HR := Aside0.mk (show x * y = 0 by rw [worth_zero hw1 z1, Int.zero_mul])
    subst z1
    have HB := Aside0.mk (And.intro hB hX)
    clear hw1 hw2 hB hX hC1 hC2 hc1 hc2
    go_enter Tryz.func109, Tryz.ntmps109
    go_wp2
    refine bodyPost_ret (results_cell_row rfl _ _ (w.heap.size + 2) 77 #[.int .i64 0, .slice none 0 0, .int .i64 0] (0, 0) _ rfl HB.out.2 Tryz.underlying77 rfl (by kernel_rfl)) rfl ⟨_, rfl, ?_, HB.out.1⟩
    rw [HR.out]
    exact NumAt.zero _ _ _
  · by_cases z2 : S2 = 0
    · have HR := Aside0.mk (show x * y = 0 by rw [worth_zero hw2 z2, Int.mul_zero])
      have e1 : (S1 == 0) = false := beq_eq_false_iff_ne.mpr z1
      subst z2
      have HB := Aside0.mk (And.intro hB hX)
      clear hw1 hw2 hB hX hC1 hC2 hc1 hc2 z1
      go_enter Tryz.func109, Tryz.ntmps109
      go_wp2
      refine bodyPost_ret (results_cell_row rfl _ _ (w.heap.size + 2) 77 #[.int .i64 0, .slice none 0 0, .int .i64 0] (0, 0) _ rfl HB.out.2 Tryz.underlying77 rfl (by kernel_rfl)) rfl ⟨_, rfl, ?_, HB.out.1⟩
      rw [HR.out]
      exact NumAt.zero _ _ _
    · exact mul_main S1 E1 D1 A1 c1 S2 E2 D2 A2 c2 w hC1.1 hC2.1 hw1 hw2 hn z1 z2
structure PowSt (w wr : World) (o : Nat) (vO : Value) (O : List Int) (e : Int) : Prop where
  row : wr.heap[o]? = some (.cells #[.int .i64 1, vO, .int .i64 e] 77 (0, 0))
  own : Kd.R (Kd.int .i64) 2 wr w.heap.size (fun _ => True) vO O
  out : wr.heap[w.heap.size]? = some (.cells #[.int .i64 0, .slice none 0 0, .int .i64 0] 77 (0, 0))
  bel : Below w.heap.size w wr
theorem PowSt.below {w wr w' : World} {o : Nat} {vO : Value} {O : List Int} {e : Int} (h : PowSt w wr o vO O e) (hb : Below wr.heap.size wr w') : PowSt w w' o vO O e :=
  ⟨blk_below h.row hb, Kd.R_below h.own hb, blk_below h.out hb, h.bel.trans (hb.mono h.bel.size)⟩
theorem pow_push {w wr w9 : World} {o : Nat} {vO : Value} {O : List Int} {e v : Int} (T : PowSt w wr o vO O e) {A9 : Option Addr} {c9 : Nat} (hR9 : Kd.R (Kd.int .i64) 2 w9 w.heap.size (fun _ => True) (.slice A9 (O.length + 1) c9) (O ++ [v])) (hB9 : Below w.heap.size w w9) (hrow : w9.heap[o]? = some (.cells #[.int .i64 1, vO, .int .i64 e] 77 (0, 0))) (hout : w9.heap[w.heap.size]? = some (.cells #[.int .i64 0, .slice none 0 0, .int .i64 0] 77 (0, 0))) (ho : w.heap.size < o) : PowSt w (w9.setCell ⟨o, 1, none⟩ (.slice A9 (O.length + 1) c9)) o (.slice A9 (O.length + 1) c9) (O ++ [v]) e :=
  ⟨blk_put hrow 1 _ rfl, Kd.R_set hR9 hrow (by decide) 1 _, blk_far hout (by show w.heap.size ≠ o; omega) _, hB9.setCell (by show w.heap.size ≤ o; omega) _⟩
theorem pow_row {w wr : World} {o : Nat} {vO : Value} {xs : List Int} {e : Int} (T : PowSt w wr o vO xs e) {k : Nat} (hk : k < xs.length) : ∃ b cap, vO = .slice (some ⟨b, 0, none⟩) xs.length cap ∧ w.heap.size ≤ b ∧ b < wr.heap.size ∧ (∀ v, PowSt w (wr.setCell ⟨b, k, none⟩ (.int .i64 v)) o (.slice (some ⟨b, 0, none⟩) xs.length cap) (xs.set k v) e) ∧ wr.cell? ⟨b, k, none⟩ = some (.int .i64 (rd xs (k : Int))) ∧ wr.frozen? ⟨b, k, none⟩ = false ∧ b ≠ o := by
  obtain ⟨g, cap, rfl, hb, hl, cells, hh⟩ := Kd.R_form T.own (by omega)
  have ne : ∀ (q : Nat) (cs : Array Value), wr.heap[q]? = some (.cells cs 77 (0, 0)) → q ≠ g := fun q cs hq h => by
    rw [h, hh] at hq
    injection hq with hq
    injection hq with _ hq _
    exact absurd hq (by decide)
  refine ⟨g, cap, rfl, hb, hl, fun v => ⟨blk_far T.row (ne o _ T.row) _, ?_, blk_far T.out (ne _ _ T.out) _, T.bel.setCell (by show w.heap.size ≤ g; exact hb) _⟩, ?_, ?_, fun h => ne o _ T.row h.symm⟩
  · have := Kd.R_putn T.own (k : Int) v
    rwa [Int.toNat_natCast] at this
  · have := (Kd.R_celln (0 : Int) T.own (k : Int) (by omega) (by omega)).1
    simpa [rdOf, rd, List.getD_eq_getElem?_getD] using this
  · have := (Kd.R_celln (0 : Int) T.own (k : Int) (by omega) (by omega)).2
    rwa [Int.toNat_natCast] at this
theorem u64I (n : Int) (h0 : 0 ≤ n) (h1 : n < 18446744073709551616) : IntKind.u64.wrap n = n := by simp only [IntKind.wrap]; simp [IntKind.signed, IntKind.bits]; omega
theorem pow2_le {a b : Nat} (h : a ≤ b) : (2 : Int) ^ a ≤ 2 ^ b := by
  have h1 := Nat.pow_le_pow_right (n := 2) (by omega) h
  have e1 : ((2 ^ a : Nat) : Int) = 2 ^ a := by simp
  have e2 : ((2 ^ b : Nat) : Int) = 2 ^ b := by simp
  omega
set_option maxRecDepth 100000 in
set_option maxHeartbeats 8000000 in
theorem power_call (n k0 : Int) (w : World) (hn : 0 ≤ n) (hn2 : n < 18446744073709551616) (hk : -24000 ≤ k0) (hk2 : k0 ≤ 24000) (B : Nat) (hB : 0 ≤ 24 * (B : Int) + k0) :
    Calls Tryz.prog 96 #[.int .u64 n, .int .i64 k0] w fun e w' => ∃ v, e = .returned v ∧ NumAt w' v B 1010 (n * 2 ^ (24 * (B : Int) + k0).toNat) ∧ Below w.heap.size w w' := by
  have hu := Tryz.underlying77
  go_enter Tryz.func96, Tryz.ntmps96
  go_wp2
  have hout := blk_new w (.cells #[.int .i64 0, .slice none 0 0, .int .i64 0] 77)
  have hB0 := below_alloc (Below.refl w.heap.size w) (.cells #[.int .i64 0, .slice none 0 0, .int .i64 0] 77)
  have hsz : w.heap.size < (w.alloc (.cells #[.int .i64 0, .slice none 0 0, .int .i64 0] 77)).heap.size := by simp
  generalize w.alloc (.cells #[.int .i64 0, .slice none 0 0, .int .i64 0] 77) = w0 at *
  go_loopw [1, 5] (fun v1 v5 wr => ∃ k e : Int, v1 = .int .i64 k ∧ v5 = .int .i64 e ∧ Aside0 (k0 = 24 * e + k) ∧ k ≤ 24000 ∧ -24000 ≤ k ∧ -1001 ≤ e ∧ e ≤ 0 ∧ wr = w0) (fun v1 _ _ => (-intOf v1).toNat)
  case atStart => exact ⟨k0, 0, rfl, rfl, ⟨by omega⟩, hk2, hk, by omega, by omega, rfl⟩
  case round =>
    obtain ⟨k, e, rfl, rfl, HK, hk3, hk4, he1, he2, rfl⟩ := hrel
    by_cases hk0 : k < 0
    · have d1 : decide (k < 0) = true := decide_eq_true hk0
      have i1 : IntKind.i64.wrap (k + 24) = k + 24 := wrapI _ (by omega) (by omega)
      have i2 : IntKind.i64.wrap (e - 1) = e - 1 := wrapI _ (by omega) (by omega)
      have he3 : -1001 ≤ e - 1 := by have := HK.out; omega
      go_wp2
      exact ⟨⟨k + 24, e - 1, rfl, rfl, ⟨by have := HK.out; omega⟩, by omega, by omega, he3, by omega, by first | trivial | rfl⟩, by simp [intOf]; omega⟩
    · have d1 : decide (k < 0) = false := decide_eq_false hk0
      go_wp2
      go_loopw [1, 5] (fun v1 v5 wq => ∃ k e : Int, v1 = .int .i64 k ∧ v5 = .int .i64 e ∧ Aside0 (k0 = 24 * e + k) ∧ k ≤ 24000 ∧ 0 ≤ k ∧ -1001 ≤ e ∧ e ≤ 1001 ∧ wq = wr) (fun v1 _ _ => (intOf v1).toNat)
      case atStart => exact ⟨k, e, rfl, rfl, HK, hk3, by omega, by omega, by omega, rfl⟩
      case round =>
        clear HK hk3 hk4 he1 he2 hk0 d1
        obtain ⟨k, e, rfl, rfl, HK, hk3, hk4, he1, he2, rfl⟩ := hrel
        by_cases hk5 : 24 ≤ k
        · have d1 : decide ((24 : Int) ≤ k) = true := decide_eq_true hk5
          have i1 : IntKind.i64.wrap (k - 24) = k - 24 := wrapI _ (by omega) (by omega)
          have i2 : IntKind.i64.wrap (e + 1) = e + 1 := wrapI _ (by omega) (by omega)
          have he3 : e + 1 ≤ 1001 := by have := HK.out; omega
          go_wp2
          exact ⟨⟨k - 24, e + 1, rfl, rfl, ⟨by have := HK.out; omega⟩, by omega, by omega, by omega, he3, by first | trivial | rfl⟩, by simp [intOf]; omega⟩
        · have d1 : decide ((24 : Int) ≤ k) = false := decide_eq_false hk5
          obtain ⟨m, rfl⟩ := Int.eq_ofNat_of_zero_le hk4
          have T0 : PowSt w (wr.alloc (.cells #[.int .i64 1, .slice none 0 0, .int .i64 e] 77)) wr.heap.size (.slice none 0 0) [] e := ⟨blk_new _ _, Kd.R_nil .., blk_alloc hout _, below_alloc hB0 _⟩
          obtain ⟨o, ho⟩ : ∃ o, o = wr.heap.size := ⟨_, rfl⟩
          have hoo : w.heap.size < o := by omega
          rw [← ho] at T0
          have HO := Aside0.mk ho
          go_wp2
          rw [← ho]
          clear ho hout hB0 hsz hk hk2
          have hml : m < 24 := by omega
          go_loopw [0] (fun v0 wq => ∃ (z : Int) (O : List Int) (vO : Value), v0 = .int .u64 z ∧ 0 ≤ z ∧ z < W (3 - O.length) ∧ O.length ≤ 3 ∧ z < 18446744073709551616 ∧ Dig O ∧ Aside0 (dval O + W O.length * z = n) ∧ PowSt w wq o vO O e) (fun v0 _ => (intOf v0).toNat)
          case atStart => exact ⟨n, [], .slice none 0 0, rfl, hn, by rw [show W (3 - ([] : List Int).length) = 4722366482869645213696 from rfl]; omega, by simp, hn2, by simp [Dig], ⟨by simp [dval, W_zero]⟩, T0⟩
          case round =>
            clear T0
            obtain ⟨z, O, vO, rfl, hz0, hz1, hOl, hz2, hOd, HV, T⟩ := hrel
            by_cases hz : 0 < z
            · have d2 : decide (0 < z) = true := decide_eq_true hz
              obtain ⟨q, hq⟩ : ∃ q, q = z / 16777216 := ⟨_, rfl⟩
              obtain ⟨m_, hm_⟩ : ∃ m, m = z % 16777216 := ⟨_, rfl⟩
              have e6 : Int.tdiv z 16777216 = q := by rw [hq]; exact Int.tdiv_eq_ediv_of_nonneg hz0
              have e7 : Int.tmod z 16777216 = m_ := by rw [hm_]; exact Int.tmod_eq_emod_of_nonneg hz0
              have hqm : z = 16777216 * q + m_ ∧ 0 ≤ m_ ∧ m_ < 16777216 ∧ 0 ≤ q ∧ q < z := by omega
              have i8 : IntKind.u64.wrap q = q := u64I _ (by omega) (by omega)
              have i9 : IntKind.u64.wrap m_ = m_ := u64I _ (by omega) (by omega)
              have i10 : IntKind.i64.wrap m_ = m_ := wrapI _ (by omega) (by omega)
              have hlen : O.length < 3 := by
                rcases Nat.lt_or_ge O.length 3 with h | h
                · exact h
                · rw [show 3 - O.length = 0 by omega, W_zero] at hz1; omega
              have hqW : q < W (3 - (O.length + 1)) := by
                rw [show 3 - O.length = (3 - (O.length + 1)) + 1 by omega, W_succ] at hz1; omega
              have hnx : dval (O ++ [m_]) + W (O.length + 1) * q = n := by
                rw [dval_snoc, W_succ, ← HV.out, hqm.1]; grind
              have HQ := Aside0.mk (And.intro hqm (And.intro hqW hnx))
              have hdj : Dig (O ++ [m_]) := hOd.join (fun x hx => by rw [List.mem_singleton.mp hx]; omega)
              have HLEN := Aside0.mk hlen
              obtain ⟨r0, r1, r2, r3, r4, r5⟩ := num_cells T.row
              clear hq hm_ hqm hqW hnx hz1
              go_wp2_with (first
                | (refine Kd.R_append_rows (Kd.int .i64) (w0 := w) w.heap.size (by rfl) (.tmp 29) (.tmp 33) 75 2 (.int .i64 0) 8 rfl Tryz.underlying75 infoD rfl (by decide) (by omega) vO O [m_] _ _ _ (fun _ => True) (fun _ => False) rfl rfl ?aO ?aR (fun _ _ h => h) (fun _ h => h.elim) (fun _ _ => trivial) ?aB ?aS ?aL ?_
                   (case aO => exact Kd.R_alloc T.own _)
                   (case aR => exact ilit_C [m_] rfl (heap_alloc_new _ _) rfl (by decide))
                   (case aB => exact below_alloc T.bel _)
                   (case aS => exact (below_alloc T.bel _).size)
                   (case aL => omega)
                   intro v9 w9 hR9 hB9 hg9 hat9; clear hat9; obtain ⟨A9, c9, rfl⟩ := Kd.R_slice hR9; have hrow := blk_grown (blk_alloc T.row _) hg9 (Kd.R_ne T.own T.row (by decide)); have hout := blk_grown (blk_alloc T.out _) hg9 (Kd.R_ne T.own T.out (by decide)); obtain ⟨r0, r1, r2, r3, r4, r5⟩ := num_cells hrow; clear hg9))
              have e9 : (O ++ [m_]).length = O.length + 1 := by simp
              rw [e9] at hR9
              have hqm := HQ.out.1
              exact ⟨⟨q, O ++ [m_], _, rfl, hqm.2.2.2.1, by rw [e9]; exact HQ.out.2.1, by rw [e9]; have := HLEN.out; omega, by omega, hdj, ⟨by rw [e9]; exact HQ.out.2.2⟩, pow_push T hR9 hB9 hrow hout hoo⟩, by simp [intOf]; omega⟩
            · obtain rfl : z = 0 := by omega
              have d2 : decide ((0 : Int) < 0) = false := by decide
              have hOn : dval O = n := by have := HV.out; rw [Int.mul_zero, Int.add_zero] at this; exact this
              have HON := Aside0.mk hOn
              clear hOn hz1 hz2 hz0 hz HV
              go_wp2
              go_loopw [7, 8] (fun v7 v8 wq => ∃ i : Nat, i ≤ m ∧ v8 = .int .i64 i ∧ v7 = .int .i64 (2 ^ i) ∧ PowSt w wq o vO O e) (fun _ v8 _ => m - (intOf v8).toNat)
              case atStart => exact ⟨0, Nat.zero_le _, rfl, rfl, T⟩
              case round =>
                clear T
                obtain ⟨i, him, rfl, rfl, T⟩ := hrel
                by_cases hlt : i < m
                · have d3 : decide ((i : Int) < (m : Int)) = true := by simp; omega
                  have d4 : decide (i < m) = true := by simp; omega
                  have hp2 : (2 : Int) ^ i * 2 = 2 ^ (i + 1) := (Int.pow_succ _ _).symm
                  have hb2 : (2 : Int) ^ (i + 1) ≤ 2 ^ 24 := pow2_le (by omega)
                  have hb3 : (0 : Int) < 2 ^ (i + 1) := Int.pow_pos (by omega)
                  have i8 : IntKind.i64.wrap ((2 : Int) ^ i * 2) = 2 ^ (i + 1) := by rw [hp2]; exact wrapI _ (by omega) (by omega)
                  have i9 : IntKind.i64.wrap ((i : Int) + 1) = (i : Int) + 1 := wrapI _ (by omega) (by omega)
                  clear hp2 hb2 hb3
                  go_wp2
                  exact ⟨⟨i + 1, by omega, by go_num, rfl, T⟩, by simp [intOf]; omega⟩
                · obtain rfl : i = m := by omega
                  have d3 : decide ((i : Int) < (i : Int)) = false := by simp
                  have d4 : decide (i < i) = false := by simp
                  have hb2 : (2 : Int) ^ i ≤ 2 ^ 23 := pow2_le (by omega)
                  have hb3 : (0 : Int) < 2 ^ i := Int.pow_pos (by omega)
                  have hOl4 : O.length ≤ 3 := hOl
                  go_wp2
                  obtain ⟨tw, htw⟩ : ∃ tw : Int, tw = 2 ^ i := ⟨_, rfl⟩
                  rw [← htw] at hb2 hb3 ⊢
                  have HTW := Aside0.mk htw
                  clear htw
                  go_loopw [9, 10] (fun v9 v10 wq => ∃ (j : Nat) (c : Int) (xs : List Int), j ≤ O.length ∧ v10 = .int .i64 j ∧ v9 = .int .i64 c ∧ 0 ≤ c ∧ c < 16777216 ∧ Dig xs ∧ Aside0 (xs.length = O.length) ∧ Aside0 (∀ k : Nat, j ≤ k → rd xs (k : Int) = rd O (k : Int)) ∧ Aside0 (dval (xs.take j) + W j * c = tw * dval (O.take j)) ∧ PowSt w wq o vO xs e) (fun _ v10 _ => O.length - (intOf v10).toNat)
                  case atStart => exact ⟨0, 0, O, Nat.zero_le _, rfl, rfl, by omega, by omega, hOd, ⟨rfl⟩, ⟨fun _ _ => rfl⟩, ⟨by simp [dval]⟩, T⟩
                  case round =>
                    clear T
                    obtain ⟨j, c, xs, hj, rfl, rfl, hc0, hc1, hxd, HXL, HXS, HV, T⟩ := hrel
                    by_cases hjl : j < O.length
                    · obtain ⟨b, cap, rfl, hbase, hlt, hput, hcell, hfz, hbo⟩ := pow_row T (k := j) (by rw [HXL.out]; exact hjl)
                      rw [HXL.out]
                      have hxj := HXS.out j (Nat.le_refl _)
                      have hdo := rd_dig hOd (j : Int)
                      have htk := take_snoc hjl
                      rw [hxj] at hcell
                      generalize hdg : rd O (j : Int) = d at *
                      have hm0 : 0 ≤ d * tw := Int.mul_nonneg hdo.1 (by omega)
                      have hm1 : d * tw ≤ 16777215 * 16777215 := Int.mul_le_mul (by omega) (by omega) (by omega) (by omega)
                      have i5 : IntKind.i64.wrap (d * tw) = d * tw := wrapI _ (by omega) (by omega)
                      obtain ⟨v, hv⟩ : ∃ v, d * tw + c = v := ⟨_, rfl⟩
                      have i7 : IntKind.i64.wrap (d * tw + c) = v := by rw [wrapI _ (by omega) (by omega)]; exact hv
                      have hv0 : 0 ≤ v := by omega
                      obtain ⟨q, hq⟩ : ∃ q, q = v / 16777216 := ⟨_, rfl⟩
                      obtain ⟨m_, hm_⟩ : ∃ m, m = v % 16777216 := ⟨_, rfl⟩
                      have e6 : Int.tdiv v 16777216 = q := by rw [hq]; exact Int.tdiv_eq_ediv_of_nonneg hv0
                      have e7 : Int.tmod v 16777216 = m_ := by rw [hm_]; exact Int.tmod_eq_emod_of_nonneg hv0
                      have hqm : v = 16777216 * q + m_ ∧ 0 ≤ m_ ∧ m_ < 16777216 ∧ 0 ≤ q ∧ q < 16777216 := by omega
                      have i8 : IntKind.i64.wrap q = q := wrapI _ (by omega) (by omega)
                      have i9 : IntKind.i64.wrap m_ = m_ := wrapI _ (by omega) (by omega)
                      have i10 : IntKind.i64.wrap ((j : Int) + 1) = (j : Int) + 1 := wrapI _ (by omega) (by omega)
                      have d5 : decide ((j : Int) < (O.length : Int)) = true := by simp; omega
                      have d6 : decide (j < O.length) = true := by simp; omega
                      have hnx : dval ((xs.set j m_).take (j + 1)) + W (j + 1) * q = tw * dval (O.take (j + 1)) := by
                        have h1 : j < (xs.set j m_).length := by rw [List.length_set, HXL.out]; exact hjl
                        rw [take_snoc h1, rd_set (by rw [HXL.out]; exact hjl), if_pos rfl, List.take_set_of_le (Nat.le_refl _), htk, W_succ]
                        have := HV.out
                        rw [Int.mul_add, ← this, show m_ = d * tw + c - 16777216 * q from by omega]
                        grind
                      have HNX := Aside0.mk (And.intro hnx hqm)
                      have HPUT := Aside0.mk (hput m_)
                      have HFF := Aside0.mk (And.intro hdg hv)
                      obtain ⟨r0, r1, r2, r3, r4, r5⟩ := num_cells T.row
                      rw [HXL.out] at r1
                      clear hnx hqm hput hdg hv hq hm_ hxj htk hm0 hm1 hdo T
                      go_wp2
                      have hqm := HNX.out.2
                      exact ⟨⟨j + 1, q, xs.set j m_, by omega, by go_num, rfl, hqm.2.2.2.1, hqm.2.2.2.2, dig_set hxd hqm.2.1 hqm.2.2.1, ⟨by rw [List.length_set]; exact HXL.out⟩, ⟨fun k hk => by rw [rd_set (by rw [HXL.out]; exact hjl), if_neg (by omega)]; exact HXS.out k (by omega)⟩, ⟨HNX.out.1⟩, by have := HPUT.out; rw [HXL.out] at this; exact this⟩, by simp [intOf]; omega⟩
                    · obtain rfl : j = O.length := by omega
                      have d5 : decide ((O.length : Int) < (O.length : Int)) = false := by simp
                      have d6 : decide (O.length < O.length) = false := by simp
                      have hfin := HV.out
                      rw [List.take_of_length_le (by rw [HXL.out]; exact Nat.le_refl _), List.take_of_length_le (Nat.le_refl _), HON.out] at hfin
                      have hval : dval (xs ++ [c]) = tw * n := by rw [dval_snoc, HXL.out]; exact hfin
                      have hDg : Dig (xs ++ [c]) := hxd.join (fun x hx => by rw [List.mem_singleton.mp hx]; omega)
                      have hlx := HXL.out
                      have hl5 : (xs ++ [c]).length = O.length + 1 := by rw [List.length_append, hlx]; rfl
                      have HLX := Aside0.mk hlx
                      obtain ⟨Av, cv, rfl⟩ := Kd.R_slice T.own
                      rw [hlx] at T
                      obtain ⟨r0, r1, r2, r3, r4, r5⟩ := num_cells T.row
                      have HL5 := Aside0.mk hl5
                      have HVAL := Aside0.mk hval
                      clear hfin hval hlx hl5
                      have hxl4 : xs.length ≤ 4000000 := by rw [HLX.out]; omega
                      go_wp2_with (first
                        | (refine Kd.R_append_rows (Kd.int .i64) (w0 := w) w.heap.size (by rfl) (.tmp 70) (.tmp 72) 75 2 (.int .i64 0) 8 rfl Tryz.underlying75 infoD rfl (by decide) (by omega) _ xs [c] _ _ _ (fun _ => True) (fun _ => False) rfl rfl ?aO ?aR (fun _ _ h => h) (fun _ h => h.elim) (fun _ _ => trivial) ?aB ?aS ?aL ?_
                           (case aO => exact Kd.R_alloc T.own _)
                           (case aR => exact ilit_C [c] rfl (heap_alloc_new _ _) rfl (by decide))
                           (case aB => exact below_alloc T.bel _)
                           (case aS => exact (below_alloc T.bel _).size)
                           (case aL => omega)
                           intro v9 w9 hR9 hB9 hg9 hat9; clear hat9; obtain ⟨A9, c9, rfl⟩ := Kd.R_slice hR9; have hrow := blk_grown (blk_alloc T.row _) hg9 (Kd.R_ne T.own T.row (by decide)); have hout := blk_grown (blk_alloc T.out _) hg9 (Kd.R_ne T.own T.out (by decide)); obtain ⟨r0, r1, r2, r3, r4, r5⟩ := num_cells hrow; have e9 : (xs ++ [c]).length = xs.length + 1 := (by simp); rw [e9] at hR9; have T9 := pow_push T hR9 hB9 hrow hout hoo; obtain ⟨A', c', eA, hcA, hDA⟩ := dig_of_R T9.own; rw [e9] at eA hcA; injection eA with eA _ eC; subst eA eC; have ht := trim_call 1 e (xs ++ [c]) A9 c9 _ hDA.1 (by rw [e9]; exact hcA) hDg (.inl rfl) (B := B) (n := 1010) (by omega) (by rw [e9, HLX.out]; push_cast; omega) (by have := HK.out; omega) (by omega); rw [e9] at ht; have HT9 := Aside0.mk (And.intro T9 hDA); clear hg9 T9 hDA T hR9 e9)
                        | (go_at_call 125; (with_reducible refine ht.mono ?_); rintro u w5 ⟨v5, rfl, hN5, hb5⟩; have T5 := HT9.out.1.below hb5; have hD5 := HT9.out.2.below hb5; obtain ⟨S5, D5, E5, A5, c5, rfl, hC5, hc5, hW5⟩ := hN5.at hD5; obtain ⟨q0, q1, q2, q3, q4, q5⟩ := num_cells T5.out; have HW5 := Aside0.mk hW5; have HT5 := Aside0.mk T5; clear hN5 hD5 hW5 hb5 T5 ht))
                      refine bodyPost_ret (results_cell_row rfl _ _ w.heap.size 77 #[.int .i64 S5, .slice A5 D5.length c5, .int .i64 E5] (0, 0) _ rfl (num_put HT5.out.out) Tryz.underlying77 rfl (by kernel_rfl)) rfl ⟨_, rfl, ?_, below_put HT5.out.bel (by omega)⟩
                      have hxy : n * 2 ^ (24 * (B : Int) + k0).toNat = 1 * (W (e + B).toNat * dval (xs ++ [c])) := by
                        rw [HVAL.out, HTW.out, W_two, show (24 * (B : Int) + k0).toNat = 24 * (e + B).toNat + i from by have := HK.out; omega, Int.pow_add]; grind
                      rw [hxy]
                      exact ⟨S5, D5, E5, A5, c5, rfl, dig_put hC5 HT5.out.out, hc5, HW5.out⟩
end Go.Proofs.YtioahkblhekgpaaGreatDoor.Nw
