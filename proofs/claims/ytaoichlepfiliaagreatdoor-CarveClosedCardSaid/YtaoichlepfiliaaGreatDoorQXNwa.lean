/- Lemmas of Nwa. Conditions stand in each. -/
import Derived.Deep.RegionHeld3
import Derived.Test.YtaoichlepfiliaaGreatDoorQXLdx
import Derived.Test.YtaoichlepfiliaaGreatDoorQXMcj
import Derived.Test.YtaoichlepfiliaaGreatDoorQXMdH
set_option linter.unusedSimpArgs false
set_option linter.unusedVariables false
section
namespace Go.Proofs.YtaoichlepfiliaaGreatDoor.Nw
open Go.RowKit Go.Proofs.YtaoichlepfiliaaGreatDoor.FltP Go.Proofs.YtaoichlepfiliaaGreatDoor.R Go.Proofs.YtaoichlepfiliaaGreatDoor.E Go.Proofs.YtaoichlepfiliaaGreatDoor.O Go.Proofs.YtaoichlepfiliaaGreatDoorW.PrintWords Go.Proofs.YtaoichlepfiliaaGreatDoorW.PrintLast
open Go.Proofs.YtaoichlepfiliaaGreatDoor.NumP Go.Proofs.YtaoichlepfiliaaGreatDoor.Adm
theorem addr_block (a : Addr) (n : Nat) : (a.add n).block = a.block := by unfold Addr.add; split <;> rfl
def DigAt (w : World) (A : Option Addr) (D : List Int) : Prop := Kd.C (Kd.int .i64) w A D.length D ∧ (0 < D.length → ∃ ad, A = some ad ∧ ∃ cells fr, w.heap[ad.block]? = some (.cells cells 2 fr))
theorem DigAt.below {w w' : World} {A : Option Addr} {D : List Int} (h : DigAt w A D) (hb : Below w.heap.size w w') : DigAt w' A D := by
 refine ⟨Kd.C_below h.1 hb, fun hp => ?_⟩
 obtain ⟨ad, e, cells, fr, hh⟩ := h.2 hp
 exact ⟨ad, e, cells, fr, (hb.block _ (blk_lt hh)).trans hh⟩
theorem DigAt.far {w : World} {A : Option Addr} {D : List Int} (h : DigAt w A D) {g t : Nat} {cs : Array Value} {fr : Nat × Nat} (hg : w.heap[g]? = some (.cells cs t fr)) (ht : t ≠ 2) (k : Nat) (u : Value) : DigAt (w.setCell ⟨g, k, none⟩ u) A D := by
 have hne : ∀ ad, A = some ad → 0 < D.length → ad.block ≠ g := fun ad e hp hb => by
  obtain ⟨ad', e', cells, fr', hh⟩ := h.2 hp
  rw [e] at e'
  injection e' with e'
  subst e'
  rw [hb, hg] at hh
  injection hh with hh
  injection hh with _ hh _
  exact ht hh
 refine ⟨⟨h.1.1, h.1.2.1, fun hp => ?_⟩, fun hp => ?_⟩
 ·obtain ⟨ad, e, hc⟩ := h.1.2.2 hp
  refine ⟨ad, e, fun j q hq => ?_⟩
  obtain ⟨c, h1, h2, h3⟩ := hc j q hq
  refine ⟨c, h1, h2, fun i v hv => ?_⟩
  rw [World.cell?_setCell_far _ _ _ _ (by rw [addr_block]; exact fun e' => hne ad e hp e'.symm)]
  exact h3 i v hv
 ·obtain ⟨ad, e, cells, fr', hh⟩ := h.2 hp
  exact ⟨ad, e, cells, fr', (Below.heap_setCell w _ u ad.block (hne ad e hp)).trans hh⟩
theorem DigAt.nil (w : World) : DigAt w none [] := ⟨Kd.C_nil _ _, fun h => by simp at h⟩
theorem dig_of_R {w : World} {base : Nat} {ok : Nat → Prop} {v : Value} {D : List Int} (h : Kd.R (Kd.int .i64) 2 w base ok v D) : ∃ A c, v = .slice A D.length c ∧ D.length ≤ c ∧ DigAt w A D := by
 obtain ⟨A, c, rfl, hc, hC⟩ := Kd.R_reads h
 refine ⟨A, c, rfl, hc, hC, fun hp => ?_⟩
 obtain ⟨g, cap, e, -, -, cells, hh⟩ := Kd.R_form h hp
 injection e with e _ _
 exact ⟨_, e, cells, _, hh⟩
def NumAt (w : World) (v : Value) (B n : Nat) (x : Int) : Prop := ∃ (S : Int) (D : List Int) (E : Int) (A : Option Addr) (c : Nat), v = .agg #[.int .i64 S, .slice A D.length c, .int .i64 E] ∧ DigAt w A D ∧ D.length ≤ c ∧ Worth S D E B n x
def NumBy (P : World → Prop) (v : Value) (B n : Nat) (x : Int) : Prop := ∃ (S : Int) (D : List Int) (E : Int) (A : Option Addr) (c : Nat), v = .agg #[.int .i64 S, .slice A D.length c, .int .i64 E] ∧ (∀ W, P W → DigAt W A D) ∧ D.length ≤ c ∧ Worth S D E B n x ∧ (D = [] ∨ rd D 0 ≠ 0)
theorem NumBy.at {P : World → Prop} {v : Value} {B n : Nat} {x : Int} (h : NumBy P v B n x) {w : World} (hw : P w) : NumAt w v B n x := by
 obtain ⟨S, D, E, A, c, e, hC, hc, hW, -⟩ := h
 exact ⟨S, D, E, A, c, e, hC w hw, hc, hW⟩
theorem NumBy.zero (P : World → Prop) (B n : Nat) : NumBy P (.agg #[.int .i64 0, .slice none 0 0, .int .i64 0]) B n 0 := ⟨0, [], 0, none, 0, rfl, fun _ _ => DigAt.nil _, Nat.le_refl _, Worth.zero B n, .inl rfl⟩
theorem NumAt.below {w w' : World} {v : Value} {B n : Nat} {x : Int} (h : NumAt w v B n x) (hb : Below w.heap.size w w') : NumAt w' v B n x := by
 obtain ⟨S, D, E, A, c, e, hC, hc, hw⟩ := h
 exact ⟨S, D, E, A, c, e, hC.below hb, hc, hw⟩
theorem NumAt.zero (w : World) (B n : Nat) : NumAt w (.agg #[.int .i64 0, .slice none 0 0, .int .i64 0]) B n 0 := ⟨0, [], 0, none, 0, rfl, DigAt.nil _, Nat.le_refl _, Worth.zero B n⟩
theorem two_new (w : World) (a b : Obj) : ((w.alloc a).alloc b).heap[w.heap.size]? = some a ∧ ((w.alloc a).alloc b).heap[w.heap.size + 1]? = some b := by
 have h := blk_new (w.alloc a) b
 rw [show (w.alloc a).heap.size = w.heap.size + 1 from by simp] at h
 exact ⟨blk_alloc (blk_new w a) b, h⟩
theorem dval_top {D : List Int} {j : Nat} (h : j < D.length) (h0 : rd D (j : Int) = 0) : dval (D.take (j + 1)) = dval (D.take j) := by
 rw [rd, Int.toNat_natCast, List.getD_eq_getElem?_getD, List.getElem?_eq_getElem h] at h0
 rw [List.take_add_one, List.getElem?_eq_getElem h]
 simp only [Option.toList]
 rw [dval_snoc, show D[j] = 0 from h0, Int.mul_zero, Int.add_zero]
theorem num_cells {w : World} {g t : Nat} {x0 x1 x2 : Value} (h : w.heap[g]? = some (.cells #[x0, x1, x2] t (0, 0))) : w.cell? ⟨g, 0, none⟩ = some x0 ∧ w.cell? ⟨g, 1, none⟩ = some x1 ∧ w.cell? ⟨g, 2, none⟩ = some x2 ∧ w.frozen? ⟨g, 0, none⟩ = false ∧ w.frozen? ⟨g, 1, none⟩ = false ∧ w.frozen? ⟨g, 2, none⟩ = false :=
 ⟨(blk_cell h 0).trans rfl, (blk_cell h 1).trans rfl, (blk_cell h 2).trans rfl, blk_frozen h 0, blk_frozen h 1, blk_frozen h 2⟩
theorem num_put {w : World} {g t : Nat} {x0 x1 x2 y0 y1 y2 : Value} (h : w.heap[g]? = some (.cells #[x0, x1, x2] t (0, 0))) : (((w.setCell ⟨g, 0, none⟩ y0).setCell ⟨g, 1, none⟩ y1).setCell ⟨g, 2, none⟩ y2).heap[g]? = some (.cells #[y0, y1, y2] t (0, 0)) :=
 blk_put (blk_put (blk_put h 0 y0 rfl) 1 y1 rfl) 2 y2 rfl
def slLen : Value → Nat
 | .slice _ n _ => n
 | _ => 0
set_option maxRecDepth 100000 in
set_option maxHeartbeats 4000000 in
theorem trim_call (S E : Int) (D : List Int) (A : Option Addr) (c : Nat) (w : World) (hC : Kd.C (Kd.int .i64) w A D.length D) (hc : D.length ≤ c) (hd : Dig D) (hS : S = 1 ∨ S = -1) {B n : Nat} (hlo : -(n : Int) ≤ E) (hhi : E + D.length ≤ n) (hp : -(B : Int) ≤ E) (hn : n ≤ 400000) :
 Calls Tryz.prog 128 #[.agg #[.int .i64 S, .slice A D.length c, .int .i64 E]] w fun e w' => ∃ v, e = .returned v ∧ NumBy (fun W => DigAt W A D) v B n (S * (W (E + B).toNat * dval D)) ∧ Below w.heap.size w w' := by
 have hu := Tryz.underlying131
 obtain ⟨N, hN⟩ : ∃ N, N = D.length := ⟨_, rfl⟩
 have HD := Aside0.mk (And.intro hd hS)
 have HB := Aside0.mk (And.intro hlo hp)
 have HN := Aside0.mk hN
 rw [← hN] at hC hc hhi ⊢
 have hN0 := hC.2.1
 clear hN hd hS hlo hp
 go_enter Tryz.func128, Tryz.ntmps128
 have hk0 : ∀ W, Below w.heap.size w W → Kd.C (Kd.int .i64) W A N D := fun W h => Kd.C_below hC h
 go_upto_block 0 with (fail)
 go_cut [3] (fun v3 wr => ∃ m : Nat, m ≤ N ∧ v3 = .slice A m c ∧ Aside0 (dval (D.take m) = dval D) ∧ wr.cell? ⟨w.heap.size, 0, none⟩ = some (.int .i64 S) ∧ wr.heap[w.heap.size + 1]? = some (.cells #[.int .i64 0, .slice none 0 0, .int .i64 0] 131 (0, 0)) ∧ Below w.heap.size w wr)
 case first =>
  go_wp2
  go_loopw [3] (fun v3 wr => ∃ m : Nat, m ≤ N ∧ v3 = .slice A m c ∧ Aside0 (dval (D.take m) = dval D) ∧ wr.cell? ⟨w.heap.size, 0, none⟩ = some (.int .i64 S) ∧ wr.heap[w.heap.size + 1]? = some (.cells #[.int .i64 0, .slice none 0 0, .int .i64 0] 131 (0, 0)) ∧ Below w.heap.size w wr) (fun v3 _ => slLen v3)
  case atStart => exact ⟨N, Nat.le_refl _, rfl, ⟨by rw [HN.out, List.take_length]⟩, by simp, (two_new w _ _).2, below_alloc (below_alloc (Below.refl _ _) _) _⟩
  case round =>
   obtain ⟨m, hm, rfl, HV, hS0, hZ, hB⟩ := hrel
   have hCw := hk0 _ hB
   by_cases hm0 : 0 < m
   ·obtain ⟨j, hj⟩ : ∃ j, j = m - 1 := ⟨_, rfl⟩
    obtain ⟨b, o, rfl, hz⟩ := row_at hCw (by omega)
    have x0 := hz j (by omega)
    clear hz
    have i1 : IntKind.i64.wrap ((m : Int) - 1) = (j : Int) := by rw [wrapI _ (by omega) (by omega)]; omega
    have d1 : decide ((0 : Int) < (m : Int)) = true := by simp; omega
    have d2 : decide (0 < m) = true := by simp; omega
    have d3 : decide ((j : Int) < (m : Int)) = true := by simp; omega
    have d4 : decide (j < m) = true := by simp; omega
    have p1 : j < m := by omega
    have p2 : (j : Int) ≤ (c : Int) := by omega
    have d5 : decide ((j : Int) ≤ (c : Int)) = true := by simp; omega
    have d6 : decide (j ≤ c) = true := by simp; omega
    have hst : rd D (j : Int) = 0 → dval (D.take j) = dval D := fun h => by
     rw [← HV.out, show m = j + 1 from by omega, dval_top (by rw [← HN.out]; omega) h]
    have HJ := Aside0.mk hj
    have HST := Aside0.mk hst
    clear hj hst
    generalize rd D (j : Int) = x at *
    by_cases hx : x = 0
    ·subst hx
     go_wp2
     exact ⟨⟨j, by omega, rfl, ⟨HST.out rfl⟩, hS0, hZ, hB⟩, by simp [slLen]; omega⟩
    ·have e1 : (x == 0) = false := beq_eq_false_iff_ne.mpr hx
     clear hx
     go_wp2
     go_meet
     case rel => exact ⟨m, hm, rfl, HV, hS0, hZ, hB⟩
   ·obtain rfl : m = 0 := by omega
    go_wp2
    go_meet
    case rel => exact ⟨0, hm, rfl, HV, hS0, hZ, hB⟩
 case rest =>
  obtain ⟨m, hm, rfl, HV, hS0, hZ, hB⟩ := hcut
  have hCm : ∀ W, Kd.C (Kd.int .i64) W A N D → Kd.C (Kd.int .i64) W A (D.take m).length (D.take m) := fun W h => Kd.C_take (m := m) (by rw [← HN.out]; exact h) (by rw [← HN.out]; exact hm)
  obtain ⟨L, hL⟩ : ∃ L, L = D.take m := ⟨_, rfl⟩
  have hLl : m = L.length := by rw [hL, List.length_take, ← HN.out]; omega
  rw [← hL] at hCm HV
  have HL := Aside0.mk (show Dig L by rw [hL]; exact HD.out.1.take m)
  clear hL
  subst hLl
  have hmc : L.length ≤ c := Nat.le_trans hm hc
  go_upto_block 2 with (fail)
  go_cut [3, 4] (fun v3 v4 wr => ∃ (A' : Option Addr) (c' : Nat) (d : List Int) (t : Nat), v3 = .slice A' d.length c' ∧ v4 = .int .i64 (E + t) ∧ (∀ W, Kd.C (Kd.int .i64) W A N D → Kd.C (Kd.int .i64) W A' d.length d) ∧ (∀ ad', A' = some ad' → ∃ ad, A = some ad ∧ ad.block = ad'.block) ∧ d.length ≤ c' ∧ Dig d ∧ Aside0 (dval L = W t * dval d) ∧ t + d.length ≤ L.length ∧ (d = [] ∨ rd d 0 ≠ 0) ∧ wr.cell? ⟨w.heap.size, 0, none⟩ = some (.int .i64 S) ∧ wr.heap[w.heap.size + 1]? = some (.cells #[.int .i64 0, .slice none 0 0, .int .i64 0] 131 (0, 0)) ∧ Below w.heap.size w wr)
  case first =>
   go_wp2
   go_loopw [3, 4] (fun v3 v4 wr => ∃ (A' : Option Addr) (c' : Nat) (d : List Int) (t : Nat), v3 = .slice A' d.length c' ∧ v4 = .int .i64 (E + t) ∧ (∀ W, Kd.C (Kd.int .i64) W A N D → Kd.C (Kd.int .i64) W A' d.length d) ∧ (∀ ad', A' = some ad' → ∃ ad, A = some ad ∧ ad.block = ad'.block) ∧ d.length ≤ c' ∧ Dig d ∧ Aside0 (dval L = W t * dval d) ∧ t + d.length ≤ L.length ∧ wr.cell? ⟨w.heap.size, 0, none⟩ = some (.int .i64 S) ∧ wr.heap[w.heap.size + 1]? = some (.cells #[.int .i64 0, .slice none 0 0, .int .i64 0] 131 (0, 0)) ∧ Below w.heap.size w wr) (fun v3 _ _ => slLen v3)
   case atStart => exact ⟨A, c, L, 0, rfl, by simp, hCm, fun ad h => ⟨ad, h, rfl⟩, hmc, HL.out, ⟨by rw [W_zero, Int.one_mul]⟩, by omega, hS0, hZ, hB⟩
   case round =>
    clear hCm hmc hS0 hZ hB
    obtain ⟨A', c', d, t, rfl, rfl, hCm, hbk, hmc, hdg, HV2, htl, hS0, hZ, hB⟩ := hrel
    have HBK := Aside0.mk hbk
    clear hbk
    by_cases hd0 : d = []
    ·have hq := And.intro hCm (And.intro hmc (And.intro hdg (And.intro HV2 htl)))
     have HQ := Aside0.mk hq
     have HD0 := Aside0.mk hd0
     have hl0 : d.length = 0 := by rw [hd0]; rfl
     rw [hl0]
     clear hq hl0 hd0 hCm hmc hdg HV2 htl
     go_wp2
     go_meet
     case rel => exact ⟨A', c', d, t, by rw [HD0.out]; rfl, rfl, HQ.out.1, HBK.out, HQ.out.2.1, HQ.out.2.2.1, HQ.out.2.2.2.1, HQ.out.2.2.2.2, .inl HD0.out, hS0, hZ, hB⟩
    ·have hp : 0 < d.length := List.length_pos_iff.mpr hd0
     obtain ⟨b, o, rfl, hz⟩ := row_at (hCm _ (Kd.C_below hC hB)) hp
     have x0 := hz 0 hp
     clear hz hd0
     have hdr := fun W h => Kd.C_drop (m := 1) (hCm W h) (by omega) hmc
     simp only [List.length_drop] at hdr
     have hst : rd d ((0 : Nat) : Int) = 0 → dval L = W (t + 1) * dval (d.drop 1) := fun h => by
      rw [HV2.out, dval_zero_below d h (List.length_pos_iff.mp hp), W_succ]
      rw [← Int.mul_assoc, Int.mul_comm (W t)]
     have HST := Aside0.mk hst
     have HX := Aside0.mk (rfl : rd d ((0 : Nat) : Int) = rd d ((0 : Nat) : Int))
     have d1 : decide ((0 : Int) < (d.length : Int)) = true := by simp; omega
     have d2 : decide (0 < d.length) = true := by simp; omega
     have p1 : (1 : Int) ≤ (d.length : Int) := by omega
     have p2 : (d.length : Int) ≤ (c' : Int) := by omega
     have d3 : decide ((1 : Int) ≤ (d.length : Int)) = true := by simp; omega
     have d4 : decide (1 ≤ d.length) = true := by simp; omega
     have d5 : decide (d.length ≤ c') = true := by simp; omega
     have i1 : IntKind.i64.wrap (E + (t : Int) + 1) = E + (t : Int) + 1 := wrapI _ (by have := HB.out; omega) (by omega)
     clear hst
     rw [Nat.add_zero] at x0
     obtain ⟨x, hx⟩ : ∃ x, x = rd d ((0 : Nat) : Int) := ⟨_, rfl⟩
     rw [← hx] at x0
     have HXX := Aside0.mk hx
     clear hx
     by_cases hx : x = 0
     ·subst hx
      go_wp2
      exact ⟨⟨_, c' - 1, d.drop 1, t + 1, by rw [List.length_drop], by congr 1; push_cast; omega, by rw [List.length_drop]; exact hdr, fun ad' e => by
       obtain ⟨ad, e1, e2⟩ := HBK.out _ rfl
       refine ⟨ad, e1, e2.trans ?_⟩
       split at e <;> (injection e with e; rw [← e]), by rw [List.length_drop]; omega, hdg.drop 1, ⟨HST.out HXX.out.symm⟩, by rw [List.length_drop]; omega, hS0, hZ, hB⟩, by simp [slLen]; omega⟩
     ·have e1 : (x == 0) = false := beq_eq_false_iff_ne.mpr hx
      have HNE := Aside0.mk hx
      clear hx
      go_wp2
      go_meet
      case rel => exact ⟨_, c', d, t, rfl, rfl, hCm, HBK.out, hmc, hdg, HV2, htl, .inr (by have := HNE.out; rw [HXX.out] at this; exact this), hS0, hZ, hB⟩
  case rest =>
   clear hCm hmc hS0 hZ hB
   obtain ⟨A', c', d, t, rfl, rfl, hCm, hbk, hmc, hdg, HV2, htl, hd0, hS0, hZ, hB⟩ := hcut
   have HBK := Aside0.mk hbk
   clear hbk
   have hval : S * (W (E + B).toNat * dval D) = S * (W (E + t + B).toNat * dval d) := by
    rw [← HV.out, HV2.out, show (E + t + B).toNat = (E + B).toNat + t from by have := HB.out; omega, W_add]
    simp only [Int.mul_assoc]
   obtain ⟨z0, z1, z2, f0, f1, f2⟩ := num_cells hZ
   have HVAL := Aside0.mk hval
   clear hval
   by_cases hd : d = []
   ·have HD0 := Aside0.mk (show dval d = 0 by rw [hd]; rfl)
    have hl0 : d.length = 0 := by rw [hd]; rfl
    rw [hl0]
    clear hd0 hd hl0 hCm hmc hdg
    go_wp2
    refine bodyPost_ret (results_cell_row rfl _ _ (w.heap.size + 1) 131 #[.int .i64 0, .slice none 0 0, .int .i64 0] (0, 0) _ rfl (num_put hZ) Tryz.underlying131 rfl (by kernel_rfl)) rfl ⟨_, rfl, ?_, ((hB.setCell (p := ⟨w.heap.size + 1, 0, none⟩) (by show w.heap.size ≤ w.heap.size + 1; omega) _).setCell (p := ⟨w.heap.size + 1, 1, none⟩) (by show w.heap.size ≤ w.heap.size + 1; omega) _).setCell (p := ⟨w.heap.size + 1, 2, none⟩) (by show w.heap.size ≤ w.heap.size + 1; omega) _⟩
    rw [HVAL.out, HD0.out, Int.mul_zero, Int.mul_zero]
    exact NumBy.zero _ _ _
   ·have hp : 0 < d.length := List.length_pos_iff.mpr hd
    have e1 : ((d.length : Int) == 0) = false := beq_eq_false_iff_ne.mpr (by omega)
    have e2 : (d.length == 0) = false := beq_eq_false_iff_ne.mpr (by omega)
    have HX := Aside0.mk (hd0.resolve_left hd)
    clear hd hd0
    go_wp2
    refine bodyPost_ret (results_cell_row rfl _ _ (w.heap.size + 1) 131 #[.int .i64 S, .slice A' d.length c', .int .i64 (E + t)] (0, 0) _ rfl (num_put hZ) Tryz.underlying131 rfl (by kernel_rfl)) rfl ⟨_, rfl, ?_, ((hB.setCell (p := ⟨w.heap.size + 1, 0, none⟩) (by show w.heap.size ≤ w.heap.size + 1; omega) _).setCell (p := ⟨w.heap.size + 1, 1, none⟩) (by show w.heap.size ≤ w.heap.size + 1; omega) _).setCell (p := ⟨w.heap.size + 1, 2, none⟩) (by show w.heap.size ≤ w.heap.size + 1; omega) _⟩
    rw [HVAL.out]
    refine ⟨S, d, E + t, A', c', rfl, fun W h => ?_, hmc, Worth.mk' hdg HD.out.2 (by have := HB.out; omega) (by omega) (by have := HB.out; omega) ?_, .inr HX.out⟩
    ·refine ⟨hCm W (by rw [HN.out]; exact h.1), fun hp' => ?_⟩
     have hp0 := (hCm W (by rw [HN.out]; exact h.1)).2.2 hp'
     obtain ⟨ad', e', -⟩ := hp0
     obtain ⟨ad, e1, e2⟩ := HBK.out ad' e'
     obtain ⟨ad2, e3, cells, fr, hh⟩ := h.2 (by rw [← HN.out]; omega)
     rw [e1] at e3
     injection e3 with e3
     subst e3
     exact ⟨ad', e', cells, fr, by rw [← e2]; exact hh⟩
    intro h
    have := dval_zero hdg h
    apply HX.out
    rw [rd, List.getD_eq_getElem?_getD, List.getElem?_eq_getElem (by simpa using hp)]
    exact this _ (List.getElem_mem _)
set_option maxRecDepth 100000 in
set_option maxHeartbeats 4000000 in
theorem digit_call (S E i : Int) (D : List Int) (A : Option Addr) (c : Nat) (w : World) (hC : Kd.C (Kd.int .i64) w A D.length D) (hl : D.length ≤ 1000000) (hE : -1000000 ≤ E) (hE2 : E ≤ 1000000) (hi : -4000000 ≤ i) (hi2 : i ≤ 4000000) :
 Calls Tryz.prog 192 #[.agg #[.int .i64 S, .slice A D.length c, .int .i64 E], .int .i64 i] w fun e w' => e = .returned (.int .i64 (dig D E i)) ∧ Below w.heap.size w w' := by
 have hu := Tryz.underlying131
 have i1 : IntKind.i64.wrap (E + (D.length : Int)) = E + (D.length : Int) := wrapI _ (by omega) (by omega)
 by_cases h1 : i < E
 ·have d1 : decide (i < E) = true := decide_eq_true h1
  have HR := Aside0.mk (show dig D E i = 0 by unfold dig; rw [if_pos (.inl h1)])
  clear h1
  go_enter Tryz.func192, Tryz.ntmps192
  go_wp2
  go_ret
  exact ⟨by rw [HR.out]; rfl, below_alloc (Below.refl _ _) _⟩
 ·have d1 : decide (i < E) = false := decide_eq_false h1
  by_cases h2 : E + (D.length : Int) ≤ i
  ·have d2 : decide (E + (D.length : Int) ≤ i) = true := decide_eq_true h2
   have HR := Aside0.mk (show dig D E i = 0 by unfold dig; rw [if_pos (.inr h2)])
   clear h1 h2
   go_enter Tryz.func192, Tryz.ntmps192
   go_wp2
   go_ret
   exact ⟨by rw [HR.out]; rfl, below_alloc (Below.refl _ _) _⟩
  ·have d2 : decide (E + (D.length : Int) ≤ i) = false := decide_eq_false h2
   obtain ⟨j, hj⟩ : ∃ j : Nat, i - E = j := ⟨(i - E).toNat, by omega⟩
   have hjl : j < D.length := by omega
   obtain ⟨b, o, rfl, hz⟩ := row_at hC (by omega)
   have x0 := bcell (below_alloc (Below.refl _ _) (.cells #[.int .i64 S, .slice (some ⟨b, o, none⟩) D.length c, .int .i64 E] 131)) (hz j hjl)
   have i2 : IntKind.i64.wrap (i - E) = (j : Int) := by rw [hj]; exact wrapI _ (by omega) (by omega)
   have d3 : decide ((j : Int) < (D.length : Int)) = true := by simp; omega
   have d4 : decide (j < D.length) = true := by simp; omega
   have HR := Aside0.mk (show dig D E i = rd D (j : Int) by unfold dig; rw [if_neg (by omega), hj])
   clear h1 h2 hj hz
   generalize rd D (j : Int) = x at *
   go_enter Tryz.func192, Tryz.ntmps192
   go_wp2
   go_ret
   exact ⟨by rw [HR.out]; rfl, below_alloc (Below.refl _ _) _⟩
theorem lead_step {n : Nat} {p q x y : Int} (hp : 0 ≤ p ∧ p < W n) (hq : 0 ≤ q ∧ q < W n) (h : x < y) : p + W n * x < q + W n * y := by
 have hw := W_pos n
 have := Int.mul_le_mul_of_nonneg_left (show x + 1 ≤ y by omega) (Int.le_of_lt hw)
 rw [Int.mul_add] at this
 omega
set_option maxRecDepth 100000 in
set_option maxHeartbeats 4000000 in
theorem size_call (S1 E1 : Int) (D1 : List Int) (A1 : Option Addr) (c1 : Nat) (S2 E2 : Int) (D2 : List Int) (A2 : Option Addr) (c2 : Nat) (w : World) (hC1 : Kd.C (Kd.int .i64) w A1 D1.length D1) (hC2 : Kd.C (Kd.int .i64) w A2 D2.length D2) (hd1 : Dig D1) (hd2 : Dig D2) {B n : Nat} (hn : n ≤ 400000)
 (hB1 : -(B : Int) ≤ E1) (hB2 : -(B : Int) ≤ E2) (l1 : -(n : Int) ≤ E1) (l2 : -(n : Int) ≤ E2) (u1 : E1 + D1.length ≤ n) (u2 : E2 + D2.length ≤ n) :
 Calls Tryz.prog 191 #[.agg #[.int .i64 S1, .slice A1 D1.length c1, .int .i64 E1], .agg #[.int .i64 S2, .slice A2 D2.length c2, .int .i64 E2]] w fun e w' => ∃ r : Int, e = .returned (.int .i64 r) ∧ (r < 0 ↔ W (E1 + B).toNat * dval D1 < W (E2 + B).toNat * dval D2) ∧ Below w.heap.size w w' := by
 have hu := Tryz.underlying131
 obtain ⟨b, hb⟩ : ∃ b, b = min E1 E2 := ⟨_, rfl⟩
 obtain ⟨m, hm⟩ : ∃ m : Nat, max (E1 + (D1.length : Int)) (E2 + D2.length) = b + m := ⟨(max (E1 + (D1.length : Int)) (E2 + D2.length) - b).toNat, by omega⟩
 have hres : ∀ z : Int, (z < 0 ↔ dpart D1 E1 b m < dpart D2 E2 b m) → (z < 0 ↔ W (E1 + B).toNat * dval D1 < W (E2 + B).toNat * dval D2) := fun z hz => by
  rw [hz, dpart_all D1 E1 b m (by omega) (by omega), dpart_all D2 E2 b m (by omega) (by omega), show (E1 + (B : Int)).toNat = (b + B).toNat + (E1 - b).toNat from by omega, show (E2 + (B : Int)).toNat = (b + B).toNat + (E2 - b).toNat from by omega, W_add, W_add, Int.mul_assoc, Int.mul_assoc]
  exact (Int.mul_lt_mul_left (W_pos _)).symm
 have i1 : IntKind.i64.wrap (E1 + (D1.length : Int)) = E1 + (D1.length : Int) := wrapI _ (by omega) (by omega)
 have i2 : IntKind.i64.wrap (E2 + (D2.length : Int)) = E2 + (D2.length : Int) := wrapI _ (by omega) (by omega)
 have hg1 := fun i W h a b => digit_call S1 E1 i D1 A1 c1 W h (by omega) (by omega) (by omega) a b
 have hg2 := fun i W h a b => digit_call S2 E2 i D2 A2 c2 W h (by omega) (by omega) (by omega) a b
 go_enter Tryz.func191, Tryz.ntmps191
 go_wp2
 rw [← hb]
 have HBM := Aside0.mk (And.intro hb hm)
 have HRES := Aside0.mk hres
 have hbd : -400000 ≤ b ∧ b + (m : Int) ≤ 400000 ∧ b ≤ E1 ∧ b ≤ E2 := by omega
 obtain ⟨hb1, hb2, hb3, hb4⟩ := hbd
 clear hb hm hres
 go_loopw [7] (fun v7 wr => ∃ j : Nat, j ≤ m ∧ v7 = .int .i64 (b + (j : Int) - 1) ∧ Aside0 (dpart D1 E1 b m < dpart D2 E2 b m ↔ dpart D1 E1 b j < dpart D2 E2 b j) ∧ (wr.cell? ⟨w.heap.size, 0, none⟩ = some (.int .i64 S1) ∧ wr.cell? ⟨w.heap.size, 1, none⟩ = some (.slice A1 D1.length c1) ∧ wr.cell? ⟨w.heap.size, 2, none⟩ = some (.int .i64 E1) ∧ wr.cell? ⟨w.heap.size + 1, 0, none⟩ = some (.int .i64 S2) ∧ wr.cell? ⟨w.heap.size + 1, 1, none⟩ = some (.slice A2 D2.length c2) ∧ wr.cell? ⟨w.heap.size + 1, 2, none⟩ = some (.int .i64 E2)) ∧ Below w.heap.size w wr) (fun v7 _ => (intOf v7 - b + 1).toNat)
 case atStart => exact ⟨m, Nat.le_refl _, rfl, ⟨Iff.rfl⟩, by simp, below_alloc (below_alloc (Below.refl _ _) _) _⟩
 case round =>
  obtain ⟨j, hj, rfl, HV, ⟨x0, x1, x2, y0, y1, y2⟩, hB⟩ := hrel
  by_cases hj0 : 0 < j
  ·obtain ⟨k, hk⟩ : ∃ k : Nat, j = k + 1 := ⟨j - 1, by omega⟩
   have e0 : b + (j : Int) - 1 = b + (k : Int) := by omega
   rw [e0]
   have HV2 := HV.out
   rw [hk] at HV2
   simp only [dpart] at HV2
   have p1 := dpart_bd hd1 E1 b k
   have p2 := dpart_bd hd2 E2 b k
   have ha := fun W h => hg1 (b + (k : Int)) W h (by omega) (by omega)
   have hb_ := fun W h => hg2 (b + (k : Int)) W h (by omega) (by omega)
   have t1 := @lead_step k (dpart D1 E1 b k) (dpart D2 E2 b k) (dig D1 E1 (b + (k : Int))) (dig D2 E2 (b + (k : Int))) p1 p2
   have t2 := @lead_step k (dpart D2 E2 b k) (dpart D1 E1 b k) (dig D2 E2 (b + (k : Int))) (dig D1 E1 (b + (k : Int))) p2 p1
   generalize dig D1 E1 (b + (k : Int)) = x at *
   generalize dig D2 E2 (b + (k : Int)) = y at *
   have hk1 := fun W h => ha W (Kd.C_below hC1 h)
   have hk2 := fun W h => hb_ W (Kd.C_below hC2 h)
   have d1 : decide (b ≤ b + (k : Int)) = true := by simp; omega
   have i3 : IntKind.i64.wrap (b + (k : Int) - 1) = b + (k : Int) - 1 := wrapI _ (by omega) (by omega)
   have HK := Aside0.mk (And.intro hk e0)
   have HV3 := Aside0.mk HV2
   have HT := Aside0.mk (And.intro t1 t2)
   clear hk e0 HV2 ha hb_ t1 t2 p1 p2
   rcases Int.lt_trichotomy x y with h | h | h
   ·have d2 : decide (y < x) = false := by simp; omega
    have d3 : decide (x < y) = true := by simp; omega
    have HL := Aside0.mk h
    clear h
    go_wp2_with (first
     | (go_at_call 192; (with_reducible refine (hk1 _ hB).mono ?_); rintro u w3 ⟨rfl, hb3⟩; replace y0 := bcell hb3 y0; replace y1 := bcell hb3 y1; replace y2 := bcell hb3 y2; have hB3 := hB.trans (hb3.mono hB.size); clear hb3 hk1)
     | (go_at_call 192; (with_reducible refine (hk2 _ hB3).mono ?_); rintro u w4 ⟨rfl, hb4⟩; have hB4 := hB3.trans (hb4.mono hB3.size); clear hb4 hk2))
    go_ret
    exact ⟨-1, rfl, HRES.out _ ⟨fun _ => HV3.out.mpr (HT.out.1 HL.out), fun _ => by decide⟩, hB4⟩
   ·subst h
    have d2 : decide (x < x) = false := by simp
    go_wp2_with (first
     | (go_at_call 192; (with_reducible refine (hk1 _ hB).mono ?_); rintro u w3 ⟨rfl, hb3⟩; replace x0 := bcell hb3 x0; replace x1 := bcell hb3 x1; replace x2 := bcell hb3 x2; replace y0 := bcell hb3 y0; replace y1 := bcell hb3 y1; replace y2 := bcell hb3 y2; have hB3 := hB.trans (hb3.mono hB.size); clear hb3 hk1)
     | (go_at_call 192; (with_reducible refine (hk2 _ hB3).mono ?_); rintro u w4 ⟨rfl, hb4⟩; replace x0 := bcell hb4 x0; replace x1 := bcell hb4 x1; replace x2 := bcell hb4 x2; replace y0 := bcell hb4 y0; replace y1 := bcell hb4 y1; replace y2 := bcell hb4 y2; have hB4 := hB3.trans (hb4.mono hB3.size); clear hb4 hk2))
    exact ⟨⟨k, by have := HK.out.1; omega, rfl, ⟨by have := HV3.out; omega⟩, ⟨x0, x1, x2, y0, y1, y2⟩, hB4⟩, by simp [intOf]; have := HK.out.1; omega⟩
   ·have d2 : decide (y < x) = true := by simp; omega
    have HL := Aside0.mk h
    clear h
    go_wp2_with (first
     | (go_at_call 192; (with_reducible refine (hk1 _ hB).mono ?_); rintro u w3 ⟨rfl, hb3⟩; replace y0 := bcell hb3 y0; replace y1 := bcell hb3 y1; replace y2 := bcell hb3 y2; have hB3 := hB.trans (hb3.mono hB.size); clear hb3 hk1)
     | (go_at_call 192; (with_reducible refine (hk2 _ hB3).mono ?_); rintro u w4 ⟨rfl, hb4⟩; have hB4 := hB3.trans (hb4.mono hB3.size); clear hb4 hk2))
    go_ret
    exact ⟨1, rfl, HRES.out _ ⟨fun h => absurd h (by decide), fun h => absurd (HV3.out.mp h) (by have := HT.out.2 HL.out; omega)⟩, hB4⟩
  ·obtain rfl : j = 0 := by omega
   have d1 : decide (b ≤ b + ((0 : Nat) : Int) - 1) = false := by simp; omega
   have HV2 := HV.out
   simp only [dpart] at HV2
   have HV3 := Aside0.mk HV2
   clear HV2
   go_wp2
   go_ret
   exact ⟨0, rfl, HRES.out _ (by rw [HV3.out]), hB⟩
theorem ilit_C {w : World} {B t n : Nat} {arr : Array Value} (l : List Int) (ha : arr.toList = l.map (.int .i64)) (h : w.heap[B]? = some (.cells arr t (0, 0))) (hn : l.length = n) (hm : n ≤ 1000) : Kd.C (Kd.int .i64) w (some ⟨B, 0, none⟩) n l := by
 refine ⟨hn, by omega, fun _ => ⟨_, rfl, fun j p hj => ?_⟩⟩
 have hw : arr[j]? = some (.int .i64 p) := by rw [← Array.getElem?_toList, ha, List.getElem?_map, hj]; rfl
 refine ⟨[.int .i64 p], rfl, rfl, fun i u hi => ?_⟩
 have hs : (Kd.int .i64).sz = 1 := rfl
 rw [hs, Addr.add_lit]
 match i, hi with
 | 0, hi => simp at hi; subst hi; exact (blk_cell h (0 + (j * 1 + 0))).trans (by rw [Nat.zero_add, Nat.add_zero, Nat.mul_one]; exact hw)
 | i + 1, hi => simp at hi
theorem six_below2 {w w1 : World} {p1 p2 p3 p4 p5 p6 : Addr} {v1 v2 v3 v4 v5 v6 : Value} (hb : Below w.heap.size w w1) (h : w.cell? p1 = some v1 ∧ w.cell? p2 = some v2 ∧ w.cell? p3 = some v3 ∧ w.cell? p4 = some v4 ∧ w.cell? p5 = some v5 ∧ w.cell? p6 = some v6) :
 w1.cell? p1 = some v1 ∧ w1.cell? p2 = some v2 ∧ w1.cell? p3 = some v3 ∧ w1.cell? p4 = some v4 ∧ w1.cell? p5 = some v5 ∧ w1.cell? p6 = some v6 :=
 ⟨bcell hb h.1, bcell hb h.2.1, bcell hb h.2.2.1, bcell hb h.2.2.2.1, bcell hb h.2.2.2.2.1, bcell hb h.2.2.2.2.2⟩
theorem gp_wd {x : S} (h : gp x = true) : x.f0 < 2 ^ 64 ∧ x.f1 < 2 ^ 64 := ⟨(gp_good h).1.1.2, (gp_good h).2.1.2⟩
end Go.Proofs.YtaoichlepfiliaaGreatDoor.Nw
end
