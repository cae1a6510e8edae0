/- Lemmas of Mcn. Conditions stand in each. -/
import Derived.Test.YtaoichlepfiliaaGreatDoorQXMcm
set_option linter.unusedSimpArgs false
set_option linter.unusedVariables false
namespace Go.Proofs.YtaoichlepfiliaaGreatDoor.Msh
open Go.RowKit Go.Sort Go.ChangeMaps Go.MapKept Go.Proofs.YtaoichlepfiliaaGreatDoor.Mp Go.Proofs.YtaoichlepfiliaaGreatDoor.Adm Go.Proofs.YtaoichlepfiliaaGreatDoor.R Go.Proofs.YtaoichlepfiliaaGreatDoor.E Go.Proofs.YtaoichlepfiliaaGreatDoorW.PrintWords Go.Proofs.YtaoichlepfiliaaGreatDoorW.PrintLast
section
variable {w : World} {mb : Nat} {l : List S} {O F : List Tr} {M : Nat → Prop} {a b c : Int}
set_option maxRecDepth 100000 in
set_option maxHeartbeats 16000000 in
theorem make_on (h : MeshAt w mb l O F M) (ha : hasN l a = true) (hb : hasN l b = true) (hc : hasN l c = true) (hs : ¬ sgT l (a, b, c) ≤ 0) : Calls Tryz.prog 34 #[ptr mb, .int .i64 a, .int .i64 b, .int .i64 c] w (MakePost w mb l O F M (a, b, c)) := by
 have HH := Aside0.mk (And.intro h (And.intro ha (And.intro hb (And.intro hc hs))))
 have ca := has_call h a
 have cb := has_call h b
 have cc := has_call h c
 have e0 : ∀ i, decide (0 ≤ i ∧ i < (l.length : Int)) = hasN l i := fun _ => rfl
 rw [e0] at ca cb cc
 rw [ha] at ca
 rw [hb] at cb
 rw [hc] at cc
 obtain ⟨pa, a0, a1, ma⟩ := ptO_in ha
 obtain ⟨pb, b0, b1, mb'⟩ := ptO_in hb
 obtain ⟨pc, c0, c1, mc⟩ := ptO_in hc
 obtain ⟨A, cap, z0, hcap, hC⟩ := h.cell0
 have hgp : ∀ x ∈ l, gp x = true := by obtain ⟨_, _, _, _, _, _, _, _, q⟩ := h; exact q.good.1
 obtain ⟨ad, rfl, xa0, xa1⟩ := at_T71 hC a a0 a1
 obtain ⟨ad2, e2, xb0, xb1⟩ := at_T71 hC b b0 b1
 injection e2 with e2
 subst e2
 obtain ⟨ad3, e3, xc0, xc1⟩ := at_T71 hC c c0 c1
 injection e3 with e3
 subst e3
 have hsg := fun W => sign_any (hgp _ ma) (hgp _ mb') (hgp _ mc) W
 unfold sgT at hs
 simp only at hs
 rw [pa, pb, pc] at hsg hs
 generalize sgnS (rd_T71 l a) (rd_T71 l b) (rd_T71 l c) = sg at *
 have d0 : decide (sg ≤ 0) = false := decide_eq_false hs
 have da : decide (a < (l.length : Int)) = true := decide_eq_true a1
 have db : decide (b < (l.length : Int)) = true := decide_eq_true b1
 have dc : decide (c < (l.length : Int)) = true := decide_eq_true c1
 have hL : Aside0 (∀ W, Below w.heap.size w W → W.cell? ⟨mb, 0, none⟩ = some (.slice (some ad) l.length cap) ∧ W.cell? (ad.add (a.toNat * 2)) = some (.float .f64 (rd_T71 l a).f0) ∧ W.cell? ⟨(ad.add (a.toNat * 2)).block, (ad.add (a.toNat * 2)).off + 1, none⟩ = some (.float .f64 (rd_T71 l a).f1) ∧ W.cell? (ad.add (b.toNat * 2)) = some (.float .f64 (rd_T71 l b).f0) ∧ W.cell? ⟨(ad.add (b.toNat * 2)).block, (ad.add (b.toNat * 2)).off + 1, none⟩ = some (.float .f64 (rd_T71 l b).f1) ∧ W.cell? (ad.add (c.toNat * 2)) = some (.float .f64 (rd_T71 l c).f0) ∧ W.cell? ⟨(ad.add (c.toNat * 2)).block, (ad.add (c.toNat * 2)).off + 1, none⟩ = some (.float .f64 (rd_T71 l c).f1)) :=
  ⟨fun W hb => ⟨bcell hb z0, bcell hb xa0, bcell hb xa1, bcell hb xb0, bcell hb xb1, bcell hb xc0, bcell hb xc1⟩⟩
 have hl20 : l.length ≤ 1048576 := by obtain ⟨_, _, _, _, _, _, _, _, q⟩ := h; exact q.good.2
 have wa := has_w64 hl20 ha
 have wb := has_w64 hl20 hb
 have wc := has_w64 hl20 hc
 obtain ⟨A2, cp2, ab, sb, fb, f, g, s, hIn⟩ := h
 have HI := Aside0.mk hIn
 have z1 : w.cell? ⟨mb, 1, none⟩ = some (.map (some ab)) := by rw [blk_cell hIn.blk]; rfl
 have HLK : Aside0 (∀ x y, W64 x → W64 y → ∀ W, Below w.heap.size w W → (Instr.lookup 87 (.map (some ab)) (.agg #[.int .i64 x, .int .i64 y]) true).run Tryz.prog W = .ok (.tuple #[.int .i64 ((behind O x y).getD 0), .bool (behind O x y).isSome]) W) := ⟨fun x y hx hy W hb => by
  have hm := (hIn.apex.below hb).lookup (w := W) kE Tryz.underlying87 (zeroI W) (x := (x, y)) ⟨hx, hy⟩ true
  have e : f (x, y) = (behind O x y).map (Value.int .i64) := hIn.apx.ask hIn.mesh x y
  rw [e] at hm
  cases q : behind O x y <;> rw [q] at hm <;> exact hm⟩
 clear hIn
 have HW := Aside0.mk (And.intro wa (And.intro wb (And.intro wc hl20)))
 have har := fun w => around_call a b c w
 have hi0 := fun W => idxE0 a b c W
 have hi1 := fun W => idxE1 a b c W
 have hi2 := fun W => idxE2 a b c W
 clear wa wb wc hl20
 clear e0 ha hb hc hs xa0 xa1 xb0 xb1 xc0 xc1 pa pb pc ma mb' mc hgp hC
 go_enter Tryz.func34, Tryz.ntmps34
 go_upto_region 5 with (first | (go_at_call 66; (with_reducible refine ca.mono ?_); rintro u_ w5 ⟨rfl, rfl⟩) | (go_at_call 66; (with_reducible refine cb.mono ?_); rintro u_ w5 ⟨rfl, rfl⟩) | (go_at_call 66; (with_reducible refine cc.mono ?_); rintro u_ w5 ⟨rfl, rfl⟩))
 go_region_held3 (fun W => W.cell? ⟨mb, 0, none⟩ = some (.slice (some ad) l.length cap) ∧ W.cell? (ad.add (a.toNat * 2)) = some (.float .f64 (rd_T71 l a).f0) ∧ W.cell? ⟨(ad.add (a.toNat * 2)).block, (ad.add (a.toNat * 2)).off + 1, none⟩ = some (.float .f64 (rd_T71 l a).f1) ∧ W.cell? (ad.add (b.toNat * 2)) = some (.float .f64 (rd_T71 l b).f0) ∧ W.cell? ⟨(ad.add (b.toNat * 2)).block, (ad.add (b.toNat * 2)).off + 1, none⟩ = some (.float .f64 (rd_T71 l b).f1) ∧ W.cell? (ad.add (c.toNat * 2)) = some (.float .f64 (rd_T71 l c).f0) ∧ W.cell? ⟨(ad.add (c.toNat * 2)).block, (ad.add (c.toNat * 2)).off + 1, none⟩ = some (.float .f64 (rd_T71 l c).f1))
  ((with_reducible refine heldB hL ?_; (repeat (first | assumption | exact Below.refl _ _ | apply below_drew1 | apply below_alloc | apply pw_below_drewN))))
  ((go_at_call 67; (with_reducible refine (hsg _).mono ?_); rintro u_ w5 ⟨rfl, hb5⟩; have hB5 := below_step (w := w) (by (with_reducible (repeat (first | assumption | exact Below.refl _ _ | apply below_drew1 | apply below_alloc | apply pw_below_drewN)))) hb5; clear hb5))
 all_goals
  go_wp2_with (go_at_call 68; (with_reducible refine (har _).mono ?_); rintro u_ w6 ⟨rfl, hg6⟩)
  have hB6 := hB5.trans (hg6.below.mono hB5.size)
  obtain ⟨W2, hW2⟩ : ∃ W2, W2 = w6.alloc (.cells #[.int .i64 a, .int .i64 b, .int .i64 b, .int .i64 c, .int .i64 c, .int .i64 a] 109) := ⟨_, rfl⟩
  have hB2 : Below w.heap.size w W2 := by rw [hW2]; exact below_alloc hB6 _
  have hbx : W2.heap[w6.heap.size]? = some (.cells #[.int .i64 a, .int .i64 b, .int .i64 b, .int .i64 c, .int .i64 c, .int .i64 a] 109 (0, 0)) := by rw [hW2]; exact blk_new _ _
  rw [← hW2]
  have HB2 := Aside0.mk hB2
  have HBX := Aside0.mk (And.intro hbx hB6.size)
  have HSZ : Aside0 (w6.heap.size < W2.heap.size) := ⟨blk_lt hbx⟩
  have y0 := blk_cell hbx 0
  clear hW2 hB2 hB6 hbx hB5 hg6
  generalize w6.heap.size = B9 at *
  clear y0
  go_loopw [65] (fun v65 wr => ∃ k : Nat, k ≤ 3 ∧ v65 = .int .i64 k ∧ Aside0 (Gr W2 wr) ∧ Aside0 ((0 < k → behind O a b = none) ∧ (1 < k → behind O b c = none) ∧ (2 < k → behind O c a = none))) (fun v65 _ => 3 - (intOf v65).toNat)
  case atStart => exact ⟨0, by omega, rfl, ⟨Gr.refl _⟩, ⟨by omega, by omega, by omega⟩⟩
  case round =>
   obtain ⟨k, hk, rfl, HG, HF⟩ := hrel
   rcases (show k = 0 ∨ k = 1 ∨ k = 2 ∨ k = 3 by omega) with rfl | rfl | rfl | rfl
   ·have hX : Gr W2 (wr.alloc (.cells #[.int .i64 a, .int .i64 b] 91)) := HG.out.alloc _
    have hL1 : Aside0 (∀ W, Below (wr.alloc (.cells #[.int .i64 a, .int .i64 b] 91)).heap.size (wr.alloc (.cells #[.int .i64 a, .int .i64 b] 91)) W → W.cell? ⟨mb, 1, none⟩ = some (.map (some ab)) ∧ W.cell? ⟨wr.heap.size, 0, none⟩ = some (.int .i64 a) ∧ W.cell? ⟨wr.heap.size, 1, none⟩ = some (.int .i64 b) ∧ (Instr.lookup 87 (.map (some ab)) (.agg #[.int .i64 a, .int .i64 b]) true).run Tryz.prog W = .ok (.tuple #[.int .i64 ((behind O a b).getD 0), .bool (behind O a b).isSome]) W) :=
     ⟨fun W hb => by
      have hBW := (HB2.out.trans (hX.below.mono HB2.out.size)).trans (hb.mono (Nat.le_trans HB2.out.size hX.below.size))
      have hbl := hb.block wr.heap.size (by simp)
      rw [blk_new] at hbl
      exact ⟨bcell hBW z1, blk_cell hbl 0, blk_cell hbl 1, HLK.out a b HW.out.1 HW.out.2.1 W hBW⟩⟩
    by_cases hq : behind O a b = none
    ·have e1 : (behind O a b).getD 0 = 0 := by rw [hq]; rfl
     have e2 : (behind O a b).isSome = false := by rw [hq]; rfl
     rw [e1, e2] at hL1
     have HQ := Aside0.mk hq
     clear e1 e2 hq
     go_upto_region 11 with (fail)
     go_region_held3 (fun W => W.cell? ⟨mb, 1, none⟩ = some (.map (some ab)) ∧ W.cell? ⟨wr.heap.size, 0, none⟩ = some (.int .i64 a) ∧ W.cell? ⟨wr.heap.size, 1, none⟩ = some (.int .i64 b) ∧ (Instr.lookup 87 (.map (some ab)) (.agg #[.int .i64 a, .int .i64 b]) true).run Tryz.prog W = .ok (.tuple #[.int .i64 0, .bool false]) W)
      ((with_reducible refine heldB hL1 ?_; (repeat (first | assumption | exact Below.refl _ _ | apply below_drew1 | apply pw_below_drewN)))) (fail)
     all_goals
      go_wp2
      go_roundw
      case rel => exact ⟨1, by omega, rfl, ⟨hX.drew⟩, ⟨fun _ => HQ.out, fun h => by omega, fun h => by omega⟩⟩
      case measure => simp [intOf]
    ·have e2 : (behind O a b).isSome = true := by cases q : behind O a b <;> simp_all
     rw [e2] at hL1
     generalize hg : (behind O a b).getD 0 = gd at *
     clear hg e2
     have HQ := Aside0.mk hq
     clear hq
     go_upto_region 11 with (fail)
     go_region_held3 (fun W => W.cell? ⟨mb, 1, none⟩ = some (.map (some ab)) ∧ W.cell? ⟨wr.heap.size, 0, none⟩ = some (.int .i64 a) ∧ W.cell? ⟨wr.heap.size, 1, none⟩ = some (.int .i64 b) ∧ (Instr.lookup 87 (.map (some ab)) (.agg #[.int .i64 a, .int .i64 b]) true).run Tryz.prog W = .ok (.tuple #[.int .i64 gd, .bool true]) W)
      ((with_reducible refine heldB hL1 ?_; (repeat (first | assumption | exact Below.refl _ _ | apply below_drew1 | apply pw_below_drewN)))) (fail)
     all_goals
      go_wp2
      go_ret
      refine make_no HH.out.1 (e := 14) ?_ (by decide) (HB2.out.trans (hX.drew.below.mono HB2.out.size))
      unfold makeE
      rw [if_neg (by simp [HH.out.2.1, HH.out.2.2.1, HH.out.2.2.2.1]), if_neg (by have := HH.out.2.2.2.2; omega), if_neg (fun q => HQ.out q.1)]
   ·have hX : Gr W2 (wr.alloc (.cells #[.int .i64 b, .int .i64 c] 91)) := HG.out.alloc _
    have hL1 : Aside0 (∀ W, Below (wr.alloc (.cells #[.int .i64 b, .int .i64 c] 91)).heap.size (wr.alloc (.cells #[.int .i64 b, .int .i64 c] 91)) W → W.cell? ⟨mb, 1, none⟩ = some (.map (some ab)) ∧ W.cell? ⟨wr.heap.size, 0, none⟩ = some (.int .i64 b) ∧ W.cell? ⟨wr.heap.size, 1, none⟩ = some (.int .i64 c) ∧ (Instr.lookup 87 (.map (some ab)) (.agg #[.int .i64 b, .int .i64 c]) true).run Tryz.prog W = .ok (.tuple #[.int .i64 ((behind O b c).getD 0), .bool (behind O b c).isSome]) W) :=
     ⟨fun W hb => by
      have hBW := (HB2.out.trans (hX.below.mono HB2.out.size)).trans (hb.mono (Nat.le_trans HB2.out.size hX.below.size))
      have hbl := hb.block wr.heap.size (by simp)
      rw [blk_new] at hbl
      exact ⟨bcell hBW z1, blk_cell hbl 0, blk_cell hbl 1, HLK.out b c HW.out.2.1 HW.out.2.2.1 W hBW⟩⟩
    by_cases hq : behind O b c = none
    ·have e1 : (behind O b c).getD 0 = 0 := by rw [hq]; rfl
     have e2 : (behind O b c).isSome = false := by rw [hq]; rfl
     rw [e1, e2] at hL1
     have HQ := Aside0.mk hq
     clear e1 e2 hq
     go_upto_region 11 with (fail)
     go_region_held3 (fun W => W.cell? ⟨mb, 1, none⟩ = some (.map (some ab)) ∧ W.cell? ⟨wr.heap.size, 0, none⟩ = some (.int .i64 b) ∧ W.cell? ⟨wr.heap.size, 1, none⟩ = some (.int .i64 c) ∧ (Instr.lookup 87 (.map (some ab)) (.agg #[.int .i64 b, .int .i64 c]) true).run Tryz.prog W = .ok (.tuple #[.int .i64 0, .bool false]) W)
      ((with_reducible refine heldB hL1 ?_; (repeat (first | assumption | exact Below.refl _ _ | apply below_drew1 | apply pw_below_drewN)))) (fail)
     all_goals
      go_wp2
      go_roundw
      case rel => exact ⟨2, by omega, rfl, ⟨hX.drew⟩, ⟨fun _ => HF.out.1 (by omega), fun _ => HQ.out, fun h => by omega⟩⟩
      case measure => simp [intOf]
    ·have e2 : (behind O b c).isSome = true := by cases q : behind O b c <;> simp_all
     rw [e2] at hL1
     generalize hg : (behind O b c).getD 0 = gd at *
     clear hg e2
     have HQ := Aside0.mk hq
     clear hq
     go_upto_region 11 with (fail)
     go_region_held3 (fun W => W.cell? ⟨mb, 1, none⟩ = some (.map (some ab)) ∧ W.cell? ⟨wr.heap.size, 0, none⟩ = some (.int .i64 b) ∧ W.cell? ⟨wr.heap.size, 1, none⟩ = some (.int .i64 c) ∧ (Instr.lookup 87 (.map (some ab)) (.agg #[.int .i64 b, .int .i64 c]) true).run Tryz.prog W = .ok (.tuple #[.int .i64 gd, .bool true]) W)
      ((with_reducible refine heldB hL1 ?_; (repeat (first | assumption | exact Below.refl _ _ | apply below_drew1 | apply pw_below_drewN)))) (fail)
     all_goals
      go_wp2
      go_ret
      refine make_no HH.out.1 (e := 14) ?_ (by decide) (HB2.out.trans (hX.drew.below.mono HB2.out.size))
      unfold makeE
      rw [if_neg (by simp [HH.out.2.1, HH.out.2.2.1, HH.out.2.2.2.1]), if_neg (by have := HH.out.2.2.2.2; omega), if_neg (fun q => HQ.out q.2.1)]
   ·have hX : Gr W2 (wr.alloc (.cells #[.int .i64 c, .int .i64 a] 91)) := HG.out.alloc _
    have hL1 : Aside0 (∀ W, Below (wr.alloc (.cells #[.int .i64 c, .int .i64 a] 91)).heap.size (wr.alloc (.cells #[.int .i64 c, .int .i64 a] 91)) W → W.cell? ⟨mb, 1, none⟩ = some (.map (some ab)) ∧ W.cell? ⟨wr.heap.size, 0, none⟩ = some (.int .i64 c) ∧ W.cell? ⟨wr.heap.size, 1, none⟩ = some (.int .i64 a) ∧ (Instr.lookup 87 (.map (some ab)) (.agg #[.int .i64 c, .int .i64 a]) true).run Tryz.prog W = .ok (.tuple #[.int .i64 ((behind O c a).getD 0), .bool (behind O c a).isSome]) W) :=
     ⟨fun W hb => by
      have hBW := (HB2.out.trans (hX.below.mono HB2.out.size)).trans (hb.mono (Nat.le_trans HB2.out.size hX.below.size))
      have hbl := hb.block wr.heap.size (by simp)
      rw [blk_new] at hbl
      exact ⟨bcell hBW z1, blk_cell hbl 0, blk_cell hbl 1, HLK.out c a HW.out.2.2.1 HW.out.1 W hBW⟩⟩
    by_cases hq : behind O c a = none
    ·have e1 : (behind O c a).getD 0 = 0 := by rw [hq]; rfl
     have e2 : (behind O c a).isSome = false := by rw [hq]; rfl
     rw [e1, e2] at hL1
     have HQ := Aside0.mk hq
     clear e1 e2 hq
     go_upto_region 11 with (fail)
     go_region_held3 (fun W => W.cell? ⟨mb, 1, none⟩ = some (.map (some ab)) ∧ W.cell? ⟨wr.heap.size, 0, none⟩ = some (.int .i64 c) ∧ W.cell? ⟨wr.heap.size, 1, none⟩ = some (.int .i64 a) ∧ (Instr.lookup 87 (.map (some ab)) (.agg #[.int .i64 c, .int .i64 a]) true).run Tryz.prog W = .ok (.tuple #[.int .i64 0, .bool false]) W)
      ((with_reducible refine heldB hL1 ?_; (repeat (first | assumption | exact Below.refl _ _ | apply below_drew1 | apply pw_below_drewN)))) (fail)
     all_goals
      go_wp2
      go_roundw
      case rel => exact ⟨3, by omega, rfl, ⟨hX.drew⟩, ⟨fun _ => HF.out.1 (by omega), fun _ => HF.out.2.1 (by omega), fun _ => HQ.out⟩⟩
      case measure => simp [intOf]
    ·have e2 : (behind O c a).isSome = true := by cases q : behind O c a <;> simp_all
     rw [e2] at hL1
     generalize hg : (behind O c a).getD 0 = gd at *
     clear hg e2
     have HQ := Aside0.mk hq
     clear hq
     go_upto_region 11 with (fail)
     go_region_held3 (fun W => W.cell? ⟨mb, 1, none⟩ = some (.map (some ab)) ∧ W.cell? ⟨wr.heap.size, 0, none⟩ = some (.int .i64 c) ∧ W.cell? ⟨wr.heap.size, 1, none⟩ = some (.int .i64 a) ∧ (Instr.lookup 87 (.map (some ab)) (.agg #[.int .i64 c, .int .i64 a]) true).run Tryz.prog W = .ok (.tuple #[.int .i64 gd, .bool true]) W)
      ((with_reducible refine heldB hL1 ?_; (repeat (first | assumption | exact Below.refl _ _ | apply below_drew1 | apply pw_below_drewN)))) (fail)
     all_goals
      go_wp2
      go_ret
      refine make_no HH.out.1 (e := 14) ?_ (by decide) (HB2.out.trans (hX.drew.below.mono HB2.out.size))
      unfold makeE
      rw [if_neg (by simp [HH.out.2.1, HH.out.2.2.1, HH.out.2.2.2.1]), if_neg (by have := HH.out.2.2.2.2; omega), if_neg (fun q => HQ.out q.2.2)]
   ·have hbw := (HG.out.below.block B9 HSZ.out).trans HBX.out.1
    have y0 := (blk_cell hbw 0).trans (show _ = some (Value.int .i64 a) from rfl)
    have y1 := (blk_cell hbw 1).trans (show _ = some (Value.int .i64 b) from rfl)
    have y2 := (blk_cell hbw 2).trans (show _ = some (Value.int .i64 b) from rfl)
    have y3 := (blk_cell hbw 3).trans (show _ = some (Value.int .i64 c) from rfl)
    have y4 := (blk_cell hbw 4).trans (show _ = some (Value.int .i64 c) from rfl)
    have y5 := (blk_cell hbw 5).trans (show _ = some (Value.int .i64 a) from rfl)
    have hBr := HB2.out.trans (HG.out.below.mono HB2.out.size)
    have HGo : Going w W2 wr mb A2 cp2 ab sb fb l O f g M a b c B9 0 s := ⟨((HI.out.toRaw.below hBr).edges (fun _ _ q => q)).mono (fun q hq => .inl hq) (fun q hq => by
     rcases hq with q1 | q1
     ·have := HI.out.old q q1; have := hBr.size; omega
     ·exact q1.2), Fr.of_below hBr, hbw, HG.out.below.size⟩
    have HF3 : Aside0 (Free O (a, b, c)) := ⟨⟨HF.out.1 (by omega), HF.out.2.1 (by omega), HF.out.2.2 (by omega)⟩⟩
    have HB9 := Aside0.mk (And.intro HB2.out.size (And.intro HBX.out.2 HSZ.out))
    clear hbw hBr
    go_wp2
    clear HF HG y0 y1 y2 y3 y4 y5 HB2 HBX HSZ
    obtain ⟨z65, hz65⟩ : ∃ v, v = Value.int .i64 ((3 : Nat) : Int) := ⟨_, rfl⟩
    rw [← hz65]
    clear hz65
    go_loopw [80] (fun v80 wq => ∃ k : Nat, k ≤ 3 ∧ v80 = .int .i64 k ∧ ∃ s', Aside0 (Going w W2 wq mb A2 cp2 ab sb fb l O f g M a b c B9 k s')) (fun v80 _ => 3 - (intOf v80).toNat)
    case atStart => exact ⟨0, by omega, rfl, s, ⟨HGo⟩⟩
    case round =>
     clear HGo
     obtain ⟨k, hk, rfl, s', HR⟩ := hrel
     rcases (show k = 0 ∨ k = 1 ∨ k = 2 ∨ k = 3 by omega) with rfl | rfl | rfl | rfl
     ·have hX : Below wr.heap.size wr (World.drew (wr.alloc (.cells #[.int .i64 a, .int .i64 b] 91))) := below_drew1 (below_alloc (Below.refl _ _) _)
      have hmb1 : wr.cell? ⟨mb, 1, none⟩ = some (.map (some ab)) := by rw [blk_cell HR.out.raw.blk]; rfl
      have hmb2 : wr.cell? ⟨mb, 2, none⟩ = some (.map (some sb)) := by rw [blk_cell HR.out.raw.blk]; rfl
      have hb9 : wr.cell? ⟨B9, 3, none⟩ = some (.int .i64 c) := by rw [blk_cell HR.out.box]; rfl
      have hU := (HR.out.raw.below hX).apex.update kE Tryz.underlying87 (x := (a, b)) ⟨HW.out.1, HW.out.2.1⟩ (.int .i64 c)
      obtain ⟨ob, hrun, hmf⟩ := hU
      have HM := Aside0.mk hmf
      clear hmf
      simp only [encE] at hrun
      have n1 : mb ≠ ab := fun e => by
       obtain ⟨o, hb, hn⟩ := map_obj HR.out.raw.apex
       rw [← e, HR.out.raw.blk] at hb
       injection hb with hb
       exact hn _ _ _ hb.symm
      have n2 : B9 ≠ ab := fun e => by
       obtain ⟨o, hb, hn⟩ := map_obj HR.out.raw.apex
       rw [← e, HR.out.box] at hb
       injection hb with hb
       exact hn _ _ _ hb.symm
      have n3 : wr.heap.size ≠ ab := fun e => by have := HR.out.raw.apex.lt; omega
      have hblk : (World.drew (wr.alloc (.cells #[.int .i64 a, .int .i64 b] 91))).heap[wr.heap.size]? = some (.cells #[.int .i64 a, .int .i64 b] 91 (0, 0)) := blk_new _ _
      have s1 : (World.drew (wr.alloc (.cells #[.int .i64 a, .int .i64 b] 91))).cell? ⟨mb, 1, none⟩ = some (.map (some ab)) ∧ (World.drew (wr.alloc (.cells #[.int .i64 a, .int .i64 b] 91))).cell? ⟨wr.heap.size, 0, none⟩ = some (.int .i64 a) ∧ (World.drew (wr.alloc (.cells #[.int .i64 a, .int .i64 b] 91))).cell? ⟨wr.heap.size, 1, none⟩ = some (.int .i64 b) ∧ (World.drew (wr.alloc (.cells #[.int .i64 a, .int .i64 b] 91))).cell? ⟨B9, 3, none⟩ = some (.int .i64 c) := ⟨bcell hX hmb1, blk_cell hblk 0, blk_cell hblk 1, bcell hX hb9⟩
      have s2 : (setBlock (World.drew (wr.alloc (.cells #[.int .i64 a, .int .i64 b] 91))) ab ob).cell? ⟨mb, 1, none⟩ = some (.map (some ab)) ∧ (setBlock (World.drew (wr.alloc (.cells #[.int .i64 a, .int .i64 b] 91))) ab ob).cell? ⟨wr.heap.size, 0, none⟩ = some (.int .i64 a) ∧ (setBlock (World.drew (wr.alloc (.cells #[.int .i64 a, .int .i64 b] 91))) ab ob).cell? ⟨wr.heap.size, 1, none⟩ = some (.int .i64 b) ∧ (setBlock (World.drew (wr.alloc (.cells #[.int .i64 a, .int .i64 b] 91))) ab ob).cell? ⟨B9, 3, none⟩ = some (.int .i64 c) := ⟨cell_other s1.1 n1 ob, cell_other s1.2.1 n3 ob, cell_other s1.2.2.1 n3 ob, cell_other s1.2.2.2 n2 ob⟩
      have HS := Aside0.mk (And.intro s1 s2)
      have hblk2 : (setBlock (World.drew (wr.alloc (.cells #[.int .i64 a, .int .i64 b] 91))) ab ob).heap[wr.heap.size]? = some (.cells #[.int .i64 a, .int .i64 b] 91 (0, 0)) := (other_block n3 ob).trans hblk
      have hmbk : (setBlock (World.drew (wr.alloc (.cells #[.int .i64 a, .int .i64 b] 91))) ab ob).heap[mb]? = _ := (other_block n1 ob).trans ((hX.block mb (blk_lt HR.out.raw.blk)).trans HR.out.raw.blk)
      have HBK := Aside0.mk (And.intro hblk2 hmbk)
      have HX := Aside0.mk hX
      clear s1 s2 hmb1 hb9 n1 n2 n3 hblk hblk2 hmbk hX
      go_upto_region 18 with (fail)
      obtain ⟨q1, q2, q3, q4⟩ := HS.out.1
      go_region
      all_goals
       have hYr := HR.out.mid HI.out.old HB9.out.1 HX.out HM.out
       obtain ⟨v, xs, hv, hrow, hnd, hE⟩ := hYr.spoke a
       have hlen : xs.length ≤ l.length := spoke_size hnd (fun q hq => key_range HI.out HH.out.2.1 HH.out.2.2.1 HH.out.2.2.2.1 (hE q hq))
       have hl8 : (xs.length + 1) * 8 ≤ 140737488355328 := by have := HW.out.2.2.2; omega
       have n4 : mb ≠ sb := fun e => by
        obtain ⟨o, hb, hn⟩ := map_obj hYr.spokes
        rw [← e, HBK.out.2] at hb
        injection hb with hb
        exact hn _ _ _ hb.symm
       have n5 : wr.heap.size ≠ sb := fun e => by have := HR.out.raw.spokes.lt; omega
       have n6 := row_not hrow HBK.out.2 (by decide)
       have n7 := row_not hrow HBK.out.1 (by decide)
       have n8 : some sb ≠ v.ownBlock := (hYr.row_ne (map_obj hYr.spokes).choose_spec.1 (map_obj hYr.spokes).choose_spec.2).1 |> fun q e => by
        cases es : s' a with
        | none => rw [es] at hv; rw [← hv] at e; simp [Value.ownBlock] at e
        | some u => rw [es] at hv; exact q a u es (by rw [show u = v from hv]; exact e.symm)
       have c1 : (setBlock (World.drew (wr.alloc (.cells #[.int .i64 a, .int .i64 b] 91))) ab ob).cell? ⟨mb, 2, none⟩ = some (.map (some sb)) := by rw [blk_cell HBK.out.2]; rfl
       have c2 : (setBlock (World.drew (wr.alloc (.cells #[.int .i64 a, .int .i64 b] 91))) ab ob).cell? ⟨wr.heap.size, 0, none⟩ = some (.int .i64 a) := blk_cell HBK.out.1 0
       have c3 : (setBlock (World.drew (wr.alloc (.cells #[.int .i64 a, .int .i64 b] 91))) ab ob).cell? ⟨wr.heap.size, 1, none⟩ = some (.int .i64 b) := blk_cell HBK.out.1 1
       obtain ⟨Y, hYe⟩ : ∃ Y, Y = setBlock (World.drew (wr.alloc (.cells #[.int .i64 a, .int .i64 b] 91))) ab ob := ⟨_, rfl⟩
       have HYE := Aside0.mk hYe
       rw [← hYe] at hYr hrow c1 c2 c3 ⊢
       clear hYe
       have hL19 : Aside0 (∀ W, Below Y.heap.size Y W → W.cell? ⟨mb, 2, none⟩ = some (.map (some sb)) ∧ W.cell? ⟨wr.heap.size, 0, none⟩ = some (.int .i64 a) ∧ W.cell? ⟨wr.heap.size, 1, none⟩ = some (.int .i64 b)) := ⟨fun W hb => ⟨bcell hb c1, bcell hb c2, bcell hb c3⟩⟩
       have hlk : ∀ W, Below Y.heap.size Y W → (Instr.lookup 88 (.map (some sb)) (.int .i64 a) false).run Tryz.prog W = .ok v W := fun W hb => by
        have := (hYr.spokes.below hb).lookup (w := W) kI Tryz.underlying88 (zeroSl W) HW.out.1 false
        rw [hv] at this
        exact this
       have hlk1 := hlk Y.drew (below_drew1 (Below.refl _ _))
       have hlk2 := hlk (Y.alloc (.cells #[.int .i64 b] 3)).drew (below_drew1 (below_alloc (Below.refl _ _) _))
       have hbk : (Y.alloc (.cells #[.int .i64 b] 3)).drew.heap[Y.heap.size]? = some (.cells #[.int .i64 b] 3 (0, 0)) := blk_new _ _
       have HBN := Aside0.mk hbk
       clear hbk
       have hrD : Kd.R (Kd.int .i64) 3 Y 0 anyB v xs := Kd.R_mono hrow (fun _ _ => trivial)
       have HZ := Aside0.mk (And.intro hYr (And.intro hv (And.intro hrow (And.intro hnd (And.intro hE (And.intro n4 (And.intro n5 (And.intro n6 (And.intro n7 n8)))))))))
       have HC2 := Aside0.mk (hL19.out (Y.alloc (.cells #[.int .i64 b] 3)).drew (below_drew1 (below_alloc (Below.refl _ _) _)))
       have HGY : Aside0 (∀ q, q < Y.heap.size → (Y.alloc (.cells #[.int .i64 b] 3)).drew.heap[q]? = Y.heap[q]?) := ⟨(below_drew1 (below_alloc (Below.refl _ _) _)).block⟩
       clear hYr hv hrow hnd hE n4 n5 n6 n7 n8 c1 c2 c3 hlk hlen HS hrun
       go_upto_region 19 with (fail)
       go_region_held3 (fun W => W.cell? ⟨mb, 2, none⟩ = some (.map (some sb)) ∧ W.cell? ⟨wr.heap.size, 0, none⟩ = some (.int .i64 a) ∧ W.cell? ⟨wr.heap.size, 1, none⟩ = some (.int .i64 b))
        (first | (with_reducible exact HS1.out) | (with_reducible exact HS2.out) | (with_reducible refine heldB hL19 ?_; (repeat (first | assumption | exact Below.refl _ _ | apply below_drew1 | apply below_alloc | apply pw_below_drewN))))
        (first
         | (refine Kd.R_append_rows_step (Kd.int .i64) (w0 := Y) 0 (by rfl) (.tmp 107) (.tmp 110) 59 3 (.int .i64 0) 8 rfl Tryz.underlying59 infoN rfl (by decide) (by decide) v xs [b] _ _ _ anyB (fun _ => False) rfl rfl ?aO ?aR (fun _ _ h => h) (fun _ h => h.elim) (fun _ _ => trivial) ?aB ?aS ?aL ?_
            (case aO => exact Kd.R_drew (Kd.R_alloc hrD _))
            (case aR => exact one_C HBN.out)
            (case aB => exact below_mono0 (below_drew1 (below_alloc (Below.refl _ _) _)))
            (case aS => exact Nat.zero_le _)
            (case aL => exact hl8)
            intro v1 w1 hr1 hb1 hg1 hat1
            have HR1 := Aside0.mk (And.intro hr1 (And.intro hg1 hat1))
            have HS1 := Aside0.mk (And.intro (cell_grown hg1 HC2.out.1 HZ.out.2.2.2.2.2.2.2.1) (And.intro (cell_grown hg1 HC2.out.2.1 HZ.out.2.2.2.2.2.2.2.2.1) (cell_grown hg1 HC2.out.2.2 HZ.out.2.2.2.2.2.2.2.2.1)))
            have hU2 := (HZ.out.1.spokes.move (w' := w1) ((hg1.block sb (Nat.lt_of_lt_of_le HZ.out.1.spokes.lt (below_drew1 (below_alloc (Below.refl _ _) _)).size) HZ.out.2.2.2.2.2.2.2.2.2).trans (HGY.out sb HZ.out.1.spokes.lt))).update kI Tryz.underlying88 HW.out.1 v1
            obtain ⟨ob2, hrun2, hmf2⟩ := hU2
            have HS2 := Aside0.mk (And.intro (cell_other HS1.out.1 HZ.out.2.2.2.2.2.1 ob2) (And.intro (cell_other HS1.out.2.1 HZ.out.2.2.2.2.2.2.1 ob2) (cell_other HS1.out.2.2 HZ.out.2.2.2.2.2.2.1 ob2)))
            have HM2 := Aside0.mk hmf2
            clear hmf2 hr1 hb1 hg1 hat1))
       all_goals
        go_wp2
        go_roundw
        case rel =>
         have e := HYE.out
         subst e
         exact ⟨1, by omega, rfl, _, ⟨HR.out.step HI.out.old HB9.out.1 HB9.out.2 HX.out rfl (fk_none HI.out HF3.out (sgT_ds (l := l) (by have := HH.out.2.2.2.2; omega))).1 HM.out HZ.out.2.1 HZ.out.2.2.1 HZ.out.2.2.2.1 HZ.out.2.2.2.2.1 HR1.out.1 (grown_trans (below_drew1 (below_alloc (Below.refl _ _) _)) HR1.out.2.1) (HR1.out.2.2.imp id (fun ⟨q, r1, r2⟩ => ⟨q, r1, Nat.le_trans (below_drew1 (below_alloc (Below.refl _ _) _)).size r2⟩)) HM2.out⟩⟩
        case measure => simp [intOf]
     ·have hX : Below wr.heap.size wr (World.drew (wr.alloc (.cells #[.int .i64 b, .int .i64 c] 91))) := below_drew1 (below_alloc (Below.refl _ _) _)
      have hmb1 : wr.cell? ⟨mb, 1, none⟩ = some (.map (some ab)) := by rw [blk_cell HR.out.raw.blk]; rfl
      have hmb2 : wr.cell? ⟨mb, 2, none⟩ = some (.map (some sb)) := by rw [blk_cell HR.out.raw.blk]; rfl
      have hb9 : wr.cell? ⟨B9, 5, none⟩ = some (.int .i64 a) := by rw [blk_cell HR.out.box]; rfl
      have hU := (HR.out.raw.below hX).apex.update kE Tryz.underlying87 (x := (b, c)) ⟨HW.out.2.1, HW.out.2.2.1⟩ (.int .i64 a)
      obtain ⟨ob, hrun, hmf⟩ := hU
      have HM := Aside0.mk hmf
      clear hmf
      simp only [encE] at hrun
      have n1 : mb ≠ ab := fun e => by
       obtain ⟨o, hb, hn⟩ := map_obj HR.out.raw.apex
       rw [← e, HR.out.raw.blk] at hb
       injection hb with hb
       exact hn _ _ _ hb.symm
      have n2 : B9 ≠ ab := fun e => by
       obtain ⟨o, hb, hn⟩ := map_obj HR.out.raw.apex
       rw [← e, HR.out.box] at hb
       injection hb with hb
       exact hn _ _ _ hb.symm
      have n3 : wr.heap.size ≠ ab := fun e => by have := HR.out.raw.apex.lt; omega
      have hblk : (World.drew (wr.alloc (.cells #[.int .i64 b, .int .i64 c] 91))).heap[wr.heap.size]? = some (.cells #[.int .i64 b, .int .i64 c] 91 (0, 0)) := blk_new _ _
      have s1 : (World.drew (wr.alloc (.cells #[.int .i64 b, .int .i64 c] 91))).cell? ⟨mb, 1, none⟩ = some (.map (some ab)) ∧ (World.drew (wr.alloc (.cells #[.int .i64 b, .int .i64 c] 91))).cell? ⟨wr.heap.size, 0, none⟩ = some (.int .i64 b) ∧ (World.drew (wr.alloc (.cells #[.int .i64 b, .int .i64 c] 91))).cell? ⟨wr.heap.size, 1, none⟩ = some (.int .i64 c) ∧ (World.drew (wr.alloc (.cells #[.int .i64 b, .int .i64 c] 91))).cell? ⟨B9, 5, none⟩ = some (.int .i64 a) := ⟨bcell hX hmb1, blk_cell hblk 0, blk_cell hblk 1, bcell hX hb9⟩
      have s2 : (setBlock (World.drew (wr.alloc (.cells #[.int .i64 b, .int .i64 c] 91))) ab ob).cell? ⟨mb, 1, none⟩ = some (.map (some ab)) ∧ (setBlock (World.drew (wr.alloc (.cells #[.int .i64 b, .int .i64 c] 91))) ab ob).cell? ⟨wr.heap.size, 0, none⟩ = some (.int .i64 b) ∧ (setBlock (World.drew (wr.alloc (.cells #[.int .i64 b, .int .i64 c] 91))) ab ob).cell? ⟨wr.heap.size, 1, none⟩ = some (.int .i64 c) ∧ (setBlock (World.drew (wr.alloc (.cells #[.int .i64 b, .int .i64 c] 91))) ab ob).cell? ⟨B9, 5, none⟩ = some (.int .i64 a) := ⟨cell_other s1.1 n1 ob, cell_other s1.2.1 n3 ob, cell_other s1.2.2.1 n3 ob, cell_other s1.2.2.2 n2 ob⟩
      have HS := Aside0.mk (And.intro s1 s2)
      have hblk2 : (setBlock (World.drew (wr.alloc (.cells #[.int .i64 b, .int .i64 c] 91))) ab ob).heap[wr.heap.size]? = some (.cells #[.int .i64 b, .int .i64 c] 91 (0, 0)) := (other_block n3 ob).trans hblk
      have hmbk : (setBlock (World.drew (wr.alloc (.cells #[.int .i64 b, .int .i64 c] 91))) ab ob).heap[mb]? = _ := (other_block n1 ob).trans ((hX.block mb (blk_lt HR.out.raw.blk)).trans HR.out.raw.blk)
      have HBK := Aside0.mk (And.intro hblk2 hmbk)
      have HX := Aside0.mk hX
      clear s1 s2 hmb1 hb9 n1 n2 n3 hblk hblk2 hmbk hX
      go_upto_region 18 with (fail)
      obtain ⟨q1, q2, q3, q4⟩ := HS.out.1
      go_region
      all_goals
       have hYr := HR.out.mid HI.out.old HB9.out.1 HX.out HM.out
       obtain ⟨v, xs, hv, hrow, hnd, hE⟩ := hYr.spoke b
       have hlen : xs.length ≤ l.length := spoke_size hnd (fun q hq => key_range HI.out HH.out.2.1 HH.out.2.2.1 HH.out.2.2.2.1 (hE q hq))
       have hl8 : (xs.length + 1) * 8 ≤ 140737488355328 := by have := HW.out.2.2.2; omega
       have n4 : mb ≠ sb := fun e => by
        obtain ⟨o, hb, hn⟩ := map_obj hYr.spokes
        rw [← e, HBK.out.2] at hb
        injection hb with hb
        exact hn _ _ _ hb.symm
       have n5 : wr.heap.size ≠ sb := fun e => by have := HR.out.raw.spokes.lt; omega
       have n6 := row_not hrow HBK.out.2 (by decide)
       have n7 := row_not hrow HBK.out.1 (by decide)
       have n8 : some sb ≠ v.ownBlock := (hYr.row_ne (map_obj hYr.spokes).choose_spec.1 (map_obj hYr.spokes).choose_spec.2).1 |> fun q e => by
        cases es : s' b with
        | none => rw [es] at hv; rw [← hv] at e; simp [Value.ownBlock] at e
        | some u => rw [es] at hv; exact q b u es (by rw [show u = v from hv]; exact e.symm)
       have c1 : (setBlock (World.drew (wr.alloc (.cells #[.int .i64 b, .int .i64 c] 91))) ab ob).cell? ⟨mb, 2, none⟩ = some (.map (some sb)) := by rw [blk_cell HBK.out.2]; rfl
       have c2 : (setBlock (World.drew (wr.alloc (.cells #[.int .i64 b, .int .i64 c] 91))) ab ob).cell? ⟨wr.heap.size, 0, none⟩ = some (.int .i64 b) := blk_cell HBK.out.1 0
       have c3 : (setBlock (World.drew (wr.alloc (.cells #[.int .i64 b, .int .i64 c] 91))) ab ob).cell? ⟨wr.heap.size, 1, none⟩ = some (.int .i64 c) := blk_cell HBK.out.1 1
       obtain ⟨Y, hYe⟩ : ∃ Y, Y = setBlock (World.drew (wr.alloc (.cells #[.int .i64 b, .int .i64 c] 91))) ab ob := ⟨_, rfl⟩
       have HYE := Aside0.mk hYe
       rw [← hYe] at hYr hrow c1 c2 c3 ⊢
       clear hYe
       have hL19 : Aside0 (∀ W, Below Y.heap.size Y W → W.cell? ⟨mb, 2, none⟩ = some (.map (some sb)) ∧ W.cell? ⟨wr.heap.size, 0, none⟩ = some (.int .i64 b) ∧ W.cell? ⟨wr.heap.size, 1, none⟩ = some (.int .i64 c)) := ⟨fun W hb => ⟨bcell hb c1, bcell hb c2, bcell hb c3⟩⟩
       have hlk : ∀ W, Below Y.heap.size Y W → (Instr.lookup 88 (.map (some sb)) (.int .i64 b) false).run Tryz.prog W = .ok v W := fun W hb => by
        have := (hYr.spokes.below hb).lookup (w := W) kI Tryz.underlying88 (zeroSl W) HW.out.2.1 false
        rw [hv] at this
        exact this
       have hlk1 := hlk Y.drew (below_drew1 (Below.refl _ _))
       have hlk2 := hlk (Y.alloc (.cells #[.int .i64 c] 3)).drew (below_drew1 (below_alloc (Below.refl _ _) _))
       have hbk : (Y.alloc (.cells #[.int .i64 c] 3)).drew.heap[Y.heap.size]? = some (.cells #[.int .i64 c] 3 (0, 0)) := blk_new _ _
       have HBN := Aside0.mk hbk
       clear hbk
       have hrD : Kd.R (Kd.int .i64) 3 Y 0 anyB v xs := Kd.R_mono hrow (fun _ _ => trivial)
       have HZ := Aside0.mk (And.intro hYr (And.intro hv (And.intro hrow (And.intro hnd (And.intro hE (And.intro n4 (And.intro n5 (And.intro n6 (And.intro n7 n8)))))))))
       have HC2 := Aside0.mk (hL19.out (Y.alloc (.cells #[.int .i64 c] 3)).drew (below_drew1 (below_alloc (Below.refl _ _) _)))
       have HGY : Aside0 (∀ q, q < Y.heap.size → (Y.alloc (.cells #[.int .i64 c] 3)).drew.heap[q]? = Y.heap[q]?) := ⟨(below_drew1 (below_alloc (Below.refl _ _) _)).block⟩
       clear hYr hv hrow hnd hE n4 n5 n6 n7 n8 c1 c2 c3 hlk hlen HS hrun
       go_upto_region 19 with (fail)
       go_region_held3 (fun W => W.cell? ⟨mb, 2, none⟩ = some (.map (some sb)) ∧ W.cell? ⟨wr.heap.size, 0, none⟩ = some (.int .i64 b) ∧ W.cell? ⟨wr.heap.size, 1, none⟩ = some (.int .i64 c))
        (first | (with_reducible exact HS1.out) | (with_reducible exact HS2.out) | (with_reducible refine heldB hL19 ?_; (repeat (first | assumption | exact Below.refl _ _ | apply below_drew1 | apply below_alloc | apply pw_below_drewN))))
        (first
         | (refine Kd.R_append_rows_step (Kd.int .i64) (w0 := Y) 0 (by rfl) (.tmp 107) (.tmp 110) 59 3 (.int .i64 0) 8 rfl Tryz.underlying59 infoN rfl (by decide) (by decide) v xs [c] _ _ _ anyB (fun _ => False) rfl rfl ?aO ?aR (fun _ _ h => h) (fun _ h => h.elim) (fun _ _ => trivial) ?aB ?aS ?aL ?_
            (case aO => exact Kd.R_drew (Kd.R_alloc hrD _))
            (case aR => exact one_C HBN.out)
            (case aB => exact below_mono0 (below_drew1 (below_alloc (Below.refl _ _) _)))
            (case aS => exact Nat.zero_le _)
            (case aL => exact hl8)
            intro v1 w1 hr1 hb1 hg1 hat1
            have HR1 := Aside0.mk (And.intro hr1 (And.intro hg1 hat1))
            have HS1 := Aside0.mk (And.intro (cell_grown hg1 HC2.out.1 HZ.out.2.2.2.2.2.2.2.1) (And.intro (cell_grown hg1 HC2.out.2.1 HZ.out.2.2.2.2.2.2.2.2.1) (cell_grown hg1 HC2.out.2.2 HZ.out.2.2.2.2.2.2.2.2.1)))
            have hU2 := (HZ.out.1.spokes.move (w' := w1) ((hg1.block sb (Nat.lt_of_lt_of_le HZ.out.1.spokes.lt (below_drew1 (below_alloc (Below.refl _ _) _)).size) HZ.out.2.2.2.2.2.2.2.2.2).trans (HGY.out sb HZ.out.1.spokes.lt))).update kI Tryz.underlying88 HW.out.2.1 v1
            obtain ⟨ob2, hrun2, hmf2⟩ := hU2
            have HS2 := Aside0.mk (And.intro (cell_other HS1.out.1 HZ.out.2.2.2.2.2.1 ob2) (And.intro (cell_other HS1.out.2.1 HZ.out.2.2.2.2.2.2.1 ob2) (cell_other HS1.out.2.2 HZ.out.2.2.2.2.2.2.1 ob2)))
            have HM2 := Aside0.mk hmf2
            clear hmf2 hr1 hb1 hg1 hat1))
       all_goals
        go_wp2
        go_roundw
        case rel =>
         have e := HYE.out
         subst e
         exact ⟨2, by omega, rfl, _, ⟨HR.out.step HI.out.old HB9.out.1 HB9.out.2 HX.out rfl (fk_none HI.out HF3.out (sgT_ds (l := l) (by have := HH.out.2.2.2.2; omega))).2.1 HM.out HZ.out.2.1 HZ.out.2.2.1 HZ.out.2.2.2.1 HZ.out.2.2.2.2.1 HR1.out.1 (grown_trans (below_drew1 (below_alloc (Below.refl _ _) _)) HR1.out.2.1) (HR1.out.2.2.imp id (fun ⟨q, r1, r2⟩ => ⟨q, r1, Nat.le_trans (below_drew1 (below_alloc (Below.refl _ _) _)).size r2⟩)) HM2.out⟩⟩
        case measure => simp [intOf]
     ·have hX : Below wr.heap.size wr (World.drew (wr.alloc (.cells #[.int .i64 c, .int .i64 a] 91))) := below_drew1 (below_alloc (Below.refl _ _) _)
      have hmb1 : wr.cell? ⟨mb, 1, none⟩ = some (.map (some ab)) := by rw [blk_cell HR.out.raw.blk]; rfl
      have hmb2 : wr.cell? ⟨mb, 2, none⟩ = some (.map (some sb)) := by rw [blk_cell HR.out.raw.blk]; rfl
      have hb9 : wr.cell? ⟨B9, 1, none⟩ = some (.int .i64 b) := by rw [blk_cell HR.out.box]; rfl
      have hU := (HR.out.raw.below hX).apex.update kE Tryz.underlying87 (x := (c, a)) ⟨HW.out.2.2.1, HW.out.1⟩ (.int .i64 b)
      obtain ⟨ob, hrun, hmf⟩ := hU
      have HM := Aside0.mk hmf
      clear hmf
      simp only [encE] at hrun
      have n1 : mb ≠ ab := fun e => by
       obtain ⟨o, hb, hn⟩ := map_obj HR.out.raw.apex
       rw [← e, HR.out.raw.blk] at hb
       injection hb with hb
       exact hn _ _ _ hb.symm
      have n2 : B9 ≠ ab := fun e => by
       obtain ⟨o, hb, hn⟩ := map_obj HR.out.raw.apex
       rw [← e, HR.out.box] at hb
       injection hb with hb
       exact hn _ _ _ hb.symm
      have n3 : wr.heap.size ≠ ab := fun e => by have := HR.out.raw.apex.lt; omega
      have hblk : (World.drew (wr.alloc (.cells #[.int .i64 c, .int .i64 a] 91))).heap[wr.heap.size]? = some (.cells #[.int .i64 c, .int .i64 a] 91 (0, 0)) := blk_new _ _
      have s1 : (World.drew (wr.alloc (.cells #[.int .i64 c, .int .i64 a] 91))).cell? ⟨mb, 1, none⟩ = some (.map (some ab)) ∧ (World.drew (wr.alloc (.cells #[.int .i64 c, .int .i64 a] 91))).cell? ⟨wr.heap.size, 0, none⟩ = some (.int .i64 c) ∧ (World.drew (wr.alloc (.cells #[.int .i64 c, .int .i64 a] 91))).cell? ⟨wr.heap.size, 1, none⟩ = some (.int .i64 a) ∧ (World.drew (wr.alloc (.cells #[.int .i64 c, .int .i64 a] 91))).cell? ⟨B9, 1, none⟩ = some (.int .i64 b) := ⟨bcell hX hmb1, blk_cell hblk 0, blk_cell hblk 1, bcell hX hb9⟩
      have s2 : (setBlock (World.drew (wr.alloc (.cells #[.int .i64 c, .int .i64 a] 91))) ab ob).cell? ⟨mb, 1, none⟩ = some (.map (some ab)) ∧ (setBlock (World.drew (wr.alloc (.cells #[.int .i64 c, .int .i64 a] 91))) ab ob).cell? ⟨wr.heap.size, 0, none⟩ = some (.int .i64 c) ∧ (setBlock (World.drew (wr.alloc (.cells #[.int .i64 c, .int .i64 a] 91))) ab ob).cell? ⟨wr.heap.size, 1, none⟩ = some (.int .i64 a) ∧ (setBlock (World.drew (wr.alloc (.cells #[.int .i64 c, .int .i64 a] 91))) ab ob).cell? ⟨B9, 1, none⟩ = some (.int .i64 b) := ⟨cell_other s1.1 n1 ob, cell_other s1.2.1 n3 ob, cell_other s1.2.2.1 n3 ob, cell_other s1.2.2.2 n2 ob⟩
      have HS := Aside0.mk (And.intro s1 s2)
      have hblk2 : (setBlock (World.drew (wr.alloc (.cells #[.int .i64 c, .int .i64 a] 91))) ab ob).heap[wr.heap.size]? = some (.cells #[.int .i64 c, .int .i64 a] 91 (0, 0)) := (other_block n3 ob).trans hblk
      have hmbk : (setBlock (World.drew (wr.alloc (.cells #[.int .i64 c, .int .i64 a] 91))) ab ob).heap[mb]? = _ := (other_block n1 ob).trans ((hX.block mb (blk_lt HR.out.raw.blk)).trans HR.out.raw.blk)
      have HBK := Aside0.mk (And.intro hblk2 hmbk)
      have HX := Aside0.mk hX
      clear s1 s2 hmb1 hb9 n1 n2 n3 hblk hblk2 hmbk hX
      go_upto_region 18 with (fail)
      obtain ⟨q1, q2, q3, q4⟩ := HS.out.1
      go_region
      all_goals
       have hYr := HR.out.mid HI.out.old HB9.out.1 HX.out HM.out
       obtain ⟨v, xs, hv, hrow, hnd, hE⟩ := hYr.spoke c
       have hlen : xs.length ≤ l.length := spoke_size hnd (fun q hq => key_range HI.out HH.out.2.1 HH.out.2.2.1 HH.out.2.2.2.1 (hE q hq))
       have hl8 : (xs.length + 1) * 8 ≤ 140737488355328 := by have := HW.out.2.2.2; omega
       have n4 : mb ≠ sb := fun e => by
        obtain ⟨o, hb, hn⟩ := map_obj hYr.spokes
        rw [← e, HBK.out.2] at hb
        injection hb with hb
        exact hn _ _ _ hb.symm
       have n5 : wr.heap.size ≠ sb := fun e => by have := HR.out.raw.spokes.lt; omega
       have n6 := row_not hrow HBK.out.2 (by decide)
       have n7 := row_not hrow HBK.out.1 (by decide)
       have n8 : some sb ≠ v.ownBlock := (hYr.row_ne (map_obj hYr.spokes).choose_spec.1 (map_obj hYr.spokes).choose_spec.2).1 |> fun q e => by
        cases es : s' c with
        | none => rw [es] at hv; rw [← hv] at e; simp [Value.ownBlock] at e
        | some u => rw [es] at hv; exact q c u es (by rw [show u = v from hv]; exact e.symm)
       have c1 : (setBlock (World.drew (wr.alloc (.cells #[.int .i64 c, .int .i64 a] 91))) ab ob).cell? ⟨mb, 2, none⟩ = some (.map (some sb)) := by rw [blk_cell HBK.out.2]; rfl
       have c2 : (setBlock (World.drew (wr.alloc (.cells #[.int .i64 c, .int .i64 a] 91))) ab ob).cell? ⟨wr.heap.size, 0, none⟩ = some (.int .i64 c) := blk_cell HBK.out.1 0
       have c3 : (setBlock (World.drew (wr.alloc (.cells #[.int .i64 c, .int .i64 a] 91))) ab ob).cell? ⟨wr.heap.size, 1, none⟩ = some (.int .i64 a) := blk_cell HBK.out.1 1
       obtain ⟨Y, hYe⟩ : ∃ Y, Y = setBlock (World.drew (wr.alloc (.cells #[.int .i64 c, .int .i64 a] 91))) ab ob := ⟨_, rfl⟩
       have HYE := Aside0.mk hYe
       rw [← hYe] at hYr hrow c1 c2 c3 ⊢
       clear hYe
       have hL19 : Aside0 (∀ W, Below Y.heap.size Y W → W.cell? ⟨mb, 2, none⟩ = some (.map (some sb)) ∧ W.cell? ⟨wr.heap.size, 0, none⟩ = some (.int .i64 c) ∧ W.cell? ⟨wr.heap.size, 1, none⟩ = some (.int .i64 a)) := ⟨fun W hb => ⟨bcell hb c1, bcell hb c2, bcell hb c3⟩⟩
       have hlk : ∀ W, Below Y.heap.size Y W → (Instr.lookup 88 (.map (some sb)) (.int .i64 c) false).run Tryz.prog W = .ok v W := fun W hb => by
        have := (hYr.spokes.below hb).lookup (w := W) kI Tryz.underlying88 (zeroSl W) HW.out.2.2.1 false
        rw [hv] at this
        exact this
       have hlk1 := hlk Y.drew (below_drew1 (Below.refl _ _))
       have hlk2 := hlk (Y.alloc (.cells #[.int .i64 a] 3)).drew (below_drew1 (below_alloc (Below.refl _ _) _))
       have hbk : (Y.alloc (.cells #[.int .i64 a] 3)).drew.heap[Y.heap.size]? = some (.cells #[.int .i64 a] 3 (0, 0)) := blk_new _ _
       have HBN := Aside0.mk hbk
       clear hbk
       have hrD : Kd.R (Kd.int .i64) 3 Y 0 anyB v xs := Kd.R_mono hrow (fun _ _ => trivial)
       have HZ := Aside0.mk (And.intro hYr (And.intro hv (And.intro hrow (And.intro hnd (And.intro hE (And.intro n4 (And.intro n5 (And.intro n6 (And.intro n7 n8)))))))))
       have HC2 := Aside0.mk (hL19.out (Y.alloc (.cells #[.int .i64 a] 3)).drew (below_drew1 (below_alloc (Below.refl _ _) _)))
       have HGY : Aside0 (∀ q, q < Y.heap.size → (Y.alloc (.cells #[.int .i64 a] 3)).drew.heap[q]? = Y.heap[q]?) := ⟨(below_drew1 (below_alloc (Below.refl _ _) _)).block⟩
       clear hYr hv hrow hnd hE n4 n5 n6 n7 n8 c1 c2 c3 hlk hlen HS hrun
       go_upto_region 19 with (fail)
       go_region_held3 (fun W => W.cell? ⟨mb, 2, none⟩ = some (.map (some sb)) ∧ W.cell? ⟨wr.heap.size, 0, none⟩ = some (.int .i64 c) ∧ W.cell? ⟨wr.heap.size, 1, none⟩ = some (.int .i64 a))
        (first | (with_reducible exact HS1.out) | (with_reducible exact HS2.out) | (with_reducible refine heldB hL19 ?_; (repeat (first | assumption | exact Below.refl _ _ | apply below_drew1 | apply below_alloc | apply pw_below_drewN))))
        (first
         | (refine Kd.R_append_rows_step (Kd.int .i64) (w0 := Y) 0 (by rfl) (.tmp 107) (.tmp 110) 59 3 (.int .i64 0) 8 rfl Tryz.underlying59 infoN rfl (by decide) (by decide) v xs [a] _ _ _ anyB (fun _ => False) rfl rfl ?aO ?aR (fun _ _ h => h) (fun _ h => h.elim) (fun _ _ => trivial) ?aB ?aS ?aL ?_
            (case aO => exact Kd.R_drew (Kd.R_alloc hrD _))
            (case aR => exact one_C HBN.out)
            (case aB => exact below_mono0 (below_drew1 (below_alloc (Below.refl _ _) _)))
            (case aS => exact Nat.zero_le _)
            (case aL => exact hl8)
            intro v1 w1 hr1 hb1 hg1 hat1
            have HR1 := Aside0.mk (And.intro hr1 (And.intro hg1 hat1))
            have HS1 := Aside0.mk (And.intro (cell_grown hg1 HC2.out.1 HZ.out.2.2.2.2.2.2.2.1) (And.intro (cell_grown hg1 HC2.out.2.1 HZ.out.2.2.2.2.2.2.2.2.1) (cell_grown hg1 HC2.out.2.2 HZ.out.2.2.2.2.2.2.2.2.1)))
            have hU2 := (HZ.out.1.spokes.move (w' := w1) ((hg1.block sb (Nat.lt_of_lt_of_le HZ.out.1.spokes.lt (below_drew1 (below_alloc (Below.refl _ _) _)).size) HZ.out.2.2.2.2.2.2.2.2.2).trans (HGY.out sb HZ.out.1.spokes.lt))).update kI Tryz.underlying88 HW.out.2.2.1 v1
            obtain ⟨ob2, hrun2, hmf2⟩ := hU2
            have HS2 := Aside0.mk (And.intro (cell_other HS1.out.1 HZ.out.2.2.2.2.2.1 ob2) (And.intro (cell_other HS1.out.2.1 HZ.out.2.2.2.2.2.2.1 ob2) (cell_other HS1.out.2.2 HZ.out.2.2.2.2.2.2.1 ob2)))
            have HM2 := Aside0.mk hmf2
            clear hmf2 hr1 hb1 hg1 hat1))
       all_goals
        go_wp2
        go_roundw
        case rel =>
         have e := HYE.out
         subst e
         exact ⟨3, by omega, rfl, _, ⟨HR.out.step HI.out.old HB9.out.1 HB9.out.2 HX.out rfl (fk_none HI.out HF3.out (sgT_ds (l := l) (by have := HH.out.2.2.2.2; omega))).2.2 HM.out HZ.out.2.1 HZ.out.2.2.1 HZ.out.2.2.2.1 HZ.out.2.2.2.2.1 HR1.out.1 (grown_trans (below_drew1 (below_alloc (Below.refl _ _) _)) HR1.out.2.1) (HR1.out.2.2.imp id (fun ⟨q, r1, r2⟩ => ⟨q, r1, Nat.le_trans (below_drew1 (below_alloc (Below.refl _ _) _)).size r2⟩)) HM2.out⟩⟩
        case measure => simp [intOf]
     ·have hms := mesh_size HI.out.mesh HI.out.good.2 HI.out.rng
      have q3 : wr.cell? ⟨mb, 3, none⟩ = some (.int .i64 (O.length : Nat)) := by rw [blk_cell HR.out.raw.blk]; rfl
      have q4 := blk_frozen HR.out.raw.blk 3
      have i1 : IntKind.i64.wrap (((O.length : Nat) : Int) + 1) = ((O.length : Nat) : Int) + 1 := wrapN (by omega) (by omega)
      clear hms
      go_wp2
      go_ret
      refine make_done HI.out HH.out.2.1 HH.out.2.2.1 HH.out.2.2.2.1 (by have := HH.out.2.2.2.2; omega) HF3.out (HR.out.raw.count_set _) ?_ (fun q hq => .inl hq) (fun q hq => ?_)
      ·exact HR.out.fr.trans (M' := fun q => q = mb) ⟨rfl, rfl, rfl, by simp, fun q hq hn => Below.heap_setCell _ _ _ _ hn⟩ (fun q _ e => by rw [e]; exact HI.out.mine.1)
      ·rcases hq with q1 | q1
       ·exact .inl q1
       ·exact .inr (Nat.le_trans HB9.out.1 q1.1)
end
end Go.Proofs.YtaoichlepfiliaaGreatDoor.Msh
