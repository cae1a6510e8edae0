/- Lemmas of Mcu. Conditions stand in each. -/
import Derived.Test.YtaoichlepfiliaaGreatDoorQXMco
set_option linter.unusedSimpArgs false
set_option linter.unusedVariables false
namespace Go.Proofs.YtaoichlepfiliaaGreatDoor.Msh
open Go.RowKit Go.Sort Go.ChangeMaps Go.MapKept Go.Proofs.YtaoichlepfiliaaGreatDoor.Mp Go.Proofs.YtaoichlepfiliaaGreatDoor.Adm Go.Proofs.YtaoichlepfiliaaGreatDoor.R Go.Proofs.YtaoichlepfiliaaGreatDoor.E Go.Proofs.YtaoichlepfiliaaGreatDoorW.PrintWords Go.Proofs.YtaoichlepfiliaaGreatDoorW.PrintLast
section
variable {w : World} {mb : Nat} {l : List S} {O F : List Tr} {M : Nat → Prop} {a b c : Int}
theorem mesh_w64 {A : Option Addr} {cp ab sb fb : Nat} {f g : Int × Int → Option Value} {s : Int → Option Value} (h : MeshIn w mb A cp ab sb fb l O F f g s M) (hk : behind O a b = some c) : W64 a ∧ W64 b ∧ W64 c := by
 have hh := h.rng _ (h.mesh.apx.mp hk)
 have := h.good.2
 rcases own_cases (a, b, c) with r | r | r <;> rw [r] at hh <;> simp only [rot] at hh <;> exact ⟨w64 (by omega) (by omega), w64 (by omega) (by omega), w64 (by omega) (by omega)⟩
theorem kill_range {A : Option Addr} {cp ab sb fb : Nat} {f g : Int × Int → Option Value} {s : Int → Option Value} (h : MeshIn w mb A cp ab sb fb l O F f g s M) {k : Nat} {x y : Int} (hE : Ef (fL f (a, b, c) k) x y) : 0 ≤ y ∧ y < l.length := by
 have h0 : ∀ x y, Ef f x y → 0 ≤ y ∧ y < l.length := fun x y q => by
  unfold Ef at q
  obtain ⟨v, hv⟩ := Option.isSome_iff_exists.mp q
  obtain ⟨z, -, hz⟩ := (h.apx x y v).mp hv
  have := h.rng _ hz
  rcases own_cases (x, y, z) with r | r | r <;> rw [r] at this <;> simp only [rot] at this <;> omega
 have h1 : ∀ (f : Int × Int → Option Value) (p : Int × Int), (∀ x y, Ef f x y → 0 ≤ y ∧ y < l.length) → ∀ x y, Ef (upd f p none) x y → 0 ≤ y ∧ y < l.length := fun f p hf x y h => by
  unfold Ef upd at h
  split at h
  ·cases h
  ·exact hf x y h
 unfold fL at hE
 split at hE
 ·exact h0 x y hE
 ·exact h1 _ _ h0 x y hE
 ·exact h1 _ _ (h1 _ _ h0) x y hE
 ·exact h1 _ _ (h1 _ _ (h1 _ _ h0)) x y hE
set_option maxRecDepth 100000 in
set_option maxHeartbeats 16000000 in
theorem kill_no (h : MeshAt w mb l O F M) (ha : W64 a) (hb : W64 b) (hk : behind O a b ≠ some c) : Calls Tryz.prog 75 #[ptr mb, .int .i64 a, .int .i64 b, .int .i64 c] w (KillPost w mb l O F M (a, b, c)) := by
 obtain ⟨A, cp, ab, sb, fb, f, g, s, hIn⟩ := h
 have HI := Aside0.mk hIn
 have z1 : w.cell? ⟨mb, 1, none⟩ = some (.map (some ab)) := by rw [blk_cell hIn.blk]; rfl
 have hl : (Instr.lookup 87 (.map (some ab)) (.agg #[.int .i64 a, .int .i64 b]) true).run Tryz.prog w = .ok (.tuple #[.int .i64 ((behind O a b).getD 0), .bool (behind O a b).isSome]) w := by
  have hm := hIn.apex.lookup (w := w) kE Tryz.underlying87 (zeroI w) (x := (a, b)) ⟨ha, hb⟩ true
  have e : f (a, b) = (behind O a b).map (Value.int .i64) := hIn.apx.ask hIn.mesh a b
  rw [e] at hm
  cases q : behind O a b <;> rw [q] at hm <;> exact hm
 have HP : Aside0 (KillPost w mb l O F M (a, b, c) (.returned (.int .i64 5)) w) := ⟨by
  unfold KillPost killE killO
  rw [if_neg hk, if_neg hk]
  exact ⟨rfl, ⟨A, cp, ab, sb, fb, f, g, s, hIn⟩, Fr.refl _ _⟩⟩
 clear hIn HI
 cases q : behind O a b with
 | none =>
  rw [q] at hl
  simp only [Option.getD_none, Option.isSome_none] at hl
  clear q hk
  go_enter Tryz.func75, Tryz.ntmps75
  go_wp2
  go_ret
  exact HP.out
 | some d =>
  rw [q] at hl hk
  simp only [Option.getD_some, Option.isSome_some] at hl
  have d1 : (d != c) = true := bne_iff_ne.mpr (fun e => hk (by rw [e]))
  clear q hk
  go_enter Tryz.func75, Tryz.ntmps75
  go_wp2
  go_ret
  exact HP.out
set_option maxRecDepth 100000 in
set_option maxHeartbeats 16000000 in
theorem kill_on (h : MeshAt w mb l O F M) (hk : behind O a b = some c) : Calls Tryz.prog 75 #[ptr mb, .int .i64 a, .int .i64 b, .int .i64 c] w (KillPost w mb l O F M (a, b, c)) := by
 obtain ⟨A, cp, ab, sb, fb, f, g, s, hIn⟩ := h
 have HI := Aside0.mk hIn
 have z1 : w.cell? ⟨mb, 1, none⟩ = some (.map (some ab)) := by rw [blk_cell hIn.blk]; rfl
 obtain ⟨wa, wb, wc⟩ := mesh_w64 hIn hk
 have hl : (Instr.lookup 87 (.map (some ab)) (.agg #[.int .i64 a, .int .i64 b]) true).run Tryz.prog w = .ok (.tuple #[.int .i64 c, .bool true]) w := by
  have hm := hIn.apex.lookup (w := w) kE Tryz.underlying87 (zeroI w) (x := (a, b)) ⟨wa, wb⟩ true
  have e : f (a, b) = (behind O a b).map (Value.int .i64) := hIn.apx.ask hIn.mesh a b
  rw [e, hk] at hm
  exact hm
 have HW := Aside0.mk (And.intro wa (And.intro wb wc))
 have HK := Aside0.mk hk
 have HSZ : Aside0 (∀ (k : Nat) (x : Int) (xs : List Int), xs.Nodup → (∀ z ∈ xs, Ef (fL f (a, b, c) k) x z) → xs.length ≤ 4294967296) := ⟨fun k x xs hn hx => by
  have h1 := spoke_size (l := l) hn (fun y hy => kill_range hIn (hx y hy))
  have := hIn.good.2
  omega⟩
 have d1 : (c != c) = false := by simp
 have har := fun w => around_call a b c w
 have hi0 := fun W => idxE0 a b c W
 have hi1 := fun W => idxE1 a b c W
 have hi2 := fun W => idxE2 a b c W
 clear wa wb wc hk hIn
 go_enter Tryz.func75, Tryz.ntmps75
 go_wp2_with (go_at_call 68; (with_reducible refine (har _).mono ?_); rintro u_ w6 ⟨rfl, hg6⟩)
 have HGo : KGo w w6 mb A cp ab sb fb l O f g M a b c 0 s := ⟨(HI.out.toRaw.below hg6.below).edges (fun _ _ q => q), Fr.of_below hg6.below⟩
 clear hg6 hl z1
 go_loopw [37] (fun v37 wq => ∃ k : Nat, k ≤ 3 ∧ v37 = .int .i64 k ∧ ∃ s', Aside0 (KGo w wq mb A cp ab sb fb l O f g M a b c k s')) (fun v37 _ => 3 - (intOf v37).toNat)
 case atStart => exact ⟨0, by omega, rfl, s, ⟨HGo⟩⟩
 case round =>
  clear HGo
  obtain ⟨k, hk, rfl, s', HR⟩ := hrel
  rcases (show k = 0 ∨ k = 1 ∨ k = 2 ∨ k = 3 by omega) with rfl | rfl | rfl | rfl
  ·have hX : Below wr.heap.size wr (World.drew (wr.alloc (.cells #[.int .i64 a, .int .i64 b] 91))) := below_drew1 (below_alloc (Below.refl _ _) _)
   have hmb1 : wr.cell? ⟨mb, 1, none⟩ = some (.map (some ab)) := by rw [blk_cell HR.out.raw.blk]; rfl
   have hmp := (HR.out.raw.below hX).apex
   have n1 : mb ≠ ab := fun e => by
    obtain ⟨o, hb, hn⟩ := map_obj HR.out.raw.apex
    rw [← e, HR.out.raw.blk] at hb
    injection hb with hb
    exact hn _ _ _ hb.symm
   have n3 : wr.heap.size ≠ ab := fun e => by have := HR.out.raw.apex.lt; omega
   have hblk : (World.drew (wr.alloc (.cells #[.int .i64 a, .int .i64 b] 91))).heap[wr.heap.size]? = some (.cells #[.int .i64 a, .int .i64 b] 91 (0, 0)) := blk_new _ _
   have HL : Aside0 (∀ W : World, (∀ q, q ≠ ab → W.heap[q]? = (World.drew (wr.alloc (.cells #[.int .i64 a, .int .i64 b] 91))).heap[q]?) → W.cell? ⟨mb, 1, none⟩ = some (.map (some ab)) ∧ W.cell? ⟨wr.heap.size, 0, none⟩ = some (.int .i64 a) ∧ W.cell? ⟨wr.heap.size, 1, none⟩ = some (.int .i64 b)) := ⟨fun W hW => ⟨(World.cell?_of_block (hW _ n1)).trans (bcell hX hmb1), blk_cell ((hW _ n3).trans hblk) 0, blk_cell ((hW _ n3).trans hblk) 1⟩⟩
   have HB := Aside0.mk (And.intro hblk (And.intro n1 n3))
   have HX := Aside0.mk hX
   clear hmb1 n1 n3 hblk hX
   go_upto_region 9 with (fail)
   go_region_held3 (fun W => W.cell? ⟨mb, 1, none⟩ = some (.map (some ab)) ∧ W.cell? ⟨wr.heap.size, 0, none⟩ = some (.int .i64 a) ∧ W.cell? ⟨wr.heap.size, 1, none⟩ = some (.int .i64 b))
    (first | (with_reducible exact HL.out _ (fun _ _ => rfl)) | (with_reducible exact HL.out _ hoW))
    ((refine step_delete kE Tryz.underlying87 rfl (.tmp 43) (.tmp 44) rfl rfl (y := (a, b)) rfl hmp ⟨HW.out.1, HW.out.2.1⟩ ?_; intro Y hmY hoW hbY))
   all_goals
    have hX1 := HR.out.raw.below HX.out
    have hYr := hX1.apex_set hmY hoW hbY.size
    obtain ⟨v, xs, hv, hrow, hnd, hE⟩ := hYr.spoke a
    have hlen : xs.length ≤ 4294967296 := HSZ.out 0 a xs hnd hE
    have hmb : Y.heap[mb]? = _ := (hoW mb HB.out.2.1).trans ((HX.out.block mb (blk_lt HR.out.raw.blk)).trans HR.out.raw.blk)
    have hbk : Y.heap[wr.heap.size]? = some (.cells #[.int .i64 a, .int .i64 b] 91 (0, 0)) := (hoW _ HB.out.2.2).trans HB.out.1
    have n4 : mb ≠ sb := fun e => by
     obtain ⟨o, hb, hn⟩ := map_obj hYr.spokes
     rw [← e, hmb] at hb
     injection hb with hb
     exact hn _ _ _ hb.symm
    have n5 : wr.heap.size ≠ sb := fun e => by have := HR.out.raw.spokes.lt; omega
    have n6 := row_not hrow hmb (by decide)
    have n7 := row_not hrow hbk (by decide)
    have n8 : some sb ≠ v.ownBlock := (hYr.row_ne (map_obj hYr.spokes).choose_spec.1 (map_obj hYr.spokes).choose_spec.2).1 |> fun q e => by
     cases es : s' a with
     | none => rw [es] at hv; rw [← hv] at e; simp [Value.ownBlock] at e
     | some u => rw [es] at hv; exact q a u es (by rw [show u = v from hv]; exact e.symm)
    have c1 : Y.cell? ⟨mb, 2, none⟩ = some (.map (some sb)) := by rw [blk_cell hmb]; rfl
    have c2 : Y.cell? ⟨wr.heap.size, 0, none⟩ = some (.int .i64 a) := blk_cell hbk 0
    have c3 : Y.cell? ⟨wr.heap.size, 1, none⟩ = some (.int .i64 b) := blk_cell hbk 1
    have hlk1 : (Instr.lookup 88 (.map (some sb)) (.int .i64 a) false).run Tryz.prog Y.drew = .ok v Y.drew := by
     have := (hYr.spokes.below (below_drew1 (Below.refl _ _))).lookup (w := Y.drew) kI Tryz.underlying88 (zeroSl _) HW.out.1 false
     rw [hv] at this
     exact this
    have hdl := delI_call wr.heap.size (w := Y.drew) (Kd.R_drew hrow) hlen (fun z => z == b) (fun z W hW => killcl_call wr.heap.size z b W (cell_grown hW (show Y.drew.cell? _ = _ from c3) n7))
    have hmf : ∀ (fn : Fn) (first cap : Array Value) (w : World), (Instr.makeFunc fn first cap).run Tryz.prog w = .ok (.func fn first cap) w := fun _ _ _ _ => rfl
    have HZ := Aside0.mk (And.intro hYr (And.intro hv (And.intro hrow (And.intro hnd (And.intro hE (And.intro n4 (And.intro n5 (And.intro n6 (And.intro n7 n8)))))))))
    have HC := Aside0.mk (And.intro c1 (And.intro c2 c3))
    have HMY := Aside0.mk (And.intro hmY (And.intro hoW hbY))
    have hL19 : Aside0 (∀ W, Below Y.heap.size Y W → W.cell? ⟨mb, 2, none⟩ = some (.map (some sb)) ∧ W.cell? ⟨wr.heap.size, 0, none⟩ = some (.int .i64 a) ∧ W.cell? ⟨wr.heap.size, 1, none⟩ = some (.int .i64 b)) := ⟨fun W hb => ⟨bcell hb c1, bcell hb c2, bcell hb c3⟩⟩
    clear hYr hv hrow hnd hE n4 n5 n6 n7 n8 c1 c2 c3 hlen hX1 hmb hbk hmY hoW hbY hmp
    go_upto_region 10 with (fail)
    go_region_held3 (fun W => W.cell? ⟨mb, 2, none⟩ = some (.map (some sb)) ∧ W.cell? ⟨wr.heap.size, 0, none⟩ = some (.int .i64 a) ∧ W.cell? ⟨wr.heap.size, 1, none⟩ = some (.int .i64 b))
     (first | (with_reducible exact HS1.out) | (with_reducible exact HS2.out) | (with_reducible refine heldB hL19 ?_; (repeat (first | assumption | exact Below.refl _ _ | apply below_drew1 | apply below_alloc | apply pw_below_drewN))))
     ((go_at_call 99
       (with_reducible refine hdl.mono ?_)
       rintro u_ w1 ⟨v1, rfl, hr1, hg1, hat1⟩
       have HR1 := Aside0.mk (And.intro hr1 (And.intro hg1 hat1))
       have HS1 := Aside0.mk (And.intro (cell_grown hg1 (show Y.drew.cell? _ = _ from HC.out.1) HZ.out.2.2.2.2.2.2.2.1) (And.intro (cell_grown hg1 (show Y.drew.cell? _ = _ from HC.out.2.1) HZ.out.2.2.2.2.2.2.2.2.1) (cell_grown hg1 (show Y.drew.cell? _ = _ from HC.out.2.2) HZ.out.2.2.2.2.2.2.2.2.1)))
       have hU2 := (HZ.out.1.spokes.move (w' := w1) (hg1.block sb HZ.out.1.spokes.lt HZ.out.2.2.2.2.2.2.2.2.2)).update kI Tryz.underlying88 HW.out.1 v1
       obtain ⟨ob2, hrun2, hmf2⟩ := hU2
       have HS2 := Aside0.mk (And.intro (cell_other HS1.out.1 HZ.out.2.2.2.2.2.1 ob2) (And.intro (cell_other HS1.out.2.1 HZ.out.2.2.2.2.2.2.1 ob2) (cell_other HS1.out.2.2 HZ.out.2.2.2.2.2.2.1 ob2)))
       have HM2 := Aside0.mk hmf2
       clear hmf2 hr1 hg1 hat1))
    all_goals
     go_wp2
     go_roundw
     case rel => exact ⟨1, by omega, rfl, _, ⟨HR.out.step HI.out.old HX.out rfl HMY.out.1 HMY.out.2.1 HMY.out.2.2 HZ.out.2.1 HZ.out.2.2.2.1 HZ.out.2.2.2.2.1 HZ.out.2.2.1 HR1.out.1 ⟨HR1.out.2.1.os, HR1.out.2.1.tape, HR1.out.2.1.output, HR1.out.2.1.size, HR1.out.2.1.block⟩ HR1.out.2.2 HM2.out⟩⟩
     case measure => simp [intOf]
  ·have hX : Below wr.heap.size wr (World.drew (wr.alloc (.cells #[.int .i64 b, .int .i64 c] 91))) := below_drew1 (below_alloc (Below.refl _ _) _)
   have hmb1 : wr.cell? ⟨mb, 1, none⟩ = some (.map (some ab)) := by rw [blk_cell HR.out.raw.blk]; rfl
   have hmp := (HR.out.raw.below hX).apex
   have n1 : mb ≠ ab := fun e => by
    obtain ⟨o, hb, hn⟩ := map_obj HR.out.raw.apex
    rw [← e, HR.out.raw.blk] at hb
    injection hb with hb
    exact hn _ _ _ hb.symm
   have n3 : wr.heap.size ≠ ab := fun e => by have := HR.out.raw.apex.lt; omega
   have hblk : (World.drew (wr.alloc (.cells #[.int .i64 b, .int .i64 c] 91))).heap[wr.heap.size]? = some (.cells #[.int .i64 b, .int .i64 c] 91 (0, 0)) := blk_new _ _
   have HL : Aside0 (∀ W : World, (∀ q, q ≠ ab → W.heap[q]? = (World.drew (wr.alloc (.cells #[.int .i64 b, .int .i64 c] 91))).heap[q]?) → W.cell? ⟨mb, 1, none⟩ = some (.map (some ab)) ∧ W.cell? ⟨wr.heap.size, 0, none⟩ = some (.int .i64 b) ∧ W.cell? ⟨wr.heap.size, 1, none⟩ = some (.int .i64 c)) := ⟨fun W hW => ⟨(World.cell?_of_block (hW _ n1)).trans (bcell hX hmb1), blk_cell ((hW _ n3).trans hblk) 0, blk_cell ((hW _ n3).trans hblk) 1⟩⟩
   have HB := Aside0.mk (And.intro hblk (And.intro n1 n3))
   have HX := Aside0.mk hX
   clear hmb1 n1 n3 hblk hX
   go_upto_region 9 with (fail)
   go_region_held3 (fun W => W.cell? ⟨mb, 1, none⟩ = some (.map (some ab)) ∧ W.cell? ⟨wr.heap.size, 0, none⟩ = some (.int .i64 b) ∧ W.cell? ⟨wr.heap.size, 1, none⟩ = some (.int .i64 c))
    (first | (with_reducible exact HL.out _ (fun _ _ => rfl)) | (with_reducible exact HL.out _ hoW))
    ((refine step_delete kE Tryz.underlying87 rfl (.tmp 43) (.tmp 44) rfl rfl (y := (b, c)) rfl hmp ⟨HW.out.2.1, HW.out.2.2⟩ ?_; intro Y hmY hoW hbY))
   all_goals
    have hX1 := HR.out.raw.below HX.out
    have hYr := hX1.apex_set hmY hoW hbY.size
    obtain ⟨v, xs, hv, hrow, hnd, hE⟩ := hYr.spoke b
    have hlen : xs.length ≤ 4294967296 := HSZ.out 1 b xs hnd hE
    have hmb : Y.heap[mb]? = _ := (hoW mb HB.out.2.1).trans ((HX.out.block mb (blk_lt HR.out.raw.blk)).trans HR.out.raw.blk)
    have hbk : Y.heap[wr.heap.size]? = some (.cells #[.int .i64 b, .int .i64 c] 91 (0, 0)) := (hoW _ HB.out.2.2).trans HB.out.1
    have n4 : mb ≠ sb := fun e => by
     obtain ⟨o, hb, hn⟩ := map_obj hYr.spokes
     rw [← e, hmb] at hb
     injection hb with hb
     exact hn _ _ _ hb.symm
    have n5 : wr.heap.size ≠ sb := fun e => by have := HR.out.raw.spokes.lt; omega
    have n6 := row_not hrow hmb (by decide)
    have n7 := row_not hrow hbk (by decide)
    have n8 : some sb ≠ v.ownBlock := (hYr.row_ne (map_obj hYr.spokes).choose_spec.1 (map_obj hYr.spokes).choose_spec.2).1 |> fun q e => by
     cases es : s' b with
     | none => rw [es] at hv; rw [← hv] at e; simp [Value.ownBlock] at e
     | some u => rw [es] at hv; exact q b u es (by rw [show u = v from hv]; exact e.symm)
    have c1 : Y.cell? ⟨mb, 2, none⟩ = some (.map (some sb)) := by rw [blk_cell hmb]; rfl
    have c2 : Y.cell? ⟨wr.heap.size, 0, none⟩ = some (.int .i64 b) := blk_cell hbk 0
    have c3 : Y.cell? ⟨wr.heap.size, 1, none⟩ = some (.int .i64 c) := blk_cell hbk 1
    have hlk1 : (Instr.lookup 88 (.map (some sb)) (.int .i64 b) false).run Tryz.prog Y.drew = .ok v Y.drew := by
     have := (hYr.spokes.below (below_drew1 (Below.refl _ _))).lookup (w := Y.drew) kI Tryz.underlying88 (zeroSl _) HW.out.2.1 false
     rw [hv] at this
     exact this
    have hdl := delI_call wr.heap.size (w := Y.drew) (Kd.R_drew hrow) hlen (fun z => z == c) (fun z W hW => killcl_call wr.heap.size z c W (cell_grown hW (show Y.drew.cell? _ = _ from c3) n7))
    have hmf : ∀ (fn : Fn) (first cap : Array Value) (w : World), (Instr.makeFunc fn first cap).run Tryz.prog w = .ok (.func fn first cap) w := fun _ _ _ _ => rfl
    have HZ := Aside0.mk (And.intro hYr (And.intro hv (And.intro hrow (And.intro hnd (And.intro hE (And.intro n4 (And.intro n5 (And.intro n6 (And.intro n7 n8)))))))))
    have HC := Aside0.mk (And.intro c1 (And.intro c2 c3))
    have HMY := Aside0.mk (And.intro hmY (And.intro hoW hbY))
    have hL19 : Aside0 (∀ W, Below Y.heap.size Y W → W.cell? ⟨mb, 2, none⟩ = some (.map (some sb)) ∧ W.cell? ⟨wr.heap.size, 0, none⟩ = some (.int .i64 b) ∧ W.cell? ⟨wr.heap.size, 1, none⟩ = some (.int .i64 c)) := ⟨fun W hb => ⟨bcell hb c1, bcell hb c2, bcell hb c3⟩⟩
    clear hYr hv hrow hnd hE n4 n5 n6 n7 n8 c1 c2 c3 hlen hX1 hmb hbk hmY hoW hbY hmp
    go_upto_region 10 with (fail)
    go_region_held3 (fun W => W.cell? ⟨mb, 2, none⟩ = some (.map (some sb)) ∧ W.cell? ⟨wr.heap.size, 0, none⟩ = some (.int .i64 b) ∧ W.cell? ⟨wr.heap.size, 1, none⟩ = some (.int .i64 c))
     (first | (with_reducible exact HS1.out) | (with_reducible exact HS2.out) | (with_reducible refine heldB hL19 ?_; (repeat (first | assumption | exact Below.refl _ _ | apply below_drew1 | apply below_alloc | apply pw_below_drewN))))
     ((go_at_call 99
       (with_reducible refine hdl.mono ?_)
       rintro u_ w1 ⟨v1, rfl, hr1, hg1, hat1⟩
       have HR1 := Aside0.mk (And.intro hr1 (And.intro hg1 hat1))
       have HS1 := Aside0.mk (And.intro (cell_grown hg1 (show Y.drew.cell? _ = _ from HC.out.1) HZ.out.2.2.2.2.2.2.2.1) (And.intro (cell_grown hg1 (show Y.drew.cell? _ = _ from HC.out.2.1) HZ.out.2.2.2.2.2.2.2.2.1) (cell_grown hg1 (show Y.drew.cell? _ = _ from HC.out.2.2) HZ.out.2.2.2.2.2.2.2.2.1)))
       have hU2 := (HZ.out.1.spokes.move (w' := w1) (hg1.block sb HZ.out.1.spokes.lt HZ.out.2.2.2.2.2.2.2.2.2)).update kI Tryz.underlying88 HW.out.2.1 v1
       obtain ⟨ob2, hrun2, hmf2⟩ := hU2
       have HS2 := Aside0.mk (And.intro (cell_other HS1.out.1 HZ.out.2.2.2.2.2.1 ob2) (And.intro (cell_other HS1.out.2.1 HZ.out.2.2.2.2.2.2.1 ob2) (cell_other HS1.out.2.2 HZ.out.2.2.2.2.2.2.1 ob2)))
       have HM2 := Aside0.mk hmf2
       clear hmf2 hr1 hg1 hat1))
    all_goals
     go_wp2
     go_roundw
     case rel => exact ⟨2, by omega, rfl, _, ⟨HR.out.step HI.out.old HX.out rfl HMY.out.1 HMY.out.2.1 HMY.out.2.2 HZ.out.2.1 HZ.out.2.2.2.1 HZ.out.2.2.2.2.1 HZ.out.2.2.1 HR1.out.1 ⟨HR1.out.2.1.os, HR1.out.2.1.tape, HR1.out.2.1.output, HR1.out.2.1.size, HR1.out.2.1.block⟩ HR1.out.2.2 HM2.out⟩⟩
     case measure => simp [intOf]
  ·have hX : Below wr.heap.size wr (World.drew (wr.alloc (.cells #[.int .i64 c, .int .i64 a] 91))) := below_drew1 (below_alloc (Below.refl _ _) _)
   have hmb1 : wr.cell? ⟨mb, 1, none⟩ = some (.map (some ab)) := by rw [blk_cell HR.out.raw.blk]; rfl
   have hmp := (HR.out.raw.below hX).apex
   have n1 : mb ≠ ab := fun e => by
    obtain ⟨o, hb, hn⟩ := map_obj HR.out.raw.apex
    rw [← e, HR.out.raw.blk] at hb
    injection hb with hb
    exact hn _ _ _ hb.symm
   have n3 : wr.heap.size ≠ ab := fun e => by have := HR.out.raw.apex.lt; omega
   have hblk : (World.drew (wr.alloc (.cells #[.int .i64 c, .int .i64 a] 91))).heap[wr.heap.size]? = some (.cells #[.int .i64 c, .int .i64 a] 91 (0, 0)) := blk_new _ _
   have HL : Aside0 (∀ W : World, (∀ q, q ≠ ab → W.heap[q]? = (World.drew (wr.alloc (.cells #[.int .i64 c, .int .i64 a] 91))).heap[q]?) → W.cell? ⟨mb, 1, none⟩ = some (.map (some ab)) ∧ W.cell? ⟨wr.heap.size, 0, none⟩ = some (.int .i64 c) ∧ W.cell? ⟨wr.heap.size, 1, none⟩ = some (.int .i64 a)) := ⟨fun W hW => ⟨(World.cell?_of_block (hW _ n1)).trans (bcell hX hmb1), blk_cell ((hW _ n3).trans hblk) 0, blk_cell ((hW _ n3).trans hblk) 1⟩⟩
   have HB := Aside0.mk (And.intro hblk (And.intro n1 n3))
   have HX := Aside0.mk hX
   clear hmb1 n1 n3 hblk hX
   go_upto_region 9 with (fail)
   go_region_held3 (fun W => W.cell? ⟨mb, 1, none⟩ = some (.map (some ab)) ∧ W.cell? ⟨wr.heap.size, 0, none⟩ = some (.int .i64 c) ∧ W.cell? ⟨wr.heap.size, 1, none⟩ = some (.int .i64 a))
    (first | (with_reducible exact HL.out _ (fun _ _ => rfl)) | (with_reducible exact HL.out _ hoW))
    ((refine step_delete kE Tryz.underlying87 rfl (.tmp 43) (.tmp 44) rfl rfl (y := (c, a)) rfl hmp ⟨HW.out.2.2, HW.out.1⟩ ?_; intro Y hmY hoW hbY))
   all_goals
    have hX1 := HR.out.raw.below HX.out
    have hYr := hX1.apex_set hmY hoW hbY.size
    obtain ⟨v, xs, hv, hrow, hnd, hE⟩ := hYr.spoke c
    have hlen : xs.length ≤ 4294967296 := HSZ.out 2 c xs hnd hE
    have hmb : Y.heap[mb]? = _ := (hoW mb HB.out.2.1).trans ((HX.out.block mb (blk_lt HR.out.raw.blk)).trans HR.out.raw.blk)
    have hbk : Y.heap[wr.heap.size]? = some (.cells #[.int .i64 c, .int .i64 a] 91 (0, 0)) := (hoW _ HB.out.2.2).trans HB.out.1
    have n4 : mb ≠ sb := fun e => by
     obtain ⟨o, hb, hn⟩ := map_obj hYr.spokes
     rw [← e, hmb] at hb
     injection hb with hb
     exact hn _ _ _ hb.symm
    have n5 : wr.heap.size ≠ sb := fun e => by have := HR.out.raw.spokes.lt; omega
    have n6 := row_not hrow hmb (by decide)
    have n7 := row_not hrow hbk (by decide)
    have n8 : some sb ≠ v.ownBlock := (hYr.row_ne (map_obj hYr.spokes).choose_spec.1 (map_obj hYr.spokes).choose_spec.2).1 |> fun q e => by
     cases es : s' c with
     | none => rw [es] at hv; rw [← hv] at e; simp [Value.ownBlock] at e
     | some u => rw [es] at hv; exact q c u es (by rw [show u = v from hv]; exact e.symm)
    have c1 : Y.cell? ⟨mb, 2, none⟩ = some (.map (some sb)) := by rw [blk_cell hmb]; rfl
    have c2 : Y.cell? ⟨wr.heap.size, 0, none⟩ = some (.int .i64 c) := blk_cell hbk 0
    have c3 : Y.cell? ⟨wr.heap.size, 1, none⟩ = some (.int .i64 a) := blk_cell hbk 1
    have hlk1 : (Instr.lookup 88 (.map (some sb)) (.int .i64 c) false).run Tryz.prog Y.drew = .ok v Y.drew := by
     have := (hYr.spokes.below (below_drew1 (Below.refl _ _))).lookup (w := Y.drew) kI Tryz.underlying88 (zeroSl _) HW.out.2.2 false
     rw [hv] at this
     exact this
    have hdl := delI_call wr.heap.size (w := Y.drew) (Kd.R_drew hrow) hlen (fun z => z == a) (fun z W hW => killcl_call wr.heap.size z a W (cell_grown hW (show Y.drew.cell? _ = _ from c3) n7))
    have hmf : ∀ (fn : Fn) (first cap : Array Value) (w : World), (Instr.makeFunc fn first cap).run Tryz.prog w = .ok (.func fn first cap) w := fun _ _ _ _ => rfl
    have HZ := Aside0.mk (And.intro hYr (And.intro hv (And.intro hrow (And.intro hnd (And.intro hE (And.intro n4 (And.intro n5 (And.intro n6 (And.intro n7 n8)))))))))
    have HC := Aside0.mk (And.intro c1 (And.intro c2 c3))
    have HMY := Aside0.mk (And.intro hmY (And.intro hoW hbY))
    have hL19 : Aside0 (∀ W, Below Y.heap.size Y W → W.cell? ⟨mb, 2, none⟩ = some (.map (some sb)) ∧ W.cell? ⟨wr.heap.size, 0, none⟩ = some (.int .i64 c) ∧ W.cell? ⟨wr.heap.size, 1, none⟩ = some (.int .i64 a)) := ⟨fun W hb => ⟨bcell hb c1, bcell hb c2, bcell hb c3⟩⟩
    clear hYr hv hrow hnd hE n4 n5 n6 n7 n8 c1 c2 c3 hlen hX1 hmb hbk hmY hoW hbY hmp
    go_upto_region 10 with (fail)
    go_region_held3 (fun W => W.cell? ⟨mb, 2, none⟩ = some (.map (some sb)) ∧ W.cell? ⟨wr.heap.size, 0, none⟩ = some (.int .i64 c) ∧ W.cell? ⟨wr.heap.size, 1, none⟩ = some (.int .i64 a))
     (first | (with_reducible exact HS1.out) | (with_reducible exact HS2.out) | (with_reducible refine heldB hL19 ?_; (repeat (first | assumption | exact Below.refl _ _ | apply below_drew1 | apply below_alloc | apply pw_below_drewN))))
     ((go_at_call 99
       (with_reducible refine hdl.mono ?_)
       rintro u_ w1 ⟨v1, rfl, hr1, hg1, hat1⟩
       have HR1 := Aside0.mk (And.intro hr1 (And.intro hg1 hat1))
       have HS1 := Aside0.mk (And.intro (cell_grown hg1 (show Y.drew.cell? _ = _ from HC.out.1) HZ.out.2.2.2.2.2.2.2.1) (And.intro (cell_grown hg1 (show Y.drew.cell? _ = _ from HC.out.2.1) HZ.out.2.2.2.2.2.2.2.2.1) (cell_grown hg1 (show Y.drew.cell? _ = _ from HC.out.2.2) HZ.out.2.2.2.2.2.2.2.2.1)))
       have hU2 := (HZ.out.1.spokes.move (w' := w1) (hg1.block sb HZ.out.1.spokes.lt HZ.out.2.2.2.2.2.2.2.2.2)).update kI Tryz.underlying88 HW.out.2.2 v1
       obtain ⟨ob2, hrun2, hmf2⟩ := hU2
       have HS2 := Aside0.mk (And.intro (cell_other HS1.out.1 HZ.out.2.2.2.2.2.1 ob2) (And.intro (cell_other HS1.out.2.1 HZ.out.2.2.2.2.2.2.1 ob2) (cell_other HS1.out.2.2 HZ.out.2.2.2.2.2.2.1 ob2)))
       have HM2 := Aside0.mk hmf2
       clear hmf2 hr1 hg1 hat1))
    all_goals
     go_wp2
     go_roundw
     case rel => exact ⟨3, by omega, rfl, _, ⟨HR.out.step HI.out.old HX.out rfl HMY.out.1 HMY.out.2.1 HMY.out.2.2 HZ.out.2.1 HZ.out.2.2.2.1 HZ.out.2.2.2.2.1 HZ.out.2.2.1 HR1.out.1 ⟨HR1.out.2.1.os, HR1.out.2.1.tape, HR1.out.2.1.output, HR1.out.2.1.size, HR1.out.2.1.block⟩ HR1.out.2.2 HM2.out⟩⟩
     case measure => simp [intOf]
  ·have hms := mesh_size HI.out.mesh HI.out.good.2 HI.out.rng
   have q3 : wr.cell? ⟨mb, 3, none⟩ = some (.int .i64 (O.length : Nat)) := by rw [blk_cell HR.out.raw.blk]; rfl
   have q4 := blk_frozen HR.out.raw.blk 3
   have i1 : IntKind.i64.wrap (((O.length : Nat) : Int) - 1) = ((O.length : Nat) : Int) - 1 := wrapN (by omega) (by omega)
   clear hms
   go_wp2
   go_ret
   refine kill_done HI.out HK.out (HR.out.raw.count_set _) ?_
   exact HR.out.fr.trans (M' := fun q => q = mb) ⟨rfl, rfl, rfl, by simp, fun q hq hn => Below.heap_setCell _ _ _ _ hn⟩ (fun q _ e => by rw [e]; exact HI.out.mine.1)
theorem kill_call (h : MeshAt w mb l O F M) (ha : W64 a) (hb : W64 b) : Calls Tryz.prog 75 #[ptr mb, .int .i64 a, .int .i64 b, .int .i64 c] w (KillPost w mb l O F M (a, b, c)) := by
 by_cases hk : behind O a b = some c
 ·exact kill_on h hk
 ·exact kill_no h ha hb hk
end
end Go.Proofs.YtaoichlepfiliaaGreatDoor.Msh
