/- Lemmas of MdB. Conditions stand in each. -/
import Derived.Test.YtaoichlepfiliaaGreatDoorQXMdx
import Derived.Test.YtaoichlepfiliaaGreatDoorQXMcb
import Derived.Test.YtaoichlepfiliaaGreatDoorProg
import Derived.Shelf.SlSortCmp.NoneTotal
set_option linter.unusedSimpArgs false
set_option linter.unusedVariables false
section
namespace Go.Proofs.YtaoichlepfiliaaGreatDoor.Msh
open Go.RowKit Go.Sort Go.ChangeMaps Go.MapKept Go.Proofs.YtaoichlepfiliaaGreatDoor.Mp Go.Proofs.YtaoichlepfiliaaGreatDoor.Adm Go.Proofs.YtaoichlepfiliaaGreatDoor.Kfl Go.Proofs.YtaoichlepfiliaaGreatDoor.R Go.Proofs.YtaoichlepfiliaaGreatDoor.E Go.Proofs.YtaoichlepfiliaaGreatDoorW.PrintWords Go.Proofs.YtaoichlepfiliaaGreatDoorW.PrintLast
theorem sq_wd : Wd sqL := fun x hx => by
 simp only [sqL, List.mem_cons, List.not_mem_nil, or_false] at hx
 rcases hx with rfl | rfl | rfl | rfl <;> decide
theorem sq_of_call (A A2 : Option Addr) (w : World) (hl : Kd.C k71 w A 4 sqL) (ht : Kd.C kTr w A2 2 sqT) : Calls Tryz.prog 62 #[.slice A 4 4, .slice A2 2 2] w fun e w' => ∃ mb M, e = .returned (.tuple #[ptr mb, .int .i64 0]) ∧ MeshAt w' mb sqL sqT [] M ∧ (∀ k, M k → w.heap.size ≤ k) ∧ Below w.heap.size w w' :=
 (of_call A 4 sqL A2 2 sqT w hl (by decide) sq_wd ht (by decide)).mono fun e w' ⟨hb, h⟩ => by
  rcases h with ⟨h, -⟩ | ⟨-, h, -⟩ | ⟨-, -, mb, M, he, hm, hk⟩
  ·exact absurd sq_all h
  ·rw [sq_of] at h; exact absurd rfl h
  ·rw [sq_of] at hm; exact ⟨mb, M, he, hm, hk, hb⟩
theorem sq_next (i : Nat) (hi : i < 5) : sqF (i + 1) = fixF sqL (sqF i) (sqE.getD i (0, 0)).1 (sqE.getD i (0, 0)).2 1 := by
 rcases (show i = 0 ∨ i = 1 ∨ i = 2 ∨ i = 3 ∨ i = 4 by omega) with rfl | rfl | rfl | rfl | rfl <;> rfl
set_option maxRecDepth 100000 in
set_option maxHeartbeats 8000000 in
theorem square_call (n : Nat) (hn : n ≤ 5) (w : World) : Calls Tryz.prog 31 #[.int .i64 n] w fun e w' => ∃ mb M, e = .returned (ptr mb) ∧ MeshAt w' mb sqL sqT (sqF n) M ∧ (∀ k, M k → w.heap.size ≤ k) ∧ Below w.heap.size w w' := by
 obtain ⟨W2, hW2⟩ : ∃ W2, W2 = (w.alloc (.cells #[.float .f64 0, .float .f64 0, .float .f64 4611686018427387904, .float .f64 0, .float .f64 0, .float .f64 4611686018427387904, .float .f64 4611686018427387904, .float .f64 4611686018427387904] 71)).alloc (.cells #[.int .i64 0, .int .i64 1, .int .i64 2, .int .i64 1, .int .i64 3, .int .i64 2] 53) := ⟨_, rfl⟩
 have hB2 : Below w.heap.size w W2 := by rw [hW2]; exact below_alloc (below_alloc (Below.refl _ _) _) _
 have hof := sq_of_call (some ⟨w.heap.size, 0, none⟩) (some ⟨w.heap.size + 1, 0, none⟩) W2 (blk_row flatP (by rw [hW2]; exact blk_alloc (blk_new _ _) _) (by rfl) (by decide)) (blk_row flatT (by rw [hW2]; exact blk_new2 _ _ _) (by rfl) (by decide))
 rw [hW2] at hof
 go_enter Tryz.func31, Tryz.ntmps31
 go_wp2_with (go_at_call 62; (with_reducible refine hof.mono ?_); rintro u_ w3 ⟨mb, M, rfl, hM3, hk3, hB3⟩; rw [← hW2] at hk3 hB3)
 obtain ⟨W4, hW4⟩ : ∃ W4, W4 = w3.alloc (.cells #[.int .i64 0, .int .i64 1, .int .i64 1, .int .i64 3, .int .i64 3, .int .i64 2, .int .i64 2, .int .i64 0, .int .i64 1, .int .i64 2] 67) := ⟨_, rfl⟩
 have hB4 : Below w3.heap.size w3 W4 := by rw [hW4]; exact below_alloc (Below.refl _ _) _
 have HE4 : Aside0 (W4.heap[w3.heap.size]? = some (.cells #[.int .i64 0, .int .i64 1, .int .i64 1, .int .i64 3, .int .i64 3, .int .i64 2, .int .i64 2, .int .i64 0, .int .i64 1, .int .i64 2] 67 (0, 0)) ∧ w3.heap.size < W4.heap.size ∧ ∀ k, M k → k < w3.heap.size) := ⟨by rw [hW4]; exact blk_new _ _, by rw [hW4]; simp, hM3.old⟩
 have HB := Aside0.mk (And.intro ((hB2.trans (hB3.mono hB2.size)).trans (hB4.mono (Nat.le_trans hB2.size hB3.size))) (And.intro hk3 hB2.size))
 have HS : Aside0 (MeshAt W4 mb sqL sqT (sqF 0) M ∧ Fr M W4 W4) := ⟨⟨hM3.below hB4, Fr.refl _ _⟩⟩
 rw [← hW4]
 clear hof hW2 hB2 hM3 hk3 hB3 hB4 hW4
 generalize w3.heap.size = B5 at *
 go_loopw [4, 6] (fun v4 v6 wr => ∃ (i : Nat), v4 = .int .i64 0 ∧ v6 = .int .i64 i ∧ i ≤ n ∧ Aside0 (MeshAt wr mb sqL sqT (sqF i) M ∧ Fr M W4 wr)) (fun _ v6 _ => n - (intOf v6).toNat)
 case atStart => exact ⟨0, rfl, rfl, by omega, HS⟩
 case round =>
  clear HS
  obtain ⟨i, rfl, rfl, hi, HT⟩ := hrel
  by_cases hlt : i < n
  ·have hbk : wr.heap[B5]? = some (.cells #[.int .i64 0, .int .i64 1, .int .i64 1, .int .i64 3, .int .i64 3, .int .i64 2, .int .i64 2, .int .i64 0, .int .i64 1, .int .i64 2] 67 (0, 0)) := (HT.out.2.block B5 HE4.out.2.1 fun q => by have := HE4.out.2.2 _ q; omega).trans HE4.out.1
   have HN : Aside0 (fixF sqL (sqF i) (sqE.getD i (0, 0)).1 (sqE.getD i (0, 0)).2 1 = sqF (i + 1)) := ⟨(sq_next i (by omega)).symm⟩
   have HX : Aside0 (fixE sqL (sqE.getD i (0, 0)).1 (sqE.getD i (0, 0)).2 = 0) := ⟨sq_fix _ (by rw [List.getD_eq_getElem?_getD, List.getElem?_eq_getElem (show i < sqE.length by simp [sqE]; omega)]; exact List.getElem_mem _)⟩
   have d1 : decide (i < n) = true := decide_eq_true hlt
   have d2 : ((i < n) = True) := by simp; omega
   have HL : Aside0 (∀ W, Gr wr W → W.cell? ⟨B5, 0, none⟩ = some (.int .i64 0) ∧ W.cell? ⟨B5, 1, none⟩ = some (.int .i64 1) ∧ W.cell? ⟨B5, 2, none⟩ = some (.int .i64 1) ∧ W.cell? ⟨B5, 3, none⟩ = some (.int .i64 3) ∧ W.cell? ⟨B5, 4, none⟩ = some (.int .i64 3) ∧ W.cell? ⟨B5, 5, none⟩ = some (.int .i64 2) ∧ W.cell? ⟨B5, 6, none⟩ = some (.int .i64 2) ∧ W.cell? ⟨B5, 7, none⟩ = some (.int .i64 0) ∧ W.cell? ⟨B5, 8, none⟩ = some (.int .i64 1) ∧ W.cell? ⟨B5, 9, none⟩ = some (.int .i64 2)) := ⟨fun W hW => by have := gr_blk hbk hW; exact ⟨blk_cell this 0, blk_cell this 1, blk_cell this 2, blk_cell this 3, blk_cell this 4, blk_cell this 5, blk_cell this 6, blk_cell this 7, blk_cell this 8, blk_cell this 9⟩⟩
   have hfx := fun (W : World) (hW : Gr wr W) (a b : Int) (ha : W64 a) (hb : W64 b) => fix_call (cm := 1) (HT.out.1.below hW.below) ha hb
   have i1 : IntKind.i64.wrap 1 = 1 := by decide
   have i2 : IntKind.i64.wrap 2 = 2 := by decide
   have i3 : IntKind.i64.wrap 3 = 3 := by decide
   have i4 : IntKind.i64.wrap 4 = 4 := by decide
   have i5 : IntKind.i64.wrap 5 = 5 := by decide
   rcases (show i = 0 ∨ i = 1 ∨ i = 2 ∨ i = 3 ∨ i = 4 by omega) with rfl | rfl | rfl | rfl | rfl
   all_goals
    simp only [sqE, List.getD_cons_zero, List.getD_cons_succ] at HN HX
    go_upto_region 6 with (fail)
    go_region_held3 (fun W => W.cell? ⟨B5, 0, none⟩ = some (.int .i64 0) ∧ W.cell? ⟨B5, 1, none⟩ = some (.int .i64 1) ∧ W.cell? ⟨B5, 2, none⟩ = some (.int .i64 1) ∧ W.cell? ⟨B5, 3, none⟩ = some (.int .i64 3) ∧ W.cell? ⟨B5, 4, none⟩ = some (.int .i64 3) ∧ W.cell? ⟨B5, 5, none⟩ = some (.int .i64 2) ∧ W.cell? ⟨B5, 6, none⟩ = some (.int .i64 2) ∧ W.cell? ⟨B5, 7, none⟩ = some (.int .i64 0) ∧ W.cell? ⟨B5, 8, none⟩ = some (.int .i64 1) ∧ W.cell? ⟨B5, 9, none⟩ = some (.int .i64 2))
     (first | exact HS7.out | (with_reducible refine HL.out _ ?_; (repeat (first | assumption | exact Gr.refl _ | apply Gr.drew | apply Gr.alloc | apply Gr.drewN))))
     ((go_at_call 36; (with_reducible refine (hfx _ (by (with_reducible (repeat (first | exact Gr.refl _ | apply Gr.drew | apply Gr.drewN)))) _ _ (w64 (by decide) (by decide)) (w64 (by decide) (by decide))).mono ?_); rintro u_ w7 ⟨he, hm7, hf7⟩; rw [HX.out] at he; subst he; rw [HN.out] at hm7; have hb7 := (hf7.block B5 (blk_lt hbk) (fun q => by have := HE4.out.2.2 _ q; omega)).trans hbk; have HS7 := Aside0.mk (And.intro (blk_cell hb7 0) (And.intro (blk_cell hb7 1) (And.intro (blk_cell hb7 2) (And.intro (blk_cell hb7 3) (And.intro (blk_cell hb7 4) (And.intro (blk_cell hb7 5) (And.intro (blk_cell hb7 6) (And.intro (blk_cell hb7 7) (And.intro (blk_cell hb7 8) (blk_cell hb7 9))))))))))))
    all_goals
     go_wp2
     have HT7 := Aside0.mk (And.intro hm7 (HT.out.2.trans ((fr_of_gr (M := M) (Gr.refl wr).drew).trans hf7 fun _ _ q => q) fun _ _ q => q))
     go_roundw
     case rel => exact (by first | exact ⟨0 + 1, rfl, rfl, by omega, HT7⟩ | exact ⟨1 + 1, rfl, rfl, by omega, HT7⟩ | exact ⟨2 + 1, rfl, rfl, by omega, HT7⟩ | exact ⟨3 + 1, rfl, rfl, by omega, HT7⟩ | exact ⟨4 + 1, rfl, rfl, by omega, HT7⟩)
     case measure => simp [intOf]; omega
  ·have e : i = n := by omega
   subst e
   have d1 : decide (i < i) = false := by simp
   have HF := Aside0.mk HT.out
   clear HT
   go_wp2
   go_ret
   exact ⟨mb, M, rfl, HF.out.1, fun k hk => Nat.le_trans HB.out.2.2 (HB.out.2.1 k hk), HB.out.1.trans (HF.out.2.below (fun q hq => Nat.le_trans HB.out.2.2 (HB.out.2.1 q hq)) HB.out.1.size)⟩
theorem sq_fixd {w : World} {mb n : Nat} {M : Nat → Prop} (h : MeshAt w mb sqL sqT (sqF n) M) (a b : Int) : Fixd (sqF n) a b ↔ (fixO (sqF n) a b).isSome = true := (fixO_fixd (mesh_mesh h).2).symm
theorem sq_L1 {w : World} {mb n : Nat} {M : Nat → Prop} {L : List (List Tr)} (h : MeshAt w mb sqL sqT (sqF n) M) (hL : IsParts (Fixd (sqF n)) sqT L) (hf : (fixO (sqF n) 1 2).isSome = false) : L = [sqT] :=
 hL.eq (sq_one (mesh_mesh h).1 (fixd_comm _) fun q => by rw [sq_fixd h, hf] at q; cases q)
theorem sq_L2 {w : World} {mb n : Nat} {M : Nat → Prop} {L : List (List Tr)} (h : MeshAt w mb sqL sqT (sqF n) M) (hL : IsParts (Fixd (sqF n)) sqT L) (hf : (fixO (sqF n) 1 2).isSome = true) : L = [[(0, 1, 2)], [(1, 3, 2)]] :=
 hL.eq (sq_two (mesh_mesh h).1 (fixd_comm _) ((sq_fixd h 1 2).mpr hf))
theorem sq_outer0 {w : World} {mb : Nat} {M : Nat → Prop} (h : MeshAt w mb sqL sqT (sqF 0) M) : Calls Tryz.prog 10 #[ptr mb] w fun e w' => e = .returned (.tuple #[.int .i64 2, .int .i64 0]) ∧ Fr M w w' :=
 (outer_call h).mono fun e w' ⟨L, hL, he, _, hf⟩ => by
  rw [sq_L1 h hL (by rfl)] at he
  exact ⟨he, hf⟩
theorem sq_outer4 {w : World} {mb : Nat} {M : Nat → Prop} (h : MeshAt w mb sqL sqT (sqF 4) M) : Calls Tryz.prog 10 #[ptr mb] w fun e w' => e = .returned (.tuple #[.int .i64 0, .int .i64 0]) ∧ Fr M w w' :=
 (outer_call h).mono fun e w' ⟨L, hL, he, _, hf⟩ => by
  rw [sq_L1 h hL (by rfl)] at he
  exact ⟨he, hf⟩
def pOne : S := ⟨4607182418800017408, 4607182418800017408⟩
def pHalf : S := ⟨4602678819172646912, 4602678819172646912⟩
theorem wd_one {p : S} (h : gp p = true) (hw : wdS p) : (∀ x ∈ [p], wdS x) ∧ ∀ x ∈ [p], gp x = true := ⟨fun x hx => by rw [List.mem_singleton.mp hx]; exact hw, fun x hx => by rw [List.mem_singleton.mp hx]; exact h⟩
theorem sq_holes4 {w : World} {mb c : Nat} {M : Nat → Prop} {A : Option Addr} (h : MeshAt w mb sqL sqT (sqF 4) M) (hC : Kd.C k71 w A 1 [pOne]) : Calls Tryz.prog 12 #[ptr mb, .slice A 1 c] w fun e w' => e = .returned (.tuple #[.int .i64 2, .int .i64 0]) ∧ Fr M w w' := by
 have hp := wd_one (p := pOne) (by kernel_rfl) (by unfold wdS pOne; decide)
 refine (holes_call (lp := [pOne]) (c := c) h hC (by decide) hp.1 hp.2).mono fun e w' ⟨L, hL, he, _, hf⟩ => ?_
 rw [sq_L1 h hL (by rfl), show (([sqT].filter fun p => p.any fun t => [pOne].any (liesB sqL t)).flatten.length) = 2 by kernel_rfl] at he
 exact ⟨he, hf⟩
theorem sq_holes5 {w : World} {mb c : Nat} {M : Nat → Prop} {A : Option Addr} (h : MeshAt w mb sqL sqT (sqF 5) M) (hC : Kd.C k71 w A 1 [pHalf]) : Calls Tryz.prog 12 #[ptr mb, .slice A 1 c] w fun e w' => e = .returned (.tuple #[.int .i64 1, .int .i64 0]) ∧ Fr M w w' := by
 have hp := wd_one (p := pHalf) (by kernel_rfl) (by unfold wdS pHalf; decide)
 refine (holes_call (lp := [pHalf]) (c := c) h hC (by decide) hp.1 hp.2).mono fun e w' ⟨L, hL, he, _, hf⟩ => ?_
 rw [sq_L2 h hL (by rfl), show (([[(0, 1, 2)], [(1, 3, 2)]].filter fun p => p.any fun t => [pHalf].any (liesB sqL t)).flatten.length) = 1 by kernel_rfl] at he
 exact ⟨he, hf⟩
theorem pr_slice {W : World} {base : Nat} {v : Value} {hs : List Sl} {L : List (List Tr)} (h : Pr W base v hs L) : ∃ A c, v = .slice A L.length c := by
 obtain ⟨A, c, he, -, -⟩ := Kd.R_reads h.row
 exact ⟨A, c, by rw [he, h.len]⟩
theorem pr_one {W : World} {base : Nat} {v : Value} {hs : List Sl} {p : List Tr} (h : Pr W base v hs [p]) : ∃ g c A2 c2, v = .slice (some ⟨g, 0, none⟩) 1 c ∧ W.cell? ⟨g, 0, none⟩ = some (.slice A2 p.length c2) := by
 have hl : hs.length = 1 := h.len
 obtain ⟨x, rfl⟩ := List.length_eq_one_iff.mp hl
 have h1 := sl_row.mp h.row
 obtain ⟨g, c, rfl, -⟩ := h1.shape (by simp)
 have h2 := h1.cell (j := 0) (u := encSl x) rfl
 obtain ⟨A, d, he, -, -⟩ := Kd.R_reads (h.at_ 0 x p rfl rfl)
 exact ⟨g, c, A, d, rfl, by rw [h2, he]⟩
section
variable {w : World} {mb : Nat} {M : Nat → Prop}
theorem sq_parts5 (h : MeshAt w mb sqL sqT (sqF 5) M) : Calls Tryz.prog 20 #[ptr mb] w fun e w' => ∃ A c, e = .returned (.tuple #[.slice A 2 c, .int .i64 0]) ∧ Below w.heap.size w w' :=
 (parts_call h).mono fun e w' ⟨v, hs, L, he, hP, hL, hb⟩ => by
  have := sq_L2 h hL (by rfl)
  subst this
  obtain ⟨A, c, rfl⟩ := pr_slice hP
  exact ⟨A, c, he, hb⟩
theorem sq_parts0 (h : MeshAt w mb sqL sqT (sqF 0) M) : Calls Tryz.prog 20 #[ptr mb] w fun e w' => ∃ g c A2 c2, e = .returned (.tuple #[.slice (some ⟨g, 0, none⟩) 1 c, .int .i64 0]) ∧ w'.cell? ⟨g, 0, none⟩ = some (.slice A2 2 c2) ∧ Below w.heap.size w w' :=
 (parts_call h).mono fun e w' ⟨v, hs, L, he, hP, hL, hb⟩ => by
  have := sq_L1 h hL (by rfl)
  subst this
  obtain ⟨g, c, A2, c2, rfl, hc⟩ := pr_one hP
  exact ⟨g, c, A2, c2, he, hc, hb⟩
def oneAt (x : S) : Obj := .cells #[.float .f64 x.f0, .float .f64 x.f1] 71
theorem one_row (W : World) (x : S) : Kd.C k71 (W.alloc (oneAt x)) (some ⟨W.heap.size, 0, none⟩) 1 [x] := blk_row flatP (blk_new _ _) (by rfl) (show 1 ≤ maxLen by decide)
theorem sq_holes4_new (h : MeshAt w mb sqL sqT (sqF 4) M) : Calls Tryz.prog 12 #[ptr mb, .slice (some ⟨w.heap.size, 0, none⟩) 1 1] (w.alloc (.cells #[.float .f64 4607182418800017408, .float .f64 4607182418800017408] 71)) fun e w' => e = .returned (.tuple #[.int .i64 2, .int .i64 0]) ∧ Below w.heap.size w (w.alloc (.cells #[.float .f64 4607182418800017408, .float .f64 4607182418800017408] 71)) ∧ Fr M (w.alloc (.cells #[.float .f64 4607182418800017408, .float .f64 4607182418800017408] 71)) w' :=
 (sq_holes4 (h.below (below_alloc (Below.refl _ _) _)) (one_row w pOne)).mono fun _ _ ⟨h1, h2⟩ => ⟨h1, below_alloc (Below.refl _ _) _, h2⟩
theorem sq_holes5_new (h : MeshAt w mb sqL sqT (sqF 5) M) : Calls Tryz.prog 12 #[ptr mb, .slice (some ⟨w.heap.size, 0, none⟩) 1 1] (w.alloc (.cells #[.float .f64 4602678819172646912, .float .f64 4602678819172646912] 71)) fun e w' => e = .returned (.tuple #[.int .i64 1, .int .i64 0]) ∧ Below w.heap.size w (w.alloc (.cells #[.float .f64 4602678819172646912, .float .f64 4602678819172646912] 71)) ∧ Fr M (w.alloc (.cells #[.float .f64 4602678819172646912, .float .f64 4602678819172646912] 71)) w' :=
 (sq_holes5 (h.below (below_alloc (Below.refl _ _) _)) (one_row w pHalf)).mono fun _ _ ⟨h1, h2⟩ => ⟨h1, below_alloc (Below.refl _ _) _, h2⟩
end
def Gone (w W : World) : Prop := Below w.heap.size w W
theorem Gone.on {w W W' : World} (h : Gone w W) (k : Below W.heap.size W W') : Gone w W' := h.trans (k.mono h.size)
theorem Gone.fr {w W W' : World} {M : Nat → Prop} (h : Gone w W) (hk : ∀ k, M k → w.heap.size ≤ k) (k : Fr M W W') : Gone w W' := h.trans (k.below hk h.size)
theorem Gone.old {w W : World} {M : Nat → Prop} (h : Gone w W) (hk : ∀ k, M k → W.heap.size ≤ k) : ∀ k, M k → w.heap.size ≤ k := fun k q => Nat.le_trans h.size (hk k q)
theorem square0 (W : World) : Calls Tryz.prog 31 #[.int .i64 0] W fun e w' => ∃ mb M, e = .returned (ptr mb) ∧ MeshAt w' mb sqL sqT (sqF 0) M ∧ (∀ k, M k → W.heap.size ≤ k) ∧ Below W.heap.size W w' := square_call 0 (by omega) W
theorem square4 (W : World) : Calls Tryz.prog 31 #[.int .i64 4] W fun e w' => ∃ mb M, e = .returned (ptr mb) ∧ MeshAt w' mb sqL sqT (sqF 4) M ∧ (∀ k, M k → W.heap.size ≤ k) ∧ Below W.heap.size W w' := square_call 4 (by omega) W
theorem square5 (W : World) : Calls Tryz.prog 31 #[.int .i64 5] W fun e w' => ∃ mb M, e = .returned (ptr mb) ∧ MeshAt w' mb sqL sqT (sqF 5) M ∧ (∀ k, M k → W.heap.size ≤ k) ∧ Below W.heap.size W w' := square_call 5 (by omega) W
set_option maxRecDepth 100000 in
set_option maxHeartbeats 8000000 in
theorem works_call (w : World) : Calls Tryz.prog 7 #[] w fun e w' => e = .returned (.bool true) ∧ Below w.heap.size w w' := by
 have HB : Aside0 (Gone w w) := ⟨Below.refl _ _⟩
 go_enter Tryz.func7, Tryz.ntmps7
 go_wp2_with (first
  | (go_at_call 31; (with_reducible first | refine (square0 _).mono ?_ | refine (square4 _).mono ?_ | refine (square5 _).mono ?_); rintro u_ w3 ⟨mb, M, rfl, hM, hk, hb⟩; have HK := Aside0.mk (HB.out.old hk); have HB := Aside0.mk (HB.out.on hb); clear hk hb)
  | (go_at_call 10; (with_reducible first | refine (sq_outer0 hM).mono ?_ | refine (sq_outer4 hM).mono ?_); rintro u_ w4 ⟨rfl, hf⟩; have HB := Aside0.mk (HB.out.fr HK.out hf); clear hf)
  | (go_at_call 12; (with_reducible first | refine (sq_holes4_new hM).mono ?_ | refine (sq_holes5_new hM).mono ?_); rintro u_ w4 ⟨rfl, hb, hf⟩; have HB := Aside0.mk ((HB.out.on hb).fr HK.out hf); clear hb hf)
  | (go_at_call 20; (with_reducible refine (sq_parts5 hM).mono ?_); rintro u_ w4 ⟨A5, c5, rfl, hb⟩; have HB := Aside0.mk (HB.out.on hb); clear hb)
  | (go_at_call 20; (with_reducible refine (sq_parts0 hM).mono ?_); rintro u_ w4 ⟨g0, c0, A0, d0, rfl, hc, hb⟩; have HB := Aside0.mk (HB.out.on hb); clear hb))
 go_ret
 exact ⟨rfl, HB.out⟩
end Go.Proofs.YtaoichlepfiliaaGreatDoor.Msh
end
section
namespace Go.Proofs.YtaoichlepfiliaaGreatDoor.Msh
open Go.RowKit Go.Sort Go.Proofs.YtaoichlepfiliaaGreatDoor.Adm Go.Proofs.YtaoichlepfiliaaGreatDoorW.PrintWords Go.Proofs.YtaoichlepfiliaaGreatDoorW.PrintLast
set_option maxHeartbeats 1000000 in
theorem pairsKey_call (x : Int × Int) (w : World) : Calls Tryz.prog 91 #[encE x] w fun e w' => e = .returned (.agg #[.int .i64 x.1, .int .i64 x.2, .int .i64 0]) ∧ Gr w w' := by
 unfold encE
 have hG := Gr.refl w
 go_enter Tryz.func91, Tryz.ntmps91
 go_wp2
 refine bodyPost_ret (v := .agg #[.int .i64 x.1, .int .i64 x.2, .int .i64 0]) ?_ rfl ⟨rfl, ?_⟩
 ·simp [results, Tryz.results91, go_sem]
 ·exact (by (with_reducible (repeat (first | assumption | apply Gr.drew | apply Gr.alloc | apply Gr.drewN | apply gr_set))) <;> (simp))
theorem four_gr {w w1 : World} {p1 p2 p3 p4 p5 : Addr} {v1 v2 v3 v4 v5 : Value} (hb : Gr w w1) (h : w.cell? p1 = some v1 ∧ w.cell? p2 = some v2 ∧ w.cell? p3 = some v3 ∧ w.cell? p4 = some v4 ∧ w.cell? p5 = some v5) :
 w1.cell? p1 = some v1 ∧ w1.cell? p2 = some v2 ∧ w1.cell? p3 = some v3 ∧ w1.cell? p4 = some v4 ∧ w1.cell? p5 = some v5 :=
 ⟨hb.cell h.1, hb.cell h.2.1, hb.cell h.2.2.1, hb.cell h.2.2.2.1, hb.cell h.2.2.2.2⟩
set_option maxRecDepth 100000 in
set_option maxHeartbeats 16000000 in
theorem sortPairs_call (kb : Nat) (x y : Int × Int) (w : World) (hk : w.cell? ⟨kb, 0, none⟩ = some (.func (.func 91) #[] #[])) :
 Calls Tryz.prog 113 #[encE x, encE y, .pointer (some ⟨kb, 0, none⟩)] w fun e w' => e = .returned (.int .i64 (cmp3 (x.1, x.2, 0) (y.1, y.2, 0))) ∧ Gr w w' := by
 have hkey := fun x w => pairsKey_call x w
 have hcm := fun B C w => compare3_call B C (x.1, x.2, 0) (y.1, y.2, 0) w
 generalize cmp3 (x.1, x.2, 0) (y.1, y.2, 0) = r at *
 obtain ⟨x0, x1⟩ := x
 obtain ⟨y0, y1⟩ := y
 have hkx := hkey (x0, x1)
 have hky := hkey (y0, y1)
 unfold encE at hkx hky ⊢
 simp only at hkx hky hcm ⊢
 clear hkey
 go_enter Tryz.func113, Tryz.ntmps113
 go_upto_region 1 with (fail)
 go_cut [6, 7] (fun v6 v7 wc => ∃ g1 g2 : Nat, v6 = .pointer (some ⟨g1, 0, none⟩) ∧ v7 = .pointer (some ⟨g2, 0, none⟩) ∧ (wc.cell? ⟨g1, 0, none⟩ = some (.int .i64 x0) ∧ wc.cell? ⟨g1, 1, none⟩ = some (.int .i64 x1) ∧ wc.cell? ⟨g1, 2, none⟩ = some (.int .i64 0) ∧ wc.cell? ⟨g2, 0, none⟩ = some (.int .i64 y0) ∧ wc.cell? ⟨g2, 1, none⟩ = some (.int .i64 y1) ∧ wc.cell? ⟨g2, 2, none⟩ = some (.int .i64 0)) ∧ Gr w wc)
 case first =>
  obtain ⟨W1, hW1⟩ : ∃ W1, W1 = (w.alloc (.cells #[.int .i64 x0, .int .i64 x1] 67)).alloc (.cells #[.int .i64 y0, .int .i64 y1] 67) := ⟨_, rfl⟩
  have hG : Gr w W1 := by rw [hW1]; exact ((Gr.refl w).alloc _).alloc _
  have hS : W1.cell? ⟨kb, 0, none⟩ = some (.func (.func 91) #[] #[]) ∧ W1.cell? ⟨w.heap.size, 0, none⟩ = some (.int .i64 x0) ∧ W1.cell? ⟨w.heap.size, 1, none⟩ = some (.int .i64 x1) ∧ W1.cell? ⟨w.heap.size + 1, 0, none⟩ = some (.int .i64 y0) ∧ W1.cell? ⟨w.heap.size + 1, 1, none⟩ = some (.int .i64 y1) := by
   refine ⟨hG.cell hk, ?_⟩
   rw [hW1]
   simp
  have hsz : W1.heap.size = w.heap.size + 2 := by rw [hW1]; simp
  have HSZ := Aside0.mk hsz
  have h0 := Gr.refl W1
  rw [← hW1]
  clear hW1 hk hsz
  go_region_held3 (fun W' => W'.cell? ⟨kb, 0, none⟩ = some (.func (.func 91) #[] #[]) ∧ W'.cell? ⟨w.heap.size, 0, none⟩ = some (.int .i64 x0) ∧ W'.cell? ⟨w.heap.size, 1, none⟩ = some (.int .i64 x1) ∧ W'.cell? ⟨w.heap.size + 1, 0, none⟩ = some (.int .i64 y0) ∧ W'.cell? ⟨w.heap.size + 1, 1, none⟩ = some (.int .i64 y1))
   (first | (with_reducible exact hS) | (with_reducible refine four_gr ?_ hS; (with_reducible (repeat (first | assumption | apply Gr.drew | apply Gr.alloc | apply Gr.drewN | apply gr_set))) <;> (dsimp only; omega)) | (with_reducible refine four_gr ?_ hS; (with_reducible (repeat (first | assumption | apply Gr.drew | apply Gr.alloc | apply Gr.drewN)))))
   (first
    | (go_at_call 91; (with_reducible refine (hkx _).mono ?_); rintro u_ w5 ⟨rfl, hg⟩; ((try (replace h61 := gr_mv h61 (by (with_reducible (repeat (first | exact Gr.refl _ | apply Gr.drew | apply Gr.alloc | apply Gr.drewN)))) hg; obtain ⟨q60, q61, q62, q63, q64, q65, q66⟩ := three_cells h61)); (try (replace h62 := gr_mv h62 (by (with_reducible (repeat (first | exact Gr.refl _ | apply Gr.drew | apply Gr.alloc | apply Gr.drewN)))) hg; obtain ⟨r60, r61, r62, r63, r64, r65, r66⟩ := three_cells h62))); (first | ((with_reducible have hz := bx2 (w0 := W1) (by (with_reducible (repeat (first | assumption | apply Gr.drew | apply Gr.alloc | apply Gr.drewN)))) hg); obtain ⟨h51, h52, z51, z52⟩ := hz; obtain ⟨q50, q51, q52, q53, q54, q55, q56⟩ := three_cells h51; obtain ⟨r50, r51, r52, r53, r54, r55, r56⟩ := three_cells h52) | ((with_reducible have hz := bx2d (w0 := W1) (by (with_reducible (repeat (first | assumption | apply Gr.drew | apply Gr.alloc | apply Gr.drewN)))) hg); obtain ⟨h51, h52, z51, z52⟩ := hz; obtain ⟨q50, q51, q52, q53, q54, q55, q56⟩ := three_cells h51; obtain ⟨r50, r51, r52, r53, r54, r55, r56⟩ := three_cells h52) | ((with_reducible have hz := bx1 (w0 := W1) (by (with_reducible (repeat (first | assumption | apply Gr.drew | apply Gr.alloc | apply Gr.drewN)))) hg); obtain ⟨h51, z51, z52⟩ := hz; obtain ⟨q50, q51, q52, q53, q54, q55, q56⟩ := three_cells h51) | ((with_reducible have hz := bx1d (w0 := W1) (by (with_reducible (repeat (first | assumption | apply Gr.drew | apply Gr.alloc | apply Gr.drewN)))) hg); obtain ⟨h51, z51, z52⟩ := hz; obtain ⟨q50, q51, q52, q53, q54, q55, q56⟩ := three_cells h51) | skip); have hG5 := gr_step (w := W1) (by (with_reducible (repeat (first | assumption | apply Gr.drew | apply Gr.alloc | apply Gr.drewN)))) hg; have s5 := hG5.below.size; clear hg)
    | (go_at_call 91; (with_reducible refine (hky _).mono ?_); rintro u_ w6 ⟨rfl, hg⟩; ((try (replace h51 := gr_mv h51 (by (with_reducible (repeat (first | exact Gr.refl _ | apply Gr.drew | apply Gr.alloc | apply Gr.drewN)))) hg; obtain ⟨q50, q51, q52, q53, q54, q55, q56⟩ := three_cells h51)); (try (replace h52 := gr_mv h52 (by (with_reducible (repeat (first | exact Gr.refl _ | apply Gr.drew | apply Gr.alloc | apply Gr.drewN)))) hg; obtain ⟨r50, r51, r52, r53, r54, r55, r56⟩ := three_cells h52))); (first | ((with_reducible have hz := bx2 (w0 := W1) (by (with_reducible (repeat (first | assumption | apply Gr.drew | apply Gr.alloc | apply Gr.drewN)))) hg); obtain ⟨h61, h62, z61, z62⟩ := hz; obtain ⟨q60, q61, q62, q63, q64, q65, q66⟩ := three_cells h61; obtain ⟨r60, r61, r62, r63, r64, r65, r66⟩ := three_cells h62) | ((with_reducible have hz := bx2d (w0 := W1) (by (with_reducible (repeat (first | assumption | apply Gr.drew | apply Gr.alloc | apply Gr.drewN)))) hg); obtain ⟨h61, h62, z61, z62⟩ := hz; obtain ⟨q60, q61, q62, q63, q64, q65, q66⟩ := three_cells h61; obtain ⟨r60, r61, r62, r63, r64, r65, r66⟩ := three_cells h62) | ((with_reducible have hz := bx1 (w0 := W1) (by (with_reducible (repeat (first | assumption | apply Gr.drew | apply Gr.alloc | apply Gr.drewN)))) hg); obtain ⟨h61, z61, z62⟩ := hz; obtain ⟨q60, q61, q62, q63, q64, q65, q66⟩ := three_cells h61) | ((with_reducible have hz := bx1d (w0 := W1) (by (with_reducible (repeat (first | assumption | apply Gr.drew | apply Gr.alloc | apply Gr.drewN)))) hg); obtain ⟨h61, z61, z62⟩ := hz; obtain ⟨q60, q61, q62, q63, q64, q65, q66⟩ := three_cells h61) | skip); have hG6 := gr_step (w := W1) (by (with_reducible (repeat (first | assumption | apply Gr.drew | apply Gr.alloc | apply Gr.drewN)))) hg; have s6 := hG6.below.size; clear hg))
  all_goals
   go_wp2
   go_meet
   case rel => exact ⟨_, _, rfl, rfl, ⟨(by first | (simp; done) | (go_simp; done) | (simp (disch := omega) [World.cell?_setCell_ne]; done)), (by first | (simp; done) | (go_simp; done) | (simp (disch := omega) [World.cell?_setCell_ne]; done)), (by first | (simp; done) | (go_simp; done) | (simp (disch := omega) [World.cell?_setCell_ne]; done)), (by first | (simp; done) | (go_simp; done) | (simp (disch := omega) [World.cell?_setCell_ne]; done)), (by first | (simp; done) | (go_simp; done) | (simp (disch := omega) [World.cell?_setCell_ne]; done)), (by first | (simp; done) | (go_simp; done) | (simp (disch := omega) [World.cell?_setCell_ne]; done))⟩, hG.trans (by (with_reducible (repeat (first | assumption | apply Gr.drew | apply Gr.alloc | apply Gr.drewN | apply gr_set))) <;> (dsimp only; omega))⟩
 case rest =>
  obtain ⟨g1, g2, rfl, rfl, ⟨z1, z2, z3, z4, z5, z6⟩, hQ⟩ := hcut
  have hcm2 := fun W (h : Gr wc W) => hcm g1 g2 W (h.cell z1) (h.cell z2) (h.cell z3) (h.cell z4) (h.cell z5) (h.cell z6)
  clear hcm
  go_wp2
  go_region_held3 (fun _ => True) (trivial) ((go_at_call 83; (with_reducible refine (hcm2 _ (by (with_reducible (repeat (first | exact Gr.refl _ | apply Gr.drew | apply Gr.drewN))))).mono ?_); rintro u_ w7 ⟨rfl, rfl⟩))
  all_goals
   go_wp2
   go_ret
   exact ⟨rfl, (hQ.drew)⟩
end Go.Proofs.YtaoichlepfiliaaGreatDoor.Msh
end
section
namespace Go.Proofs.YtaoichlepfiliaaGreatDoor.Srp
open Go.Shelf
def sortRen : Go.Shelf.Ren := ⟨fun | 6 => 112 | 15 => 109 | 14 => 148 | 28 => 137 | 29 => 138 | 20 => 172 | 21 => 173 | 22 => 174 | 23 => 175 | 24 => 176 | 25 => 177 | 26 => 178 | 27 => 179 | 46 => 199 | 47 => 165 | 48 => 166 | 49 => 200 | 50 => 201 | 57 => 212 | n => n, fun | 22 => 65 | 24 => 67 | 25 => 147 | 3 => 3 | 39 => 143 | 0 => 0 | 53 => 170 | 55 => 139 | 4 => 4 | 46 => 164 | 45 => 163 | 50 => 54 | 5 => 5 | 9 => 9 | 66 => 186 | 70 => 190 | 76 => 208 | 77 => 209 | n => n, fun n => n⟩
theorem sortL : SlLaysF0.n6 Tryz.prog sortRen := {
 mixed := by kernel_rfl,
 f6 := ⟨Tryz.f112.name, by decide, Tryz.func112.trans (congrArg some (by kernel_rfl))⟩,
 f14 := ⟨Tryz.f148.name, by decide, Tryz.func148.trans (congrArg some (by kernel_rfl))⟩,
 f15 := Tryz.func109.trans (congrArg some (by kernel_rfl)),
 f20 := ⟨Tryz.f172.name, by decide, Tryz.func172.trans (congrArg some (by kernel_rfl))⟩,
 f21 := ⟨Tryz.f173.name, by decide, Tryz.func173.trans (congrArg some (by kernel_rfl))⟩,
 f22 := ⟨Tryz.f174.name, by decide, Tryz.func174.trans (congrArg some (by kernel_rfl))⟩,
 f23 := ⟨Tryz.f175.name, by decide, Tryz.func175.trans (congrArg some (by kernel_rfl))⟩,
 f24 := ⟨Tryz.f176.name, by decide, Tryz.func176.trans (congrArg some (by kernel_rfl))⟩,
 f25 := ⟨Tryz.f177.name, by decide, Tryz.func177.trans (congrArg some (by kernel_rfl))⟩,
 f26 := ⟨Tryz.f178.name, by decide, Tryz.func178.trans (congrArg some (by kernel_rfl))⟩,
 f27 := ⟨Tryz.f179.name, by decide, Tryz.func179.trans (congrArg some (by kernel_rfl))⟩,
 f28 := Tryz.func137.trans (congrArg some (by kernel_rfl)),
 f29 := Tryz.func138.trans (congrArg some (by kernel_rfl)),
 f46 := ⟨Tryz.f199.name, by decide, Tryz.func199.trans (congrArg some (by kernel_rfl))⟩,
 f47 := Tryz.func165.trans (congrArg some (by kernel_rfl)),
 f48 := Tryz.func166.trans (congrArg some (by kernel_rfl)),
 f49 := ⟨Tryz.f200.name, by decide, Tryz.func200.trans (congrArg some (by kernel_rfl))⟩,
 f50 := ⟨Tryz.f201.name, by decide, Tryz.func201.trans (congrArg some (by kernel_rfl))⟩,
 f57 := ⟨Tryz.f212.name, by decide, Tryz.func212.trans (congrArg some (by kernel_rfl))⟩,
 t0 := Tryz.underlying0,
 a0 := Tryz.isAgg0,
 z0 := Tryz.sizeOf0,
 v0 := Tryz.zeroValue0,
 t3 := Tryz.underlying3,
 a3 := Tryz.isAgg3,
 z3 := Tryz.sizeOf3,
 v3 := Tryz.zeroValue3,
 t4 := Tryz.underlying4,
 a4 := Tryz.isAgg4,
 z4 := Tryz.sizeOf4,
 v4 := Tryz.zeroValue4,
 t5 := Tryz.underlying5,
 a5 := Tryz.isAgg5,
 z5 := Tryz.sizeOf5,
 v5 := Tryz.zeroValue5,
 t9 := Tryz.underlying9,
 a9 := Tryz.isAgg9,
 z9 := Tryz.sizeOf9,
 v9 := Tryz.zeroValue9,
 t22 := Tryz.underlying65,
 a22 := Tryz.isAgg65,
 z22 := Tryz.sizeOf65,
 v22 := Tryz.zeroValue65,
 t25 := Tryz.underlying147,
 a25 := Tryz.isAgg147,
 z25 := Tryz.sizeOf147,
 v25 := Tryz.zeroValue147,
 t39 := Tryz.underlying143,
 a39 := Tryz.isAgg143,
 z39 := Tryz.sizeOf143,
 v39 := Tryz.zeroValue143,
 t45 := Tryz.underlying163,
 a45 := Tryz.isAgg163,
 z45 := Tryz.sizeOf163,
 v45 := Tryz.zeroValue163,
 t46 := Tryz.underlying164,
 a46 := Tryz.isAgg164,
 z46 := Tryz.sizeOf164,
 v46 := Tryz.zeroValue164,
 t50 := Tryz.underlying54,
 a50 := Tryz.isAgg54,
 z50 := Tryz.sizeOf54,
 v50 := Tryz.zeroValue54,
 t53 := Tryz.underlying170,
 a53 := Tryz.isAgg170,
 z53 := Tryz.sizeOf170,
 v53 := Tryz.zeroValue170,
 t55 := Tryz.underlying139,
 a55 := Tryz.isAgg139,
 z55 := Tryz.sizeOf139,
 v55 := Tryz.zeroValue139,
 t66 := Tryz.underlying186,
 a66 := Tryz.isAgg186,
 z66 := Tryz.sizeOf186,
 v66 := Tryz.zeroValue186,
 t70 := Tryz.underlying190,
 a70 := Tryz.isAgg190,
 z70 := Tryz.sizeOf190,
 v70 := Tryz.zeroValue190,
 t76 := Tryz.underlying208,
 a76 := Tryz.isAgg208,
 z76 := Tryz.sizeOf208,
 v76 := Tryz.zeroValue208,
 t77 := Tryz.underlying209,
 a77 := Tryz.isAgg209,
 z77 := Tryz.sizeOf209,
 v77 := Tryz.zeroValue209 }
end Go.Proofs.YtaoichlepfiliaaGreatDoor.Srp
end
