/- What the proof needs of MdC: only what is used is left (wip/tools/prune.py). Conditions stand in each sentence. -/
import Derived.Test.YtjiolfpahollkaaGreatDoorQNMdy
section
set_option linter.unusedVariables false
set_option linter.unusedSimpArgs false
namespace Go.Proofs.YtjiolfpahollkaaGreatDoor.Adm
end Go.Proofs.YtjiolfpahollkaaGreatDoor.Adm
namespace Go.Proofs.YtjiolfpahollkaaGreatDoor.E
end Go.Proofs.YtjiolfpahollkaaGreatDoor.E
namespace Go.Proofs.YtjiolfpahollkaaGreatDoor.Kfl
end Go.Proofs.YtjiolfpahollkaaGreatDoor.Kfl
namespace Go.Proofs.YtjiolfpahollkaaGreatDoor.Mp
end Go.Proofs.YtjiolfpahollkaaGreatDoor.Mp
namespace Go.Proofs.YtjiolfpahollkaaGreatDoor.R
end Go.Proofs.YtjiolfpahollkaaGreatDoor.R
namespace Go.Proofs.YtjiolfpahollkaaGreatDoorW.PrintLast
end Go.Proofs.YtjiolfpahollkaaGreatDoorW.PrintLast
namespace Go.Proofs.YtjiolfpahollkaaGreatDoorW.PrintMore
end Go.Proofs.YtjiolfpahollkaaGreatDoorW.PrintMore
namespace Go.Proofs.YtjiolfpahollkaaGreatDoorW.PrintWords
end Go.Proofs.YtjiolfpahollkaaGreatDoorW.PrintWords
namespace Go.Proofs.YtjiolfpahollkaaGreatDoor.Msh
open Go.RowKit Go.Sort Go.ChangeMaps Go.MapKept Go.Proofs.YtjiolfpahollkaaGreatDoor.Mp Go.Proofs.YtjiolfpahollkaaGreatDoor.Adm Go.Proofs.YtjiolfpahollkaaGreatDoor.Kfl Go.Proofs.YtjiolfpahollkaaGreatDoor.R Go.Proofs.YtjiolfpahollkaaGreatDoor.E Go.Proofs.YtjiolfpahollkaaGreatDoorW.PrintWords Go.Proofs.YtjiolfpahollkaaGreatDoorW.PrintLast Go.Proofs.YtjiolfpahollkaaGreatDoorW.PrintMore
theorem sq_fixd {w : World} {mb n : Nat} {M : Nat → Prop} (h : MeshAt w mb sqL sqT (sqF n) M) (a b : Int) : Fixd (sqF n) a b ↔ (fixO (sqF n) a b).isSome = true := (fixO_fixd (mesh_mesh h).2).symm
theorem sq_L1 {w : World} {mb n : Nat} {M : Nat → Prop} {L : List (List Tr)} (h : MeshAt w mb sqL sqT (sqF n) M) (hL : IsParts (Fixd (sqF n)) sqT L) (hf : (fixO (sqF n) 1 2).isSome = false) : L = [sqT] :=
  hL.eq (sq_one (mesh_mesh h).1 (fixd_comm _) fun q => by rw [sq_fixd h, hf] at q; cases q)
theorem sq_L2 {w : World} {mb n : Nat} {M : Nat → Prop} {L : List (List Tr)} (h : MeshAt w mb sqL sqT (sqF n) M) (hL : IsParts (Fixd (sqF n)) sqT L) (hf : (fixO (sqF n) 1 2).isSome = true) : L = [[(0, 1, 2)], [(1, 3, 2)]] :=
  hL.eq (sq_two (mesh_mesh h).1 (fixd_comm _) ((sq_fixd h 1 2).mpr hf))
theorem sq_outer0 {w : World} {mb : Nat} {M : Nat → Prop} (h : MeshAt w mb sqL sqT (sqF 0) M) : Calls Tryz.prog 17 #[ptr mb] w fun e w' => e = .returned (.tuple #[.int .i64 2, .int .i64 0]) ∧ Fr M w w' :=
  (outer_call h).mono fun e w' ⟨L, hL, he, _, hf⟩ => by
    rw [sq_L1 h hL (by rfl)] at he
    exact ⟨he, hf⟩
theorem sq_outer4 {w : World} {mb : Nat} {M : Nat → Prop} (h : MeshAt w mb sqL sqT (sqF 4) M) : Calls Tryz.prog 17 #[ptr mb] w fun e w' => e = .returned (.tuple #[.int .i64 0, .int .i64 0]) ∧ Fr M w w' :=
  (outer_call h).mono fun e w' ⟨L, hL, he, _, hf⟩ => by
    rw [sq_L1 h hL (by rfl)] at he
    exact ⟨he, hf⟩
theorem sq_outer3 {w : World} {mb : Nat} {M : Nat → Prop} (h : MeshAt w mb sqL sqT (sqF 3) M) : Calls Tryz.prog 17 #[ptr mb] w fun e w' => e = .returned (.tuple #[.int .i64 2, .int .i64 0]) ∧ Fr M w w' :=
  (outer_call h).mono fun e w' ⟨L, hL, he, _, hf⟩ => by
    rw [sq_L1 h hL (by rfl)] at he
    exact ⟨he, hf⟩
def pOne : S := ⟨4607182418800017408, 4607182418800017408⟩
def pHalf : S := ⟨4602678819172646912, 4602678819172646912⟩
theorem wd_one {p : S} (h : gp p = true) (hw : wdS p) : (∀ x ∈ [p], wdS x) ∧ ∀ x ∈ [p], gp x = true := ⟨fun x hx => by rw [List.mem_singleton.mp hx]; exact hw, fun x hx => by rw [List.mem_singleton.mp hx]; exact h⟩
theorem sq_holes4 {w : World} {mb c : Nat} {M : Nat → Prop} {A : Option Addr} (h : MeshAt w mb sqL sqT (sqF 4) M) (hC : Kd.C k68 w A 1 [pOne]) : Calls Tryz.prog 19 #[ptr mb, .slice A 1 c] w fun e w' => e = .returned (.tuple #[.int .i64 2, .int .i64 0]) ∧ Fr M w w' := by
  have hp := wd_one (p := pOne) (by kernel_rfl) (by unfold wdS pOne; decide)
  refine (holes_call (lp := [pOne]) (c := c) h hC (by decide) hp.1 hp.2).mono fun e w' ⟨L, hL, he, _, hf⟩ => ?_
  rw [sq_L1 h hL (by rfl), show (([sqT].filter fun p => p.any fun t => [pOne].any (liesB sqL t)).flatten.length) = 2 by kernel_rfl] at he
  exact ⟨he, hf⟩
theorem sq_holes5 {w : World} {mb c : Nat} {M : Nat → Prop} {A : Option Addr} (h : MeshAt w mb sqL sqT (sqF 5) M) (hC : Kd.C k68 w A 1 [pHalf]) : Calls Tryz.prog 19 #[ptr mb, .slice A 1 c] w fun e w' => e = .returned (.tuple #[.int .i64 1, .int .i64 0]) ∧ Fr M w w' := by
  have hp := wd_one (p := pHalf) (by kernel_rfl) (by unfold wdS pHalf; decide)
  refine (holes_call (lp := [pHalf]) (c := c) h hC (by decide) hp.1 hp.2).mono fun e w' ⟨L, hL, he, _, hf⟩ => ?_
  rw [sq_L2 h hL (by rfl), show (([[(0, 1, 2)], [(1, 3, 2)]].filter fun p => p.any fun t => [pHalf].any (liesB sqL t)).flatten.length) = 1 by kernel_rfl] at he
  exact ⟨he, hf⟩
end Go.Proofs.YtjiolfpahollkaaGreatDoor.Msh
end
section
set_option linter.unusedVariables false
set_option linter.unusedSimpArgs false
namespace Go.Proofs.YtjiolfpahollkaaGreatDoor.Adm
end Go.Proofs.YtjiolfpahollkaaGreatDoor.Adm
namespace Go.Proofs.YtjiolfpahollkaaGreatDoor.E
end Go.Proofs.YtjiolfpahollkaaGreatDoor.E
namespace Go.Proofs.YtjiolfpahollkaaGreatDoor.Kfl
end Go.Proofs.YtjiolfpahollkaaGreatDoor.Kfl
namespace Go.Proofs.YtjiolfpahollkaaGreatDoor.Mp
end Go.Proofs.YtjiolfpahollkaaGreatDoor.Mp
namespace Go.Proofs.YtjiolfpahollkaaGreatDoor.R
end Go.Proofs.YtjiolfpahollkaaGreatDoor.R
namespace Go.Proofs.YtjiolfpahollkaaGreatDoorW.PrintLast
end Go.Proofs.YtjiolfpahollkaaGreatDoorW.PrintLast
namespace Go.Proofs.YtjiolfpahollkaaGreatDoorW.PrintMore
end Go.Proofs.YtjiolfpahollkaaGreatDoorW.PrintMore
namespace Go.Proofs.YtjiolfpahollkaaGreatDoorW.PrintWords
end Go.Proofs.YtjiolfpahollkaaGreatDoorW.PrintWords
namespace Go.Proofs.YtjiolfpahollkaaGreatDoor.Msh
open Go.RowKit Go.Sort Go.ChangeMaps Go.MapKept Go.Proofs.YtjiolfpahollkaaGreatDoor.Mp Go.Proofs.YtjiolfpahollkaaGreatDoor.Adm Go.Proofs.YtjiolfpahollkaaGreatDoor.Kfl Go.Proofs.YtjiolfpahollkaaGreatDoor.R Go.Proofs.YtjiolfpahollkaaGreatDoor.E Go.Proofs.YtjiolfpahollkaaGreatDoorW.PrintWords Go.Proofs.YtjiolfpahollkaaGreatDoorW.PrintLast Go.Proofs.YtjiolfpahollkaaGreatDoorW.PrintMore
theorem pr_slice {W : World} {base : Nat} {v : Value} {hs : List Sl} {L : List (List Tr)} (h : Pr W base v hs L) : ∃ A c, v = .slice A L.length c := by
  obtain ⟨A, c, he, -, -⟩ := Kd.R_reads h.row
  exact ⟨A, c, by rw [he, h.len]⟩
theorem pr_one {W : World} {base : Nat} {v : Value} {hs : List Sl} {p : List Tr} (h : Pr W base v hs [p]) : ∃ g c A2 c2, v = .slice (some ⟨g, 0, none⟩) 1 c ∧ W.cell? ⟨g, 0, none⟩ = some (.slice A2 p.length c2) := by
  have hl : hs.length = 1 := h.len
  obtain ⟨x, rfl⟩ := List.length_eq_one_iff.mp hl
  have h1 := sl_row.mp h.row
  obtain ⟨g, c, rfl, -⟩ := h1.shape (by simp)
  have h2 := h1.cell (j := 0) (u := encSl x) rfl
  obtain ⟨A, d, he, -, -⟩ := Kd.R_reads (h.at_ 0 x p rfl rfl)
  exact ⟨g, c, A, d, rfl, by rw [h2, he]⟩
section
variable {w : World} {mb : Nat} {M : Nat → Prop}
theorem sq_parts5 (h : MeshAt w mb sqL sqT (sqF 5) M) : Calls Tryz.prog 27 #[ptr mb] w fun e w' => ∃ A c, e = .returned (.tuple #[.slice A 2 c, .int .i64 0]) ∧ Below w.heap.size w w' :=
  (parts_call h).mono fun e w' ⟨v, hs, L, he, hP, hL, hb⟩ => by
    have := sq_L2 h hL (by rfl)
    subst this
    obtain ⟨A, c, rfl⟩ := pr_slice hP
    exact ⟨A, c, he, hb⟩
theorem sq_parts0 (h : MeshAt w mb sqL sqT (sqF 0) M) : Calls Tryz.prog 27 #[ptr mb] w fun e w' => ∃ g c A2 c2, e = .returned (.tuple #[.slice (some ⟨g, 0, none⟩) 1 c, .int .i64 0]) ∧ w'.cell? ⟨g, 0, none⟩ = some (.slice A2 2 c2) ∧ Below w.heap.size w w' :=
  (parts_call h).mono fun e w' ⟨v, hs, L, he, hP, hL, hb⟩ => by
    have := sq_L1 h hL (by rfl)
    subst this
    obtain ⟨g, c, A2, c2, rfl, hc⟩ := pr_one hP
    exact ⟨g, c, A2, c2, he, hc, hb⟩
def oneAt (x : S) : Obj := .cells #[.float .f64 x.f0, .float .f64 x.f1] 68
theorem one_row (W : World) (x : S) : Kd.C k68 (W.alloc (oneAt x)) (some ⟨W.heap.size, 0, none⟩) 1 [x] := blk_row flatP (blk_new _ _) (by rfl) (show 1 ≤ maxLen by decide)
theorem sq_holes4_new (h : MeshAt w mb sqL sqT (sqF 4) M) : Calls Tryz.prog 19 #[ptr mb, .slice (some ⟨w.heap.size, 0, none⟩) 1 1] (w.alloc (.cells #[.float .f64 4607182418800017408, .float .f64 4607182418800017408] 68)) fun e w' => e = .returned (.tuple #[.int .i64 2, .int .i64 0]) ∧ Below w.heap.size w (w.alloc (.cells #[.float .f64 4607182418800017408, .float .f64 4607182418800017408] 68)) ∧ Fr M (w.alloc (.cells #[.float .f64 4607182418800017408, .float .f64 4607182418800017408] 68)) w' :=
  (sq_holes4 (h.below (below_alloc (Below.refl _ _) _)) (one_row w pOne)).mono fun _ _ ⟨h1, h2⟩ => ⟨h1, below_alloc (Below.refl _ _) _, h2⟩
theorem sq_holes5_new (h : MeshAt w mb sqL sqT (sqF 5) M) : Calls Tryz.prog 19 #[ptr mb, .slice (some ⟨w.heap.size, 0, none⟩) 1 1] (w.alloc (.cells #[.float .f64 4602678819172646912, .float .f64 4602678819172646912] 68)) fun e w' => e = .returned (.tuple #[.int .i64 1, .int .i64 0]) ∧ Below w.heap.size w (w.alloc (.cells #[.float .f64 4602678819172646912, .float .f64 4602678819172646912] 68)) ∧ Fr M (w.alloc (.cells #[.float .f64 4602678819172646912, .float .f64 4602678819172646912] 68)) w' :=
  (sq_holes5 (h.below (below_alloc (Below.refl _ _) _)) (one_row w pHalf)).mono fun _ _ ⟨h1, h2⟩ => ⟨h1, below_alloc (Below.refl _ _) _, h2⟩
end
def Gone (w W : World) : Prop := Below w.heap.size w W
theorem Gone.on {w W W' : World} (h : Gone w W) (k : Below W.heap.size W W') : Gone w W' := h.trans (k.mono h.size)
theorem Gone.fr {w W W' : World} {M : Nat → Prop} (h : Gone w W) (hk : ∀ k, M k → w.heap.size ≤ k) (k : Fr M W W') : Gone w W' := h.trans (k.below hk h.size)
theorem Gone.old {w W : World} {M : Nat → Prop} (h : Gone w W) (hk : ∀ k, M k → W.heap.size ≤ k) : ∀ k, M k → w.heap.size ≤ k := fun k q => Nat.le_trans h.size (hk k q)
theorem square0 (W : World) : Calls Tryz.prog 37 #[.int .i64 0] W fun e w' => ∃ mb M, e = .returned (ptr mb) ∧ MeshAt w' mb sqL sqT (sqF 0) M ∧ (∀ k, M k → W.heap.size ≤ k) ∧ Below W.heap.size W w' := square_call 0 (by omega) W
theorem square3 (W : World) : Calls Tryz.prog 37 #[.int .i64 3] W fun e w' => ∃ mb M, e = .returned (ptr mb) ∧ MeshAt w' mb sqL sqT (sqF 3) M ∧ (∀ k, M k → W.heap.size ≤ k) ∧ Below W.heap.size W w' := square_call 3 (by omega) W
theorem square4 (W : World) : Calls Tryz.prog 37 #[.int .i64 4] W fun e w' => ∃ mb M, e = .returned (ptr mb) ∧ MeshAt w' mb sqL sqT (sqF 4) M ∧ (∀ k, M k → W.heap.size ≤ k) ∧ Below W.heap.size W w' := square_call 4 (by omega) W
theorem square5 (W : World) : Calls Tryz.prog 37 #[.int .i64 5] W fun e w' => ∃ mb M, e = .returned (ptr mb) ∧ MeshAt w' mb sqL sqT (sqF 5) M ∧ (∀ k, M k → W.heap.size ≤ k) ∧ Below W.heap.size W w' := square_call 5 (by omega) W
set_option maxRecDepth 100000 in
set_option maxHeartbeats 8000000 in
theorem works_call (w : World) : Calls Tryz.prog 14 #[] w fun e w' => e = .returned (.bool true) ∧ Below w.heap.size w w' := by
  have HB : Aside0 (Gone w w) := ⟨Below.refl _ _⟩
  go_enter Tryz.func14, Tryz.ntmps14
  go_wp2_with (first
    | (go_at_call 37; (with_reducible first | refine (square0 _).mono ?_ | refine (square4 _).mono ?_ | refine (square5 _).mono ?_); rintro u_ w3 ⟨mb, M, rfl, hM, hk, hb⟩; have HK := Aside0.mk (HB.out.old hk); have HB := Aside0.mk (HB.out.on hb); clear hk hb)
    | (go_at_call 17; (with_reducible first | refine (sq_outer0 hM).mono ?_ | refine (sq_outer4 hM).mono ?_); rintro u_ w4 ⟨rfl, hf⟩; have HB := Aside0.mk (HB.out.fr HK.out hf); clear hf)
    | (go_at_call 19; (with_reducible first | refine (sq_holes4_new hM).mono ?_ | refine (sq_holes5_new hM).mono ?_); rintro u_ w4 ⟨rfl, hb, hf⟩; have HB := Aside0.mk ((HB.out.on hb).fr HK.out hf); clear hb hf)
    | (go_at_call 27; (with_reducible refine (sq_parts5 hM).mono ?_); rintro u_ w4 ⟨A5, c5, rfl, hb⟩; have HB := Aside0.mk (HB.out.on hb); clear hb)
    | (go_at_call 27; (with_reducible refine (sq_parts0 hM).mono ?_); rintro u_ w4 ⟨g0, c0, A0, d0, rfl, hc, hb⟩; have HB := Aside0.mk (HB.out.on hb); clear hb))
  go_ret
  exact ⟨rfl, HB.out⟩
end Go.Proofs.YtjiolfpahollkaaGreatDoor.Msh
end
