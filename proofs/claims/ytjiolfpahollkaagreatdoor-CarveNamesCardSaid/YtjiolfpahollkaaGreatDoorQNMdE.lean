/- What the proof needs of MdE: only what is used is left (wip/tools/prune.py). Conditions stand in each sentence. -/
import Derived.Test.YtjiolfpahollkaaGreatDoorQNMdC
import Derived.Test.YtjiolfpahollkaaGreatDoorQNMdy
import Derived.Test.YtjiolfpahollkaaGreatDoorRows
import Derived.ProofKit
import Derived.OpenShut
import Derived.LaidMore
import Derived.Deep.Slices
import Derived.Lib.SmallJoins
import Derived.Carry
import Derived.Stop.Joined
import Derived.Maps.OwnOps
import Derived.Test.YtjiolfpahollkaaGreatDoorQNMck
import Derived.WalkKit
import Derived.ShutString
import Derived.ChangeOld
import Derived.Below
import Derived.SizedLaws
import Derived.Laws.Cover2
section
set_option linter.unusedVariables false
set_option linter.unusedSimpArgs false
namespace Go.Proofs.YtjiolfpahollkaaGreatDoor.Adm
end Go.Proofs.YtjiolfpahollkaaGreatDoor.Adm
namespace Go.Proofs.YtjiolfpahollkaaGreatDoor.E
end Go.Proofs.YtjiolfpahollkaaGreatDoor.E
namespace Go.Proofs.YtjiolfpahollkaaGreatDoor.Kfl
end Go.Proofs.YtjiolfpahollkaaGreatDoor.Kfl
namespace Go.Proofs.YtjiolfpahollkaaGreatDoor.Mp
end Go.Proofs.YtjiolfpahollkaaGreatDoor.Mp
namespace Go.Proofs.YtjiolfpahollkaaGreatDoor.R
end Go.Proofs.YtjiolfpahollkaaGreatDoor.R
namespace Go.Proofs.YtjiolfpahollkaaGreatDoorW.PrintLast
end Go.Proofs.YtjiolfpahollkaaGreatDoorW.PrintLast
namespace Go.Proofs.YtjiolfpahollkaaGreatDoorW.PrintMore
end Go.Proofs.YtjiolfpahollkaaGreatDoorW.PrintMore
namespace Go.Proofs.YtjiolfpahollkaaGreatDoorW.PrintWords
end Go.Proofs.YtjiolfpahollkaaGreatDoorW.PrintWords
namespace Go.Proofs.YtjiolfpahollkaaGreatDoor.Msh
open Go.RowKit Go.Sort Go.ChangeMaps Go.MapKept Go.Proofs.YtjiolfpahollkaaGreatDoor.Mp Go.Proofs.YtjiolfpahollkaaGreatDoor.Adm Go.Proofs.YtjiolfpahollkaaGreatDoor.Kfl Go.Proofs.YtjiolfpahollkaaGreatDoor.R Go.Proofs.YtjiolfpahollkaaGreatDoor.E Go.Proofs.YtjiolfpahollkaaGreatDoorW.PrintWords Go.Proofs.YtjiolfpahollkaaGreatDoorW.PrintLast Go.Proofs.YtjiolfpahollkaaGreatDoorW.PrintMore
theorem int_row {W : World} {base : Nat} {v : Value} {xs : List Int} (h : (Kd.int .i64).R 3 W base anyB v xs) : LRow true W base 3 1 v xs.length (xs.flatMap fun x => [Value.int .i64 x]) := LRow.of_own ((flat_int .i64).row.mp h).2
theorem int_two {W : World} {base : Nat} {v : Value} {a b : Int} (h : (Kd.int .i64).R 3 W base anyB v [a, b]) : ∃ g c, v = .slice (some ⟨g, 0, none⟩) 2 c ∧ W.cell? ⟨g, 0, none⟩ = some (.int .i64 a) ∧ W.cell? ⟨g, 1, none⟩ = some (.int .i64 b) ∧ base ≤ g ∧ g < W.heap.size := by
  have h1 := int_row h
  obtain ⟨g, c, rfl, -⟩ := h1.shape (by simp)
  have := h1.lt g rfl
  exact ⟨g, c, rfl, h1.cell (j := 0) rfl, h1.cell (j := 1) rfl, this.1, this.2.1⟩
theorem two_row (W : World) (x y : S) : Kd.C k68 (W.alloc (.cells #[.float .f64 x.f0, .float .f64 x.f1, .float .f64 y.f0, .float .f64 y.f1] 68)) (some ⟨W.heap.size, 0, none⟩) 2 [x, y] := blk_row flatP (blk_new _ _) (by rfl) (show 2 ≤ maxLen by decide)
def pNine : S := ⟨4621256167635550208, 4621256167635550208⟩
def pNan : S := ⟨9221120237041090561, 0⟩
def pFar : S := ⟨0, 5062045981164437504⟩
def pNil : S := ⟨0, 0⟩
theorem wd_two {p q : S} (h : gp p = true) (hw : wdS p) (h2 : gp q = true) (hw2 : wdS q) : (∀ x ∈ [p, q], wdS x) ∧ ∀ x ∈ [p, q], gp x = true := by
  refine ⟨fun x hx => ?_, fun x hx => ?_⟩ <;> (simp only [List.mem_cons, List.not_mem_nil, or_false] at hx; rcases hx with rfl | rfl <;> assumption)
section
variable {w : World} {mb : Nat} {M : Nat → Prop}
theorem sq_spread_a (h : MeshAt w mb sqL sqT (sqF 5) M) : Calls Tryz.prog 34 #[ptr mb, .slice (some ⟨w.heap.size, 0, none⟩) 2 2] (w.alloc (.cells #[.float .f64 4621256167635550208, .float .f64 4621256167635550208, .float .f64 4602678819172646912, .float .f64 4602678819172646912] 68)) fun e w' => ∃ g c, e = .returned (.tuple #[.slice (some ⟨g, 0, none⟩) 2 c, .int .i64 0]) ∧ (w'.cell? ⟨g, 0, none⟩ = some (.int .i64 1) ∧ w'.cell? ⟨g, 1, none⟩ = some (.int .i64 (-1))) ∧ Below w.heap.size w w' := by
  have hp := wd_two (p := pNine) (q := pHalf) (by kernel_rfl) (by unfold wdS pNine; decide) (by kernel_rfl) (by unfold wdS pHalf; decide)
  have hb : Below w.heap.size w (w.alloc (.cells #[.float .f64 4621256167635550208, .float .f64 4621256167635550208, .float .f64 4602678819172646912, .float .f64 4602678819172646912] 68)) := below_alloc (Below.refl _ _) _
  refine (spread_call (lp := [pNine, pHalf]) (c := 2) (h.below hb) (two_row w pNine pHalf) (by decide) hp.1 hp.2).mono fun e w' ⟨v, L, hL, he, hR, hB⟩ => ?_
  rw [sq_L2 (h.below hb) hL (by rfl), show (sqT.map (spreadI sqL [pNine, pHalf] [[(0, 1, 2)], [(1, 3, 2)]])) = [1, -1] by kernel_rfl] at hR
  obtain ⟨g, c, rfl, h0, h1, -⟩ := int_two hR
  exact ⟨g, c, he, ⟨h0, h1⟩, hb.trans (hB.mono hb.size)⟩
theorem sq_spread_b (h : MeshAt w mb sqL sqT (sqF 5) M) : Calls Tryz.prog 34 #[ptr mb, .slice (some ⟨w.heap.size, 0, none⟩) 1 1] (w.alloc (.cells #[.float .f64 4607182418800017408, .float .f64 4607182418800017408] 68)) fun e w' => ∃ g c, e = .returned (.tuple #[.slice (some ⟨g, 0, none⟩) 2 c, .int .i64 0]) ∧ (w'.cell? ⟨g, 0, none⟩ = some (.int .i64 0) ∧ w'.cell? ⟨g, 1, none⟩ = some (.int .i64 0)) ∧ Below w.heap.size w w' := by
  have hp := wd_one (p := pOne) (by kernel_rfl) (by unfold wdS pOne; decide)
  have hb : Below w.heap.size w (w.alloc (.cells #[.float .f64 4607182418800017408, .float .f64 4607182418800017408] 68)) := below_alloc (Below.refl _ _) _
  refine (spread_call (lp := [pOne]) (c := 1) (h.below hb) (one_row w pOne) (by decide) hp.1 hp.2).mono fun e w' ⟨v, L, hL, he, hR, hB⟩ => ?_
  rw [sq_L2 (h.below hb) hL (by rfl), show (sqT.map (spreadI sqL [pOne] [[(0, 1, 2)], [(1, 3, 2)]])) = [0, 0] by kernel_rfl] at hR
  obtain ⟨g, c, rfl, h0, h1, -⟩ := int_two hR
  exact ⟨g, c, he, ⟨h0, h1⟩, hb.trans (hB.mono hb.size)⟩
theorem sq_holes_c : Calls Tryz.prog 19 #[ptr mb, .slice (some ⟨w.heap.size, 0, none⟩) 1 1] (w.alloc (.cells #[.float .f64 9221120237041090561, .float .f64 0] 68)) fun e w' => e = .returned (.tuple #[.int .i64 0, .int .i64 10]) ∧ Below w.heap.size w w' := by
  have hb : Below w.heap.size w (w.alloc (.cells #[.float .f64 9221120237041090561, .float .f64 0] 68)) := below_alloc (Below.refl _ _) _
  refine (holes_bad (lp := [pNan]) (c := 1) (one_row w pNan) (by decide) (fun x hx => ?_) (by kernel_rfl)).mono fun e w' ⟨he, hB⟩ => ⟨he, hb.trans (hB.mono hb.size)⟩
  rw [List.mem_singleton.mp hx]
  unfold wdS pNan; decide
theorem sq_spread_d : Calls Tryz.prog 34 #[ptr mb, .slice (some ⟨w.heap.size, 0, none⟩) 2 2] (w.alloc (.cells #[.float .f64 0, .float .f64 0, .float .f64 0, .float .f64 5062045981164437504] 68)) fun e w' => e = .returned (.tuple #[.slice none 0 0, .int .i64 10]) ∧ Below w.heap.size w w' := by
  have hb : Below w.heap.size w (w.alloc (.cells #[.float .f64 0, .float .f64 0, .float .f64 0, .float .f64 5062045981164437504] 68)) := below_alloc (Below.refl _ _) _
  refine (spread_bad (lp := [pNil, pFar]) (c := 2) (two_row w pNil pFar) (by decide) (fun x hx => ?_) (by kernel_rfl)).mono fun e w' ⟨he, hB⟩ => ⟨he, hb.trans (hB.mono hb.size)⟩
  simp only [List.mem_cons, List.not_mem_nil, or_false] at hx
  rcases hx with rfl | rfl
  · unfold wdS pNil; decide
  · unfold wdS pFar; decide
end
theorem carve_nan (w : World) : Calls Tryz.prog 38 #[] w fun e w' => e = .returned (.float .f64 9221120237041090561) ∧ w = w' := by
  go_enter Tryz.func38, Tryz.ntmps38
  go_wp2
  go_ret
  exact ⟨rfl, rfl⟩
structure Hold (g1 g2 : Nat) (W : World) : Prop where
  a : W.cell? ⟨g1, 0, none⟩ = some (.int .i64 1)
  b : W.cell? ⟨g1, 1, none⟩ = some (.int .i64 (-1))
  c : W.cell? ⟨g2, 0, none⟩ = some (.int .i64 0)
  d : W.cell? ⟨g2, 1, none⟩ = some (.int .i64 0)
theorem Hold.on {g1 g2 : Nat} {W W' : World} (h : Hold g1 g2 W) (hb : Below W.heap.size W W') : Hold g1 g2 W' := ⟨bcell hb h.a, bcell hb h.b, bcell hb h.c, bcell hb h.d⟩
theorem fr_cell {g j : Nat} {v : Value} {M : Nat → Prop} {W W' : World} (hc : W.cell? ⟨g, j, none⟩ = some v) (hf : Fr M W W') (hd : ¬ M g) : W'.cell? ⟨g, j, none⟩ = some v := (World.cell?_of_block (hf.block g (World.block_lt_of_cell? W _ hc) hd)).trans hc
theorem Hold.fr {g1 g2 : Nat} {M : Nat → Prop} {W W' : World} (h : Hold g1 g2 W) (hf : Fr M W W') (hd : ¬ M g1 ∧ ¬ M g2) : Hold g1 g2 W' := ⟨fr_cell h.a hf hd.1, fr_cell h.b hf hd.1, fr_cell h.c hf hd.2, fr_cell h.d hf hd.2⟩
theorem Hold.not {g1 g2 : Nat} {M : Nat → Prop} {W : World} (h : Hold g1 g2 W) (hk : ∀ k, M k → W.heap.size ≤ k) : ¬ M g1 ∧ ¬ M g2 :=
  ⟨fun q => absurd (World.block_lt_of_cell? W _ h.a) (Nat.not_lt.mpr (hk _ q)), fun q => absurd (World.block_lt_of_cell? W _ h.c) (Nat.not_lt.mpr (hk _ q))⟩
set_option maxRecDepth 100000 in
set_option maxHeartbeats 16000000 in
theorem carveNames_run (w : World) : Calls Tryz.prog 6 #[] w fun e w' => e = .returned (.bool true) ∧ Below w.heap.size w w' := by
  have HB : Aside0 (Gone w w) := ⟨Below.refl _ _⟩
  go_enter Tryz.func6, Tryz.ntmps6
  go_upto_region 3 with (go_at_call 14; (with_reducible refine (works_call _).mono ?_); rintro u_ w2 ⟨rfl, hb⟩; have HB := Aside0.mk (HB.out.on hb); clear hb)
  go_upto_region 4 with (first
    | (go_at_call 37; (with_reducible refine (square5 _).mono ?_); rintro u_ w3 ⟨mb, M, rfl, hM, hk, hb⟩; have HB := Aside0.mk (HB.out.on hb); clear hk hb)
    | (go_at_call 34; (with_reducible refine (sq_spread_a hM).mono ?_); rintro u_ w4 ⟨g1, c1, rfl, HA, hb⟩; have HB := Aside0.mk (HB.out.on hb); have HA := Aside0.mk HA; clear hb hM))
  go_upto_region 5 with (first
    | (go_at_call 37; (with_reducible refine (square5 _).mono ?_); rintro u_ w5 ⟨mb2, M2, rfl, hM, hk, hb⟩; have HB := Aside0.mk (HB.out.on hb); have HA := Aside0.mk (And.intro (bcell hb HA.out.1) (bcell hb HA.out.2)); clear hk hb)
    | (go_at_call 34; (with_reducible refine (sq_spread_b hM).mono ?_); rintro u_ w6 ⟨g2, c2, rfl, HC, hb⟩; have HB := Aside0.mk (HB.out.on hb); have HA := Aside0.mk (Hold.mk (bcell hb HA.out.1) (bcell hb HA.out.2) HC.1 HC.2); clear hb HC hM))
  go_upto_region 12 with (first
    | (go_at_call 37; (with_reducible first | refine (square5 _).mono ?_ | refine (square3 _).mono ?_); rintro u_ w7 ⟨mb3, M3, rfl, hM, hk, hb⟩; have HK := Aside0.mk (And.intro (HB.out.old hk) (HA.out.not hk)); have HB := Aside0.mk (HB.out.on hb); have HA := Aside0.mk (HA.out.on hb); clear hk hb)
    | (go_at_call 38; (with_reducible refine (carve_nan _).mono ?_); rintro u_ w8 ⟨rfl, rfl⟩)
    | (go_at_call 19; (with_reducible first | refine (sq_holes_c).mono ?_ | refine (holes_nil _ _ _ _).mono ?_); rintro u_ w9 ⟨rfl, hb⟩; have HB := Aside0.mk (HB.out.on hb); have HA := Aside0.mk (HA.out.on hb); clear hb)
    | (go_at_call 34; (with_reducible first | refine (sq_spread_d).mono ?_ | refine (spread_nil _ _ _ _).mono ?_); rintro u_ w9 ⟨rfl, hb⟩; have HB := Aside0.mk (HB.out.on hb); have HA := Aside0.mk (HA.out.on hb); clear hb)
    | (go_at_call 27; (with_reducible refine (parts_nil _).mono ?_); rintro u_ w10 ⟨rfl, rfl⟩)
    | (go_at_call 17; (with_reducible refine (outer_nil _).mono ?_); rintro u_ w9 ⟨rfl, hb⟩; have HB := Aside0.mk (HB.out.on hb); have HA := Aside0.mk (HA.out.on hb); clear hb)
    | (go_at_call 17; (with_reducible refine (sq_outer3 hM).mono ?_); rintro u_ w9 ⟨rfl, hf⟩; have HB := Aside0.mk (HB.out.fr HK.out.1 hf); have HA := Aside0.mk (HA.out.fr hf HK.out.2); clear hf))
  have ha := HA.out.a
  have hb := HA.out.b
  have hc := HA.out.c
  have hd := HA.out.d
  go_wp2
  go_ret
  exact ⟨rfl, HB.out⟩
end Go.Proofs.YtjiolfpahollkaaGreatDoor.Msh
end
section
set_option linter.unusedVariables false
set_option linter.unusedSimpArgs false
namespace Go.Proofs.YtjiolfpahollkaaGreatDoor.E
end Go.Proofs.YtjiolfpahollkaaGreatDoor.E
namespace Go.Proofs.YtjiolfpahollkaaGreatDoorW.PrintWords
end Go.Proofs.YtjiolfpahollkaaGreatDoorW.PrintWords
namespace Go.Proofs.YtjiolfpahollkaaGreatDoor.Pts
open Go.Deep Go.ChangeShapes Go.WideShapes Go.ChangeAt Go.RowKit Go.Joins Go.Proofs.YtjiolfpahollkaaGreatDoor.E Go.Proofs.YtjiolfpahollkaaGreatDoorW.PrintWords
theorem own : ownKnob Tryz.prog.godebug = none := by kernel_rfl
end Go.Proofs.YtjiolfpahollkaaGreatDoor.Pts
end
section
set_option linter.unusedVariables false
set_option linter.unusedSimpArgs false
namespace Go.Proofs.YtjiolfpahollkaaGreatDoor.Pts
open Go.ChangeShapes Go.WideShapes Go.ChangeAt Go.RowKit
set_option maxRecDepth 100000 in
theorem door_met (os : Os) (args : Array Value) : laidMetH Tryz.prog [("math/bits.deBruijn32tab", Rows.laid_math_bits_deBruijn32tab)] ((World.doorLaid Tryz.prog 3000 os).forCall (fun _ _ => 0) ⟨#[], args, []⟩).memory :=
  laidMetH_of_parts3 (fuel := 8) (laidMet_of_run' 8 (by kernel_rfl) (by kernel_rfl)) (by kernel_rfl) (by kernel_rfl)
end Go.Proofs.YtjiolfpahollkaaGreatDoor.Pts
end
section
set_option linter.unusedVariables false
set_option linter.unusedSimpArgs false
namespace Go.Proofs.YtjiolfpahollkaaGreatDoor.Pts
end Go.Proofs.YtjiolfpahollkaaGreatDoor.Pts
namespace Go.Proofs.YtjiolfpahollkaaGreatDoor.carveNames
open Go.ChangeShapes Go.WideShapes Go.ChangeAt Go.RowKit Go.Joins
set_option linter.unusedVariables false
open Go.Proofs.YtjiolfpahollkaaGreatDoor.Pts
set_option maxRecDepth 100000 in
theorem lifted (os : Os) (started : os.Started) (H : Type) (enc : TypeId × Value → H) :
    ReturnsInHanded {} Tryz.checked os 6 .any (fun w args => (Rows.carveNamesSpec.pre enc Tryz.prog Tryz.f6 [] false w args ∧ laidMetH Tryz.prog [("math/bits.deBruijn32tab", Rows.laid_math_bits_deBruijn32tab)] w) ∧ sizedMet enc Tryz.prog Tryz.f6 (OpenSpec.ofChange Rows.carveNamesSpec) false w args) (Rows.carveNamesSpec.post enc Tryz.prog Tryz.f6 false true false false) := by
  refine returnsInHanded_of_change_and (C := Tryz.checked) (X := fun w _ => laidMetH Tryz.prog [("math/bits.deBruijn32tab", Rows.laid_math_bits_deBruijn32tab)] w) (fun _ _ _ hh h => h.of_heap hh) own started (by kernel_rfl) Tryz.func6
    (ChangeSpec.witness_shaped (enc := enc) (C := Tryz.checked) (os := os) (X := fun w _ => laidMetH Tryz.prog [("math/bits.deBruijn32tab", Rows.laid_math_bits_deBruijn32tab)] w) false (World.doorLaid Tryz.prog 3000 os) #[] 8 rfl (World.shaped_of_RefB (by kernel_rfl) (by kernel_rfl)) (by kernel_rfl) (by kernel_rfl) (by kernel_rfl) (door_met os _)) ?_
  intro W base args ds gs before hval0 hW hcnd hsz0 hL _
  have hsz : (DataW.weightsEach Tryz.prog (Tryz.f6.params.toList ++ Rows.carveNamesSpec.plain.varTypes Tryz.prog) (ds ++ gs)).all (· ≤ reachBytes) = true := hsz0
  have hval : ∀ (j : Nat) t v, Tryz.f6.params[j]? = some t → args[j]? = some v → Value.okWide Tryz.prog W .any base t v := hval0
  have hW' := hW
  obtain ⟨p, q, hA0, hV, rfl, hfz, hnd⟩ := hW
  have hA : DataW.TrodAll enc Tryz.prog W 0 (fun _ => true) true Tryz.f6.params.toList args.toList ds p := hA0
  rw [Tryz.params6] at hA hval hsz
  obtain ⟨rfl, rfl, rfl⟩ := trodAll_none hA
  obtain ⟨rfl, rfl⟩ := trodVars_none hV
  clear hA0 hval0 hsz0 hsz
  refine (Msh.carveNames_run  W  ).mono fun e W' ⟨he, bel⟩ => ?_
  subst he
  exact ⟨_, rfl, _, _, _, [], _, [], hW', trodAll_mk1 (shut_bool Tryz.underlying4 _), trodAll_mk0, rfl, bel.frame _, fun h => by cases h⟩
theorem over : Rows.carveNamesRow.holds Tryz.pinned (OpenSpec.ofChange Rows.carveNamesSpec) :=
  OpenClaim.holds_of_wide 6 Tryz.f6 rfl rfl rfl rfl rfl rfl rfl ⟨rfl, rfl, rfl, rfl, rfl⟩ rfl rfl rfl rfl rfl (by kernel_rfl) Tryz.func6 (by kernel_rfl)
    (of_decide_eq_true (by kernel_rfl)) (by unfold Func.isWrapper; first | (rw [if_pos (by decide +kernel)]; kernel_rfl) | (rw [if_neg (by decide +kernel)]; exact ⟨rfl, rfl⟩))
    (fun os started H enc _ => lifted os started H enc)
theorem proved : Rows.CarveNamesSaid := over
end Go.Proofs.YtjiolfpahollkaaGreatDoor.carveNames
namespace Go.Proofs.YtjiolfpahollkaaGreatDoor
theorem carveNames_holds : Rows.CarveNamesSaid := carveNames.proved
end Go.Proofs.YtjiolfpahollkaaGreatDoor
end
