/- What the proof needs of Hld: only what is used is left (wip/tools/prune.py). Conditions stand in each sentence. -/
import Derived.Shelf.SlSortCmp.NoneTotal
import Derived.Deep.RegionHeld3
import Derived.LoopTactic
import Derived.Test.YtjiolfpahollkaaGreatDoorQNWFootNe
import Derived.Test.YtjiolfpahollkaaGreatDoorQNR6
import Derived.Test.YtjiolfpahollkaaGreatDoorQNR7
import Derived.Test.YtjiolfpahollkaaGreatDoorQNFltR
import Derived.Laws.EntriesVeiled
import Derived.Outline
import Derived.Test.YtjiolfpahollkaaGreatDoorQNMca
section
set_option linter.unusedVariables false
set_option linter.unusedSimpArgs false
namespace Go.Proofs.YtjiolfpahollkaaGreatDoor.FltP
end Go.Proofs.YtjiolfpahollkaaGreatDoor.FltP
namespace Go.Proofs.YtjiolfpahollkaaGreatDoor.R
end Go.Proofs.YtjiolfpahollkaaGreatDoor.R
namespace Go.Proofs.YtjiolfpahollkaaGreatDoorW.PrintLast
end Go.Proofs.YtjiolfpahollkaaGreatDoorW.PrintLast
namespace Go.Proofs.YtjiolfpahollkaaGreatDoorW.PrintMore
end Go.Proofs.YtjiolfpahollkaaGreatDoorW.PrintMore
namespace Go.Proofs.YtjiolfpahollkaaGreatDoorW.PrintWords
end Go.Proofs.YtjiolfpahollkaaGreatDoorW.PrintWords
namespace Go.Proofs.YtjiolfpahollkaaGreatDoor.Adm
open Go.RowKit Go.Sort Go.Proofs.YtjiolfpahollkaaGreatDoor.FltP Go.Proofs.YtjiolfpahollkaaGreatDoor.R Go.Proofs.YtjiolfpahollkaaGreatDoorW.PrintWords Go.Proofs.YtjiolfpahollkaaGreatDoorW.PrintLast Go.Proofs.YtjiolfpahollkaaGreatDoorW.PrintMore
structure Gr (w w' : World) : Prop where
  out : ∃ q os, w' = grow (w.drewN q) os
theorem Gr.refl (w : World) : Gr w w := ⟨0, #[], by rw [grow_empty]; rfl⟩
theorem Gr.trans {a b c : World} (h : Gr a b) (k : Gr b c) : Gr a c := by
  obtain ⟨q, os, rfl⟩ := h.out
  obtain ⟨q', os', rfl⟩ := k.out
  exact ⟨q + q', os ++ os', by show grow (grow ((a.drewN q).drewN q') os) os' = _; rw [grow_grow, World.drewN_drewN]⟩
theorem Gr.drew {a b : World} (h : Gr a b) : Gr a b.drew := h.trans ⟨1, #[], by rw [grow_empty]; rfl⟩
theorem Gr.drewN {a b : World} (h : Gr a b) (n : Nat) : Gr a (b.drewN n) := h.trans ⟨n, #[], by rw [grow_empty]⟩
theorem Gr.alloc {a b : World} (h : Gr a b) (o : Obj) : Gr a (b.alloc o) := h.trans ⟨0, #[o], by rw [alloc_eq_grow]; rfl⟩
theorem Gr.below {a b : World} (h : Gr a b) : Below a.heap.size a b := by
  obtain ⟨q, os, rfl⟩ := h.out
  refine ⟨rfl, rfl, rfl, by simp [grow], fun k hk => ?_⟩
  show ((a.drewN q).heap ++ os)[k]? = _
  rw [Array.getElem?_append_left (by exact hk)]; rfl
theorem Gr.cell {a b : World} {p : Addr} {v : Value} (h : Gr a b) (hc : a.cell? p = some v) : b.cell? p = some v := (h.below.cell (World.block_lt_of_cell? a _ hc)).trans hc
end Go.Proofs.YtjiolfpahollkaaGreatDoor.Adm
end
section
set_option linter.unusedVariables false
set_option linter.unusedSimpArgs false
namespace Go.Proofs.YtjiolfpahollkaaGreatDoor.Adm
end Go.Proofs.YtjiolfpahollkaaGreatDoor.Adm
namespace Go.Proofs.YtjiolfpahollkaaGreatDoorW.PrintLast
end Go.Proofs.YtjiolfpahollkaaGreatDoorW.PrintLast
namespace Go.Proofs.YtjiolfpahollkaaGreatDoorW.PrintMore
end Go.Proofs.YtjiolfpahollkaaGreatDoorW.PrintMore
namespace Go.Proofs.YtjiolfpahollkaaGreatDoorW.PrintWords
end Go.Proofs.YtjiolfpahollkaaGreatDoorW.PrintWords
namespace Go.Proofs.YtjiolfpahollkaaGreatDoor.Msh
open Go.RowKit Go.Sort Go.Proofs.YtjiolfpahollkaaGreatDoor.Adm Go.Proofs.YtjiolfpahollkaaGreatDoorW.PrintWords Go.Proofs.YtjiolfpahollkaaGreatDoorW.PrintLast Go.Proofs.YtjiolfpahollkaaGreatDoorW.PrintMore
theorem trisKey_call (x : Tr) (w : World) : Calls Tryz.prog 75 #[encT x] w fun e w' => e = .returned (encT x) ∧ Gr w w' := by
  unfold encT
  have hG := Gr.refl w
  go_enter Tryz.func75, Tryz.ntmps75
  go_wp2
  refine bodyPost_ret (v := .agg #[.int .i64 x.1, .int .i64 x.2.1, .int .i64 x.2.2]) ?_ rfl ⟨rfl, (hG.alloc _).alloc _⟩
  simp [results, Tryz.results75, go_sem]
theorem modify_append {α : Type} (x y : Array α) (i : Nat) (f : α → α) (h : x.size ≤ i) : (x ++ y).modify i f = x ++ y.modify (i - x.size) f := by
  apply Array.ext_getElem?
  intro j
  rw [Array.getElem?_modify, Array.getElem?_append, Array.getElem?_append, Array.getElem?_modify]
  by_cases hj : j < x.size
  · rw [if_pos hj, if_pos hj, if_neg (by omega)]
  · rw [if_neg hj, if_neg hj]
    by_cases e : i = j
    · rw [if_pos e, if_pos (by omega)]
    · rw [if_neg e, if_neg (by omega)]
theorem gr_set {a b : World} {p : Addr} (h : Gr a b) (hp : a.heap.size ≤ p.block) (v : Value) : Gr a (b.setCell p v) := by
  obtain ⟨q, os, rfl⟩ := h.out
  have e : ∀ f : Obj → Obj, (a.heap ++ os).modify p.block f = a.heap ++ os.modify (p.block - a.heap.size) f := fun f => modify_append _ _ _ f hp
  refine ⟨q, ?_, ?_⟩
  rotate_left
  · unfold World.setCell grow
    simp only [World.drewN]
    rw [e]
theorem gr_blk {a b : World} {g : Nat} {o : Obj} (h : a.heap[g]? = some o) (hg : Gr a b) : b.heap[g]? = some o := (hg.below.block g (Array.getElem?_eq_some_iff.1 h).1).trans h
theorem gr_mv {a b c : World} {g : Nat} {o : Obj} (h : a.heap[g]? = some o) (k : Gr a b) (hg : Gr b c) : c.heap[g]? = some o := gr_blk h (k.trans hg)
theorem three_cells {w : World} {g t : Nat} {a b c : Value} (h : w.heap[g]? = some (.cells #[a, b, c] t (0, 0))) : w.cell? ⟨g, 0, none⟩ = some a ∧ w.cell? ⟨g, 1, none⟩ = some b ∧ w.cell? ⟨g, 2, none⟩ = some c ∧ w.frozen? ⟨g, 0, none⟩ = false ∧ w.frozen? ⟨g, 1, none⟩ = false ∧ w.frozen? ⟨g, 2, none⟩ = false ∧ g < w.heap.size :=
  ⟨blk_cell h 0, blk_cell h 1, blk_cell h 2, blk_frozen h 0, blk_frozen h 1, blk_frozen h 2, blk_lt h⟩
theorem bx1 {w0 X w' : World} {Z : Obj} (h : Gr w0 X) (hg : Gr (X.alloc Z) w') : w'.heap[X.heap.size]? = some Z ∧ w0.heap.size ≤ X.heap.size ∧ X.heap.size < w'.heap.size := ⟨gr_blk (blk_new X Z) hg, h.below.size, by have := hg.below.size; simp at this; omega⟩
theorem bx1d {w0 X w' : World} {Z : Obj} (h : Gr w0 X) (hg : Gr (X.alloc Z).drew w') : w'.heap[X.heap.size]? = some Z ∧ w0.heap.size ≤ X.heap.size ∧ X.heap.size < w'.heap.size := bx1 h ((((Gr.refl _).drew).trans hg))
theorem bx2 {w0 X w' : World} {Y Z : Obj} (h : Gr w0 X) (hg : Gr ((X.alloc Y).alloc Z) w') : w'.heap[X.heap.size]? = some Y ∧ w'.heap[X.heap.size + 1]? = some Z ∧ w0.heap.size ≤ X.heap.size ∧ X.heap.size + 1 < w'.heap.size := ⟨gr_blk (blk_alloc (blk_new X Y) Z) hg, gr_blk (by have := blk_new (X.alloc Y) Z; simpa using this) hg, h.below.size, by have := hg.below.size; simp at this; omega⟩
theorem bx2d {w0 X w' : World} {Y Z : Obj} (h : Gr w0 X) (hg : Gr ((X.alloc Y).alloc Z).drew w') : w'.heap[X.heap.size]? = some Y ∧ w'.heap[X.heap.size + 1]? = some Z ∧ w0.heap.size ≤ X.heap.size ∧ X.heap.size + 1 < w'.heap.size := bx2 h ((((Gr.refl _).drew).trans hg))
theorem gr_step {w a b : World} (h : Gr w a) (k : Gr a b) : Gr w b := h.trans k
theorem six_gr {w w1 : World} {p1 p2 p3 p4 p5 p6 p7 : Addr} {v1 v2 v3 v4 v5 v6 v7 : Value} (hb : Gr w w1) (h : w.cell? p1 = some v1 ∧ w.cell? p2 = some v2 ∧ w.cell? p3 = some v3 ∧ w.cell? p4 = some v4 ∧ w.cell? p5 = some v5 ∧ w.cell? p6 = some v6 ∧ w.cell? p7 = some v7) :
    w1.cell? p1 = some v1 ∧ w1.cell? p2 = some v2 ∧ w1.cell? p3 = some v3 ∧ w1.cell? p4 = some v4 ∧ w1.cell? p5 = some v5 ∧ w1.cell? p6 = some v6 ∧ w1.cell? p7 = some v7 :=
  ⟨hb.cell h.1, hb.cell h.2.1, hb.cell h.2.2.1, hb.cell h.2.2.2.1, hb.cell h.2.2.2.2.1, hb.cell h.2.2.2.2.2.1, hb.cell h.2.2.2.2.2.2⟩
set_option maxRecDepth 100000 in
set_option maxHeartbeats 16000000 in
theorem sortTris_call (kb : Nat) (x y : Tr) (w : World) (hk : w.cell? ⟨kb, 0, none⟩ = some (.func (.func 75) #[] #[])) :
    Calls Tryz.prog 127 #[encT x, encT y, .pointer (some ⟨kb, 0, none⟩)] w fun e w' => e = .returned (.int .i64 (cmp3 x y)) ∧ Gr w w' := by
  have hkey := fun x w => trisKey_call x w
  have hcm := fun B C w => compare3_call B C x y w
  generalize cmp3 x y = r at *
  obtain ⟨x0, x1, x2⟩ := x
  obtain ⟨y0, y1, y2⟩ := y
  have hkx := hkey (x0, x1, x2)
  have hky := hkey (y0, y1, y2)
  unfold encT at hkx hky ⊢
  simp only at hkx hky hcm ⊢
  clear hkey
  go_enter Tryz.func127, Tryz.ntmps127
  go_upto_region 1 with (fail)
  go_cut [6, 7] (fun v6 v7 wc => ∃ g1 g2 : Nat, v6 = .pointer (some ⟨g1, 0, none⟩) ∧ v7 = .pointer (some ⟨g2, 0, none⟩) ∧ (wc.cell? ⟨g1, 0, none⟩ = some (.int .i64 x0) ∧ wc.cell? ⟨g1, 1, none⟩ = some (.int .i64 x1) ∧ wc.cell? ⟨g1, 2, none⟩ = some (.int .i64 x2) ∧ wc.cell? ⟨g2, 0, none⟩ = some (.int .i64 y0) ∧ wc.cell? ⟨g2, 1, none⟩ = some (.int .i64 y1) ∧ wc.cell? ⟨g2, 2, none⟩ = some (.int .i64 y2)) ∧ Gr w wc)
  case first =>
    obtain ⟨W1, hW1⟩ : ∃ W1, W1 = (w.alloc (.cells #[.int .i64 x0, .int .i64 x1, .int .i64 x2] 53)).alloc (.cells #[.int .i64 y0, .int .i64 y1, .int .i64 y2] 53) := ⟨_, rfl⟩
    have hG : Gr w W1 := by rw [hW1]; exact ((Gr.refl w).alloc _).alloc _
    have hS : W1.cell? ⟨kb, 0, none⟩ = some (.func (.func 75) #[] #[]) ∧ W1.cell? ⟨w.heap.size, 0, none⟩ = some (.int .i64 x0) ∧ W1.cell? ⟨w.heap.size, 1, none⟩ = some (.int .i64 x1) ∧ W1.cell? ⟨w.heap.size, 2, none⟩ = some (.int .i64 x2) ∧ W1.cell? ⟨w.heap.size + 1, 0, none⟩ = some (.int .i64 y0) ∧ W1.cell? ⟨w.heap.size + 1, 1, none⟩ = some (.int .i64 y1) ∧ W1.cell? ⟨w.heap.size + 1, 2, none⟩ = some (.int .i64 y2) := by
      refine ⟨hG.cell hk, ?_⟩
      rw [hW1]
      simp
    have hsz : W1.heap.size = w.heap.size + 2 := by rw [hW1]; simp
    have HSZ := Aside0.mk hsz
    have h0 := Gr.refl W1
    rw [← hW1]
    clear hW1 hk hsz
    go_region_held3 (fun W' => W'.cell? ⟨kb, 0, none⟩ = some (.func (.func 75) #[] #[]) ∧ W'.cell? ⟨w.heap.size, 0, none⟩ = some (.int .i64 x0) ∧ W'.cell? ⟨w.heap.size, 1, none⟩ = some (.int .i64 x1) ∧ W'.cell? ⟨w.heap.size, 2, none⟩ = some (.int .i64 x2) ∧ W'.cell? ⟨w.heap.size + 1, 0, none⟩ = some (.int .i64 y0) ∧ W'.cell? ⟨w.heap.size + 1, 1, none⟩ = some (.int .i64 y1) ∧ W'.cell? ⟨w.heap.size + 1, 2, none⟩ = some (.int .i64 y2))
      (first | (with_reducible exact hS) | (with_reducible refine six_gr ?_ hS; (with_reducible (repeat (first | assumption | apply Gr.drew | apply Gr.alloc | apply Gr.drewN | apply gr_set))) <;> (dsimp only; omega)) | (with_reducible refine six_gr ?_ hS; (with_reducible (repeat (first | assumption | apply Gr.drew | apply Gr.alloc | apply Gr.drewN)))))
      (first
        | (go_at_call 75; (with_reducible refine (hkx _).mono ?_); rintro u_ w5 ⟨rfl, hg⟩; ((try (replace h61 := gr_mv h61 (by (with_reducible (repeat (first | exact Gr.refl _ | apply Gr.drew | apply Gr.alloc | apply Gr.drewN)))) hg; obtain ⟨q60, q61, q62, q63, q64, q65, q66⟩ := three_cells h61)); (try (replace h62 := gr_mv h62 (by (with_reducible (repeat (first | exact Gr.refl _ | apply Gr.drew | apply Gr.alloc | apply Gr.drewN)))) hg; obtain ⟨r60, r61, r62, r63, r64, r65, r66⟩ := three_cells h62))); (first | ((with_reducible have hz := bx2 (w0 := W1) (by (with_reducible (repeat (first | assumption | apply Gr.drew | apply Gr.alloc | apply Gr.drewN)))) hg); obtain ⟨h51, h52, z51, z52⟩ := hz; obtain ⟨q50, q51, q52, q53, q54, q55, q56⟩ := three_cells h51; obtain ⟨r50, r51, r52, r53, r54, r55, r56⟩ := three_cells h52) | ((with_reducible have hz := bx2d (w0 := W1) (by (with_reducible (repeat (first | assumption | apply Gr.drew | apply Gr.alloc | apply Gr.drewN)))) hg); obtain ⟨h51, h52, z51, z52⟩ := hz; obtain ⟨q50, q51, q52, q53, q54, q55, q56⟩ := three_cells h51; obtain ⟨r50, r51, r52, r53, r54, r55, r56⟩ := three_cells h52) | ((with_reducible have hz := bx1 (w0 := W1) (by (with_reducible (repeat (first | assumption | apply Gr.drew | apply Gr.alloc | apply Gr.drewN)))) hg); obtain ⟨h51, z51, z52⟩ := hz; obtain ⟨q50, q51, q52, q53, q54, q55, q56⟩ := three_cells h51) | ((with_reducible have hz := bx1d (w0 := W1) (by (with_reducible (repeat (first | assumption | apply Gr.drew | apply Gr.alloc | apply Gr.drewN)))) hg); obtain ⟨h51, z51, z52⟩ := hz; obtain ⟨q50, q51, q52, q53, q54, q55, q56⟩ := three_cells h51) | skip); have hG5 := gr_step (w := W1) (by (with_reducible (repeat (first | assumption | apply Gr.drew | apply Gr.alloc | apply Gr.drewN)))) hg; have s5 := hG5.below.size; clear hg)
        | (go_at_call 75; (with_reducible refine (hky _).mono ?_); rintro u_ w6 ⟨rfl, hg⟩; ((try (replace h51 := gr_mv h51 (by (with_reducible (repeat (first | exact Gr.refl _ | apply Gr.drew | apply Gr.alloc | apply Gr.drewN)))) hg; obtain ⟨q50, q51, q52, q53, q54, q55, q56⟩ := three_cells h51)); (try (replace h52 := gr_mv h52 (by (with_reducible (repeat (first | exact Gr.refl _ | apply Gr.drew | apply Gr.alloc | apply Gr.drewN)))) hg; obtain ⟨r50, r51, r52, r53, r54, r55, r56⟩ := three_cells h52))); (first | ((with_reducible have hz := bx2 (w0 := W1) (by (with_reducible (repeat (first | assumption | apply Gr.drew | apply Gr.alloc | apply Gr.drewN)))) hg); obtain ⟨h61, h62, z61, z62⟩ := hz; obtain ⟨q60, q61, q62, q63, q64, q65, q66⟩ := three_cells h61; obtain ⟨r60, r61, r62, r63, r64, r65, r66⟩ := three_cells h62) | ((with_reducible have hz := bx2d (w0 := W1) (by (with_reducible (repeat (first | assumption | apply Gr.drew | apply Gr.alloc | apply Gr.drewN)))) hg); obtain ⟨h61, h62, z61, z62⟩ := hz; obtain ⟨q60, q61, q62, q63, q64, q65, q66⟩ := three_cells h61; obtain ⟨r60, r61, r62, r63, r64, r65, r66⟩ := three_cells h62) | ((with_reducible have hz := bx1 (w0 := W1) (by (with_reducible (repeat (first | assumption | apply Gr.drew | apply Gr.alloc | apply Gr.drewN)))) hg); obtain ⟨h61, z61, z62⟩ := hz; obtain ⟨q60, q61, q62, q63, q64, q65, q66⟩ := three_cells h61) | ((with_reducible have hz := bx1d (w0 := W1) (by (with_reducible (repeat (first | assumption | apply Gr.drew | apply Gr.alloc | apply Gr.drewN)))) hg); obtain ⟨h61, z61, z62⟩ := hz; obtain ⟨q60, q61, q62, q63, q64, q65, q66⟩ := three_cells h61) | skip); have hG6 := gr_step (w := W1) (by (with_reducible (repeat (first | assumption | apply Gr.drew | apply Gr.alloc | apply Gr.drewN)))) hg; have s6 := hG6.below.size; clear hg))
    all_goals
      go_wp2
      go_meet
      case rel => exact ⟨_, _, rfl, rfl, ⟨(by first | (simp; done) | (go_simp; done) | (simp (disch := omega) [World.cell?_setCell_ne]; done)), (by first | (simp; done) | (go_simp; done) | (simp (disch := omega) [World.cell?_setCell_ne]; done)), (by first | (simp; done) | (go_simp; done) | (simp (disch := omega) [World.cell?_setCell_ne]; done)), (by first | (simp; done) | (go_simp; done) | (simp (disch := omega) [World.cell?_setCell_ne]; done)), (by first | (simp; done) | (go_simp; done) | (simp (disch := omega) [World.cell?_setCell_ne]; done)), (by first | (simp; done) | (go_simp; done) | (simp (disch := omega) [World.cell?_setCell_ne]; done))⟩, hG.trans (by (with_reducible (repeat (first | assumption | apply Gr.drew | apply Gr.alloc | apply Gr.drewN | apply gr_set))) <;> (dsimp only; omega))⟩
  case rest =>
    obtain ⟨g1, g2, rfl, rfl, ⟨z1, z2, z3, z4, z5, z6⟩, hQ⟩ := hcut
    have hcm2 := fun W (h : Gr wc W) => hcm g1 g2 W (h.cell z1) (h.cell z2) (h.cell z3) (h.cell z4) (h.cell z5) (h.cell z6)
    clear hcm
    go_wp2
    go_region_held3 (fun _ => True) (trivial) ((go_at_call 128; (with_reducible refine (hcm2 _ (by (with_reducible (repeat (first | exact Gr.refl _ | apply Gr.drew | apply Gr.drewN))))).mono ?_); rintro u_ w7 ⟨rfl, rfl⟩))
    all_goals
      go_wp2
      go_ret
      exact ⟨rfl, (hQ.drew)⟩
end Go.Proofs.YtjiolfpahollkaaGreatDoor.Msh
end
