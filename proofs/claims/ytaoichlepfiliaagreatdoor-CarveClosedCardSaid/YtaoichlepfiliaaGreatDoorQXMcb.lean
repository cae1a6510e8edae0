/- Lemmas of Mcb. Conditions stand in each. -/
import Derived.Laws.EntriesVeiled
import Derived.Outline
import Derived.Test.YtaoichlepfiliaaGreatDoorQXMsa
import Derived.Test.YtaoichlepfiliaaGreatDoorQXFltR
import Derived.Test.YtaoichlepfiliaaGreatDoorQXMmp
import Derived.Deep.RegionLaw
set_option linter.unusedSimpArgs false
set_option linter.unusedVariables false
section
namespace Go.Proofs.YtaoichlepfiliaaGreatDoor.Msh
open Go.RowKit Go.Sort Go.Proofs.YtaoichlepfiliaaGreatDoor.Adm Go.Proofs.YtaoichlepfiliaaGreatDoorW.PrintWords Go.Proofs.YtaoichlepfiliaaGreatDoorW.PrintLast
theorem trisKey_call (x : Tr) (w : World) : Calls Tryz.prog 49 #[encT x] w fun e w' => e = .returned (encT x) ∧ Gr w w' := by
 unfold encT
 have hG := Gr.refl w
 go_enter Tryz.func49, Tryz.ntmps49
 go_wp2
 refine bodyPost_ret (v := .agg #[.int .i64 x.1, .int .i64 x.2.1, .int .i64 x.2.2]) ?_ rfl ⟨rfl, (hG.alloc _).alloc _⟩
 simp [results, Tryz.results49, go_sem]
theorem modify_append {α : Type} (x y : Array α) (i : Nat) (f : α → α) (h : x.size ≤ i) : (x ++ y).modify i f = x ++ y.modify (i - x.size) f := by
 apply Array.ext_getElem?
 intro j
 rw [Array.getElem?_modify, Array.getElem?_append, Array.getElem?_append, Array.getElem?_modify]
 by_cases hj : j < x.size
 ·rw [if_pos hj, if_pos hj, if_neg (by omega)]
 ·rw [if_neg hj, if_neg hj]
  by_cases e : i = j
  ·rw [if_pos e, if_pos (by omega)]
  ·rw [if_neg e, if_neg (by omega)]
theorem gr_set {a b : World} {p : Addr} (h : Gr a b) (hp : a.heap.size ≤ p.block) (v : Value) : Gr a (b.setCell p v) := by
 obtain ⟨q, os, rfl⟩ := h.out
 have e : ∀ f : Obj → Obj, (a.heap ++ os).modify p.block f = a.heap ++ os.modify (p.block - a.heap.size) f := fun f => modify_append _ _ _ f hp
 refine ⟨q, ?_, ?_⟩
 rotate_left
 ·unfold World.setCell grow
  simp only [World.drewN]
  rw [e]
theorem gr_blk {a b : World} {g : Nat} {o : Obj} (h : a.heap[g]? = some o) (hg : Gr a b) : b.heap[g]? = some o := (hg.below.block g (Array.getElem?_eq_some_iff.1 h).1).trans h
theorem gr_mv {a b c : World} {g : Nat} {o : Obj} (h : a.heap[g]? = some o) (k : Gr a b) (hg : Gr b c) : c.heap[g]? = some o := gr_blk h (k.trans hg)
theorem three_cells {w : World} {g t : Nat} {a b c : Value} (h : w.heap[g]? = some (.cells #[a, b, c] t (0, 0))) : w.cell? ⟨g, 0, none⟩ = some a ∧ w.cell? ⟨g, 1, none⟩ = some b ∧ w.cell? ⟨g, 2, none⟩ = some c ∧ w.frozen? ⟨g, 0, none⟩ = false ∧ w.frozen? ⟨g, 1, none⟩ = false ∧ w.frozen? ⟨g, 2, none⟩ = false ∧ g < w.heap.size :=
 ⟨blk_cell h 0, blk_cell h 1, blk_cell h 2, blk_frozen h 0, blk_frozen h 1, blk_frozen h 2, blk_lt h⟩
theorem bx1 {w0 X w' : World} {Z : Obj} (h : Gr w0 X) (hg : Gr (X.alloc Z) w') : w'.heap[X.heap.size]? = some Z ∧ w0.heap.size ≤ X.heap.size ∧ X.heap.size < w'.heap.size := ⟨gr_blk (blk_new X Z) hg, h.below.size, by have := hg.below.size; simp at this; omega⟩
theorem bx1d {w0 X w' : World} {Z : Obj} (h : Gr w0 X) (hg : Gr (X.alloc Z).drew w') : w'.heap[X.heap.size]? = some Z ∧ w0.heap.size ≤ X.heap.size ∧ X.heap.size < w'.heap.size := bx1 h ((((Gr.refl _).drew).trans hg))
theorem bx2 {w0 X w' : World} {Y Z : Obj} (h : Gr w0 X) (hg : Gr ((X.alloc Y).alloc Z) w') : w'.heap[X.heap.size]? = some Y ∧ w'.heap[X.heap.size + 1]? = some Z ∧ w0.heap.size ≤ X.heap.size ∧ X.heap.size + 1 < w'.heap.size := ⟨gr_blk (blk_alloc (blk_new X Y) Z) hg, gr_blk (by have := blk_new (X.alloc Y) Z; simpa using this) hg, h.below.size, by have := hg.below.size; simp at this; omega⟩
theorem bx2d {w0 X w' : World} {Y Z : Obj} (h : Gr w0 X) (hg : Gr ((X.alloc Y).alloc Z).drew w') : w'.heap[X.heap.size]? = some Y ∧ w'.heap[X.heap.size + 1]? = some Z ∧ w0.heap.size ≤ X.heap.size ∧ X.heap.size + 1 < w'.heap.size := bx2 h ((((Gr.refl _).drew).trans hg))
theorem gr_step {w a b : World} (h : Gr w a) (k : Gr a b) : Gr w b := h.trans k
theorem six_gr {w w1 : World} {p1 p2 p3 p4 p5 p6 p7 : Addr} {v1 v2 v3 v4 v5 v6 v7 : Value} (hb : Gr w w1) (h : w.cell? p1 = some v1 ∧ w.cell? p2 = some v2 ∧ w.cell? p3 = some v3 ∧ w.cell? p4 = some v4 ∧ w.cell? p5 = some v5 ∧ w.cell? p6 = some v6 ∧ w.cell? p7 = some v7) :
 w1.cell? p1 = some v1 ∧ w1.cell? p2 = some v2 ∧ w1.cell? p3 = some v3 ∧ w1.cell? p4 = some v4 ∧ w1.cell? p5 = some v5 ∧ w1.cell? p6 = some v6 ∧ w1.cell? p7 = some v7 :=
 ⟨hb.cell h.1, hb.cell h.2.1, hb.cell h.2.2.1, hb.cell h.2.2.2.1, hb.cell h.2.2.2.2.1, hb.cell h.2.2.2.2.2.1, hb.cell h.2.2.2.2.2.2⟩
set_option maxRecDepth 100000 in
set_option maxHeartbeats 16000000 in
theorem sortTris_call (kb : Nat) (x y : Tr) (w : World) (hk : w.cell? ⟨kb, 0, none⟩ = some (.func (.func 49) #[] #[])) :
 Calls Tryz.prog 82 #[encT x, encT y, .pointer (some ⟨kb, 0, none⟩)] w fun e w' => e = .returned (.int .i64 (cmp3 x y)) ∧ Gr w w' := by
 have hkey := fun x w => trisKey_call x w
 have hcm := fun B C w => compare3_call B C x y w
 generalize cmp3 x y = r at *
 obtain ⟨x0, x1, x2⟩ := x
 obtain ⟨y0, y1, y2⟩ := y
 have hkx := hkey (x0, x1, x2)
 have hky := hkey (y0, y1, y2)
 unfold encT at hkx hky ⊢
 simp only at hkx hky hcm ⊢
 clear hkey
 go_enter Tryz.func82, Tryz.ntmps82
 go_upto_region 1 with (fail)
 go_cut [6, 7] (fun v6 v7 wc => ∃ g1 g2 : Nat, v6 = .pointer (some ⟨g1, 0, none⟩) ∧ v7 = .pointer (some ⟨g2, 0, none⟩) ∧ (wc.cell? ⟨g1, 0, none⟩ = some (.int .i64 x0) ∧ wc.cell? ⟨g1, 1, none⟩ = some (.int .i64 x1) ∧ wc.cell? ⟨g1, 2, none⟩ = some (.int .i64 x2) ∧ wc.cell? ⟨g2, 0, none⟩ = some (.int .i64 y0) ∧ wc.cell? ⟨g2, 1, none⟩ = some (.int .i64 y1) ∧ wc.cell? ⟨g2, 2, none⟩ = some (.int .i64 y2)) ∧ Gr w wc)
 case first =>
  obtain ⟨W1, hW1⟩ : ∃ W1, W1 = (w.alloc (.cells #[.int .i64 x0, .int .i64 x1, .int .i64 x2] 53)).alloc (.cells #[.int .i64 y0, .int .i64 y1, .int .i64 y2] 53) := ⟨_, rfl⟩
  have hG : Gr w W1 := by rw [hW1]; exact ((Gr.refl w).alloc _).alloc _
  have hS : W1.cell? ⟨kb, 0, none⟩ = some (.func (.func 49) #[] #[]) ∧ W1.cell? ⟨w.heap.size, 0, none⟩ = some (.int .i64 x0) ∧ W1.cell? ⟨w.heap.size, 1, none⟩ = some (.int .i64 x1) ∧ W1.cell? ⟨w.heap.size, 2, none⟩ = some (.int .i64 x2) ∧ W1.cell? ⟨w.heap.size + 1, 0, none⟩ = some (.int .i64 y0) ∧ W1.cell? ⟨w.heap.size + 1, 1, none⟩ = some (.int .i64 y1) ∧ W1.cell? ⟨w.heap.size + 1, 2, none⟩ = some (.int .i64 y2) := by
   refine ⟨hG.cell hk, ?_⟩
   rw [hW1]
   simp
  have hsz : W1.heap.size = w.heap.size + 2 := by rw [hW1]; simp
  have HSZ := Aside0.mk hsz
  have h0 := Gr.refl W1
  rw [← hW1]
  clear hW1 hk hsz
  go_region_held3 (fun W' => W'.cell? ⟨kb, 0, none⟩ = some (.func (.func 49) #[] #[]) ∧ W'.cell? ⟨w.heap.size, 0, none⟩ = some (.int .i64 x0) ∧ W'.cell? ⟨w.heap.size, 1, none⟩ = some (.int .i64 x1) ∧ W'.cell? ⟨w.heap.size, 2, none⟩ = some (.int .i64 x2) ∧ W'.cell? ⟨w.heap.size + 1, 0, none⟩ = some (.int .i64 y0) ∧ W'.cell? ⟨w.heap.size + 1, 1, none⟩ = some (.int .i64 y1) ∧ W'.cell? ⟨w.heap.size + 1, 2, none⟩ = some (.int .i64 y2))
   (first | (with_reducible exact hS) | (with_reducible refine six_gr ?_ hS; (with_reducible (repeat (first | assumption | apply Gr.drew | apply Gr.alloc | apply Gr.drewN | apply gr_set))) <;> (dsimp only; omega)) | (with_reducible refine six_gr ?_ hS; (with_reducible (repeat (first | assumption | apply Gr.drew | apply Gr.alloc | apply Gr.drewN)))))
   (first
    | (go_at_call 49; (with_reducible refine (hkx _).mono ?_); rintro u_ w5 ⟨rfl, hg⟩; ((try (replace h61 := gr_mv h61 (by (with_reducible (repeat (first | exact Gr.refl _ | apply Gr.drew | apply Gr.alloc | apply Gr.drewN)))) hg; obtain ⟨q60, q61, q62, q63, q64, q65, q66⟩ := three_cells h61)); (try (replace h62 := gr_mv h62 (by (with_reducible (repeat (first | exact Gr.refl _ | apply Gr.drew | apply Gr.alloc | apply Gr.drewN)))) hg; obtain ⟨r60, r61, r62, r63, r64, r65, r66⟩ := three_cells h62))); (first | ((with_reducible have hz := bx2 (w0 := W1) (by (with_reducible (repeat (first | assumption | apply Gr.drew | apply Gr.alloc | apply Gr.drewN)))) hg); obtain ⟨h51, h52, z51, z52⟩ := hz; obtain ⟨q50, q51, q52, q53, q54, q55, q56⟩ := three_cells h51; obtain ⟨r50, r51, r52, r53, r54, r55, r56⟩ := three_cells h52) | ((with_reducible have hz := bx2d (w0 := W1) (by (with_reducible (repeat (first | assumption | apply Gr.drew | apply Gr.alloc | apply Gr.drewN)))) hg); obtain ⟨h51, h52, z51, z52⟩ := hz; obtain ⟨q50, q51, q52, q53, q54, q55, q56⟩ := three_cells h51; obtain ⟨r50, r51, r52, r53, r54, r55, r56⟩ := three_cells h52) | ((with_reducible have hz := bx1 (w0 := W1) (by (with_reducible (repeat (first | assumption | apply Gr.drew | apply Gr.alloc | apply Gr.drewN)))) hg); obtain ⟨h51, z51, z52⟩ := hz; obtain ⟨q50, q51, q52, q53, q54, q55, q56⟩ := three_cells h51) | ((with_reducible have hz := bx1d (w0 := W1) (by (with_reducible (repeat (first | assumption | apply Gr.drew | apply Gr.alloc | apply Gr.drewN)))) hg); obtain ⟨h51, z51, z52⟩ := hz; obtain ⟨q50, q51, q52, q53, q54, q55, q56⟩ := three_cells h51) | skip); have hG5 := gr_step (w := W1) (by (with_reducible (repeat (first | assumption | apply Gr.drew | apply Gr.alloc | apply Gr.drewN)))) hg; have s5 := hG5.below.size; clear hg)
    | (go_at_call 49; (with_reducible refine (hky _).mono ?_); rintro u_ w6 ⟨rfl, hg⟩; ((try (replace h51 := gr_mv h51 (by (with_reducible (repeat (first | exact Gr.refl _ | apply Gr.drew | apply Gr.alloc | apply Gr.drewN)))) hg; obtain ⟨q50, q51, q52, q53, q54, q55, q56⟩ := three_cells h51)); (try (replace h52 := gr_mv h52 (by (with_reducible (repeat (first | exact Gr.refl _ | apply Gr.drew | apply Gr.alloc | apply Gr.drewN)))) hg; obtain ⟨r50, r51, r52, r53, r54, r55, r56⟩ := three_cells h52))); (first | ((with_reducible have hz := bx2 (w0 := W1) (by (with_reducible (repeat (first | assumption | apply Gr.drew | apply Gr.alloc | apply Gr.drewN)))) hg); obtain ⟨h61, h62, z61, z62⟩ := hz; obtain ⟨q60, q61, q62, q63, q64, q65, q66⟩ := three_cells h61; obtain ⟨r60, r61, r62, r63, r64, r65, r66⟩ := three_cells h62) | ((with_reducible have hz := bx2d (w0 := W1) (by (with_reducible (repeat (first | assumption | apply Gr.drew | apply Gr.alloc | apply Gr.drewN)))) hg); obtain ⟨h61, h62, z61, z62⟩ := hz; obtain ⟨q60, q61, q62, q63, q64, q65, q66⟩ := three_cells h61; obtain ⟨r60, r61, r62, r63, r64, r65, r66⟩ := three_cells h62) | ((with_reducible have hz := bx1 (w0 := W1) (by (with_reducible (repeat (first | assumption | apply Gr.drew | apply Gr.alloc | apply Gr.drewN)))) hg); obtain ⟨h61, z61, z62⟩ := hz; obtain ⟨q60, q61, q62, q63, q64, q65, q66⟩ := three_cells h61) | ((with_reducible have hz := bx1d (w0 := W1) (by (with_reducible (repeat (first | assumption | apply Gr.drew | apply Gr.alloc | apply Gr.drewN)))) hg); obtain ⟨h61, z61, z62⟩ := hz; obtain ⟨q60, q61, q62, q63, q64, q65, q66⟩ := three_cells h61) | skip); have hG6 := gr_step (w := W1) (by (with_reducible (repeat (first | assumption | apply Gr.drew | apply Gr.alloc | apply Gr.drewN)))) hg; have s6 := hG6.below.size; clear hg))
  all_goals
   go_wp2
   go_meet
   case rel => exact ⟨_, _, rfl, rfl, ⟨(by first | (simp; done) | (go_simp; done) | (simp (disch := omega) [World.cell?_setCell_ne]; done)), (by first | (simp; done) | (go_simp; done) | (simp (disch := omega) [World.cell?_setCell_ne]; done)), (by first | (simp; done) | (go_simp; done) | (simp (disch := omega) [World.cell?_setCell_ne]; done)), (by first | (simp; done) | (go_simp; done) | (simp (disch := omega) [World.cell?_setCell_ne]; done)), (by first | (simp; done) | (go_simp; done) | (simp (disch := omega) [World.cell?_setCell_ne]; done)), (by first | (simp; done) | (go_simp; done) | (simp (disch := omega) [World.cell?_setCell_ne]; done))⟩, hG.trans (by (with_reducible (repeat (first | assumption | apply Gr.drew | apply Gr.alloc | apply Gr.drewN | apply gr_set))) <;> (dsimp only; omega))⟩
 case rest =>
  obtain ⟨g1, g2, rfl, rfl, ⟨z1, z2, z3, z4, z5, z6⟩, hQ⟩ := hcut
  have hcm2 := fun W (h : Gr wc W) => hcm g1 g2 W (h.cell z1) (h.cell z2) (h.cell z3) (h.cell z4) (h.cell z5) (h.cell z6)
  clear hcm
  go_wp2
  go_region_held3 (fun _ => True) (trivial) ((go_at_call 83; (with_reducible refine (hcm2 _ (by (with_reducible (repeat (first | exact Gr.refl _ | apply Gr.drew | apply Gr.drewN))))).mono ?_); rintro u_ w7 ⟨rfl, rfl⟩))
  all_goals
   go_wp2
   go_ret
   exact ⟨rfl, (hQ.drew)⟩
end Go.Proofs.YtaoichlepfiliaaGreatDoor.Msh
end
section
namespace Go.Proofs.YtaoichlepfiliaaGreatDoor.Mp
open Go.ChangeMaps Go.MapKept Go.RowKit
open Go.Maps (Keyed)
section
variable {P : Program} {K E T : TypeId} {α : Type} {enc : α → Value} {ok : α → Prop} {w w' : World} {b : Nat} {f : α → Option Value}
def MapS (enc : α → Value) (ok : α → Prop) (w : World) (b : Nat) (f : α → Option Value) (x : α) (st : Nat) : Prop := ∃ es clock, w.heap[b]? = some (.map es clock) ∧ Fn enc ok es clock f ∧ ∃ e ∈ es.toList, e.key = enc x ∧ e.born = st
theorem MapS.map {x : α} {st : Nat} (h : MapS enc ok w b f x st) : MapF enc ok w b f := by
 obtain ⟨es, clock, h1, h2, -⟩ := h
 exact ⟨es, clock, h1, h2⟩
theorem modify_same {es : Array MapEntry} {j : Nat} {e0 : MapEntry} {v : Value} (h : es[j]? = some e0) (hk : e0.key = v) : (es.modify j fun e => { e with key := v }) = es := by
 apply Array.ext_getElem?
 intro i
 rw [Array.getElem?_modify]
 split
 ·rename_i q
  subst q
  rw [h, Option.map_some, ← hk]
 ·rfl
theorem MapF.entry [DecidableEq α] (k : Key P K enc ok) (ht : P.underlying T = some (.map K E)) {z : Value} (hz : ∀ W, (zeroValue E).run P W = .ok z W) (h : MapF enc ok w b f) {x : α} (hx : ok x) :
 ∃ o st, (Instr.mapEntry T (.map (some b)) (enc x)).run P w = .ok (.tuple #[(f x).getD z, .int .i64 (st : Nat)]) (setBlock w b o) ∧ MapS enc ok (setBlock w b o) b (upd f x (some ((f x).getD z))) x st := by
 have hlt := h.lt
 obtain ⟨es, clock, hb, F⟩ := h
 obtain ⟨l, hl⟩ := k.of x hx
 have hc := k.law.check w false hl
 have hset : ∀ o, (setBlock w b o).heap[b]? = some o := fun o => by simp [setBlock, hlt]
 rcases F.find k w hx with ⟨h1, h2, h3⟩ | ⟨j, e0, h1, h2, h3, h4⟩
 ·refine ⟨.map (es.push ⟨enc x, z, clock⟩) (clock + 1), clock, ?_, _, _, hset _, ⟨stamped_push F.stamped h3, fun e he => ?_, fun y u hy => ?_⟩, _, by rw [Array.toList_push]; exact List.mem_append_right _ (List.mem_singleton.mpr rfl), rfl, rfl⟩
  ·rw [h1]
   simp [Instr.mapEntry, run_underlying ht, MapKept.run_getObj_map hb, hc, h2, hz, MapKept.run_setObj_map _ hb, Result.andThen, setBlock, goInt]
  ·rw [Array.toList_push, List.mem_append, List.mem_singleton] at he
   rw [h1]
   rcases he with he | rfl
   ·obtain ⟨y, hy, e1, e2⟩ := F.key e he
    exact ⟨y, hy, e1, by unfold upd; rw [if_neg (fun q => h3 e he (by rw [e1, q]))]; exact e2⟩
   ·exact ⟨x, hx, rfl, by unfold upd; rw [if_pos rfl]; rfl⟩
  ·unfold upd at hy
   rw [Array.toList_push]
   split at hy
   ·rename_i q
    subst q
    rw [h1] at hy
    exact ⟨_, List.mem_append_right _ (List.mem_singleton.mpr rfl), rfl, by simpa using hy⟩
   ·obtain ⟨e, he, e1, e2⟩ := F.has y u hy
    exact ⟨e, List.mem_append_left _ he, e1, e2⟩
 ·have hes : es[j]? = some e0 := by rw [← Array.getElem?_toList]; exact h3
  have hs := k.law.stays w hl
  have hm := modify_same hes h4
  refine ⟨.map es clock, e0.born, ?_, es, clock, hset _, ⟨F.stamped, fun e he => ?_, fun y u hy => ?_⟩, e0, List.mem_of_getElem? h3, h4, rfl⟩
  ·rw [h1]
   simp [Instr.mapEntry, run_underlying ht, MapKept.run_getObj_map hb, hc, h2, hes, h4, hs, hm, MapKept.run_setObj_map _ hb, Result.andThen, setBlock, goInt]
  ·obtain ⟨y, hy, e1, e2⟩ := F.key e he
   refine ⟨y, hy, e1, ?_⟩
   unfold upd
   split
   ·rename_i q
    subst q
    rw [h1] at e2 ⊢
    simpa using e2
   ·exact e2
  ·unfold upd at hy
   split at hy
   ·rename_i q
    subst q
    rw [h1] at hy
    exact F.has _ _ (by rw [h1]; simpa using hy)
   ·exact F.has y u hy
theorem MapS.store [DecidableEq α] (k : Key P K enc ok) {x : α} {st : Nat} (h : MapS enc ok w b f x st) (v : Value) :
 ∃ o, (Instr.entryStore T (.map (some b)) (.int .i64 (st : Nat)) v).run P w = .ok () (setBlock w b o) ∧ MapF enc ok (setBlock w b o) b (upd f x (some v)) := by
 have hlt := h.map.lt
 obtain ⟨es, clock, hb, F, e0, he0, hk0, hb0⟩ := h
 have hset : ∀ o, (setBlock w b o).heap[b]? = some o := fun o => by simp [setBlock, hlt]
 have hst := (stamped_iff es clock).1 F.stamped
 have hfi : ∃ i, es.findIdx? (fun e => (e.born : Int) == (st : Int)) = some i ∧ es[i]? = some e0 := by
  cases hfx : es.findIdx? (fun e => (e.born : Int) == (st : Int)) with
  | none =>
   rw [Array.findIdx?_eq_none_iff] at hfx
   have := hfx e0 (by simpa using he0)
   simp [hb0] at this
  | some i =>
   rw [Array.findIdx?_eq_some_iff_getElem] at hfx
   obtain ⟨hi, h1, -⟩ := hfx
   refine ⟨i, rfl, ?_⟩
   rw [Array.getElem?_eq_getElem hi]
   congr 1
   have h2 : es[i].born = st := by simp only [beq_iff_eq] at h1; omega
   exact born_inj hst.2.1 (by simp) he0 (h2.trans hb0.symm)
 obtain ⟨i, hi, hes⟩ := hfi
 have hesl : es.toList[i]? = some e0 := by rw [Array.getElem?_toList]; exact hes
 have hmod : ∀ e : MapEntry, e ∈ (es.modify i fun e => { e with val := v }).toList ↔ (e ∈ es.toList ∧ e.key ≠ enc x) ∨ e = { e0 with val := v } := fun e => by
  rw [List.mem_iff_getElem?]
  simp only [Array.getElem?_toList, Array.getElem?_modify]
  constructor
  ·rintro ⟨q, hq⟩
   split at hq
   ·rename_i r
    subst r
    rw [hes] at hq
    simp at hq
    exact .inr hq.symm
   ·rename_i r
    refine .inl ⟨by rw [← Array.getElem?_toList] at hq; exact List.mem_of_getElem? hq, fun hk => ?_⟩
    rw [← Array.getElem?_toList] at hq
    obtain ⟨i1, i2⟩ := List.getElem?_eq_some_iff.mp hq
    obtain ⟨j1, j2⟩ := List.getElem?_eq_some_iff.mp hesl
    rcases Nat.lt_trichotomy q i with s | s | s
    ·exact List.pairwise_iff_getElem.mp hst.2.2 q i i1 j1 s (by rw [i2, j2, hk, hk0])
    ·exact r s.symm
    ·exact List.pairwise_iff_getElem.mp hst.2.2 i q j1 i1 s (by rw [i2, j2, hk, hk0])
  ·rintro (⟨h5, h6⟩ | rfl)
   ·obtain ⟨q, q1⟩ := List.mem_iff_getElem?.mp h5
    refine ⟨q, ?_⟩
    rw [if_neg (fun r => ?_)]
    ·rw [← Array.getElem?_toList]; exact q1
    ·subst r
     rw [hesl] at q1
     injection q1 with q1
     exact h6 (by rw [← q1]; exact hk0)
   ·exact ⟨i, by rw [if_pos rfl, hes]; rfl⟩
 obtain ⟨y0, hy0, ey, -⟩ := F.key e0 he0
 have exy : y0 = x := k.inj y0 x (ey.symm.trans hk0)
 subst exy
 refine ⟨.map (es.modify i fun e => { e with val := v }) clock, ?_, _, _, hset _, stamped_modify F.stamped i _ (fun _ _ => rfl) (fun _ _ _ => rfl), fun e he => ?_, fun y u hy => ?_⟩
 ·simp [Instr.entryStore, MapKept.run_getObj_map hb, asInt, asIntOf, hi, MapKept.run_setObj_map _ hb, Result.andThen, setBlock, Sem.run_bind]
 ·rcases (hmod e).mp he with ⟨h5, h6⟩ | rfl
  ·obtain ⟨y, hy, e1, e2⟩ := F.key e h5
   exact ⟨y, hy, e1, by unfold upd; rw [if_neg (fun q => h6 (by rw [e1, q]))]; exact e2⟩
  ·exact ⟨y0, hy0, hk0, by unfold upd; rw [if_pos rfl]⟩
 ·unfold upd at hy
  split at hy
  ·rename_i q
   subst q
   exact ⟨_, (hmod _).mpr (.inr rfl), hk0, by simpa using hy⟩
  ·rename_i q
   obtain ⟨e, he, e1, e2⟩ := F.has y u hy
   exact ⟨e, (hmod e).mpr (.inl ⟨he, fun r => q (k.inj y y0 (e1.symm.trans r))⟩), e1, e2⟩
end
section
variable {P : Program} {K E T : TypeId} {α : Type} {enc : α → Value} {ok : α → Prop} {w : World} {b : Nat} {f : α → Option Value}
variable {ops : Array Oper} {o : Oper} {a : Act} {Kn : Act → World → Prop} {Q : Exit → Act → World → Prop} {R : Prop}
theorem step_of (hg : o.guard = none) (h : Oper.wp P o a w Kn Q) : if Region.wanted o (yielded ops a.tmps) = true then Oper.wp P o a w Kn Q else R := by
 have hw : Region.wanted o (yielded ops a.tmps) = true := by simp [Region.wanted, hg]
 rw [if_pos hw]
 exact h
theorem step_delete [DecidableEq α] (k : Key P K enc ok) (ht : P.underlying T = some (.map K E)) (hg : o.guard = none) (m x : Operand) {kt : TypeId} (hop : o.op = Op.call { callee := Callee.builtin Builtin.delete, args := #[m, x], argTypes := #[T, kt] }) (hm : a.eval m = .map (some b)) {y : α} (hx : a.eval x = enc y)
 (h : MapF enc ok w b f) (hy : ok y) (hK : ∀ W', MapF enc ok W' b (upd f y none) → (∀ c, c ≠ b → W'.heap[c]? = w.heap[c]?) → Below b w W' → Kn (a.put o.dst (.tuple #[])) W') : if Region.wanted o (yielded ops a.tmps) = true then Oper.wp P o a w Kn Q else R := by
 refine step_of hg ?_
 obtain ⟨ob, hrun, h2⟩ := h.delete k ht hy o.type kt
 unfold Oper.wp
 simp [execOp, hop, resolve, invoke, builtin, hm, hx, hrun, Result.andThen]
 exact hK _ h2 (fun c hc => other_block hc ob) (below_block (Nat.le_refl _) ob)
end
theorem upd_upd {α : Type} [DecidableEq α] (f : α → Option Value) (x : α) (u v : Option Value) : upd (upd f x u) x v = upd f x v := by
 funext y
 unfold upd
 split <;> rfl
end Go.Proofs.YtaoichlepfiliaaGreatDoor.Mp
end
