/- Lemmas of Mda. Conditions stand in each. -/
import Derived.Deep.QuietTactic
import Derived.Test.YtaoichlepfiliaaGreatDoorQXMcu
import Derived.Test.YtaoichlepfiliaaGreatDoorQXAdm
set_option linter.unusedSimpArgs false
set_option linter.unusedVariables false
namespace Go.Proofs.YtaoichlepfiliaaGreatDoor.Msh
open Go.RowKit Go.Sort Go.ChangeMaps Go.MapKept Go.Proofs.YtaoichlepfiliaaGreatDoor.Mp Go.Proofs.YtaoichlepfiliaaGreatDoor.Adm Go.Proofs.YtaoichlepfiliaaGreatDoor.R Go.Proofs.YtaoichlepfiliaaGreatDoor.E Go.Proofs.YtaoichlepfiliaaGreatDoorW.PrintWords Go.Proofs.YtaoichlepfiliaaGreatDoorW.PrintLast
def rotN (t : Tr) : Nat → Tr
 | 0 => t
 | k + 1 => rot (rotN t k)
theorem own_at {t : Tr} {k : Nat} (hk : k ≤ 2) (hn : ∀ j, j < k → ¬ Lo (rotN t j)) (h : Lo (rotN t k)) : own t = rotN t k := by
 unfold own
 rcases (show k = 0 ∨ k = 1 ∨ k = 2 by omega) with rfl | rfl | rfl
 ·rw [if_pos (show Lo t from h)]; rfl
 ·rw [if_neg (show ¬ Lo t from hn 0 (by omega)), if_pos (show Lo (rot t) from h)]; rfl
 ·rw [if_neg (show ¬ Lo t from hn 0 (by omega)), if_neg (show ¬ Lo (rot t) from hn 1 (by omega))]; rfl
theorem own_two {t : Tr} {k : Nat} (hk : k ≤ 2) (hn : ∀ j, j < k → ¬ Lo (rotN t j)) (h : ¬ Lo (rotN t k)) : k + 1 ≤ 2 := by
 rcases (show k = 0 ∨ k = 1 ∨ k = 2 by omega) with rfl | rfl | rfl
 ·omega
 ·omega
 ·have h0 := hn 0 (by omega)
  have h1 := hn 1 (by omega)
  simp only [rotN, rot, Lo] at h0 h1 h
  omega
def left3 : Option Obj → Nat
 | some (.cells cs _ _) => match cs[0]?, cs[1]?, cs[2]? with
  | some (Value.int _ a), some (Value.int _ b), some (Value.int _ c) => if Lo (a, b, c) then 0 else if Lo (b, c, a) then 1 else 2
  | _, _, _ => 0
 | _ => 0
structure Turn (w wr : World) (t : Tr) (k : Nat) : Prop where
 le : k ≤ 2
 no : ∀ j, j < k → ¬ Lo (rotN t j)
 one : wr.heap[w.heap.size]? = some (.cells #[.int .i64 (rotN t k).1, .int .i64 (rotN t k).2.1, .int .i64 (rotN t k).2.2] 53 (0, 0))
 two : wr.heap[w.heap.size + 1]? = some (.cells #[.int .i64 0, .int .i64 0, .int .i64 0] 53 (0, 0))
 gr : Gr w wr
theorem Turn.left {w wr : World} {t : Tr} {k : Nat} (h : Turn w wr t k) : left3 wr.heap[w.heap.size]? = if Lo (rotN t k) then 0 else if Lo (rot (rotN t k)) then 1 else 2 := by rw [h.one]; rfl
theorem Turn.falls {w wr wq : World} {t : Tr} {k : Nat} (h : Turn w wr t k) (h' : Turn w wq t (k + 1)) (hn : ¬ Lo (rotN t k)) : left3 wq.heap[w.heap.size]? < left3 wr.heap[w.heap.size]? := by
 rw [h.left, h'.left, if_neg hn]
 show (if Lo (rot (rotN t k)) then 0 else if Lo (rot (rot (rotN t k))) then 1 else 2) < _
 by_cases q : Lo (rot (rotN t k))
 ·rw [if_pos q, if_pos q]; omega
 ·rw [if_neg q, if_neg q]
  have : Lo (rot (rot (rotN t k))) := by
   generalize rotN t k = u at *
   simp only [Lo, rot] at *
   omega
  rw [if_pos this]; omega
set_option maxRecDepth 100000 in
set_option maxHeartbeats 4000000 in
theorem cown_call (t : Tr) (w : World) : Calls Tryz.prog 86 #[encT t] w fun e w' => e = .returned (encT (own t)) ∧ Gr w w' := by
 unfold encT
 have HS : Aside0 (Turn w ((w.alloc (.cells #[.int .i64 t.1, .int .i64 t.2.1, .int .i64 t.2.2] 53)).alloc (.cells #[.int .i64 0, .int .i64 0, .int .i64 0] 53)) t 0) := ⟨by omega, by omega, blk_alloc (blk_new _ _) _, by have := blk_new (w.alloc (.cells #[.int .i64 t.1, .int .i64 t.2.1, .int .i64 t.2.2] 53)) (.cells #[.int .i64 0, .int .i64 0, .int .i64 0] 53); simpa using this, ((Gr.refl w).alloc _).alloc _⟩
 go_enter Tryz.func86, Tryz.ntmps86
 go_wp2
 go_loopw [] (fun wr => ∃ k : Nat, Aside0 (Turn w wr t k)) (fun wr => left3 wr.heap[w.heap.size]?)
 case atStart => exact ⟨0, HS⟩
 case round =>
  clear HS
  obtain ⟨k, HT⟩ := hrel
  have x0 := (blk_cell HT.out.one 0).trans (show _ = some (Value.int .i64 (rotN t k).1) from rfl)
  have x1 := (blk_cell HT.out.one 1).trans (show _ = some (Value.int .i64 (rotN t k).2.1) from rfl)
  have x2 := (blk_cell HT.out.one 2).trans (show _ = some (Value.int .i64 (rotN t k).2.2) from rfl)
  have y0 := blk_frozen HT.out.one 0
  have y1 := blk_frozen HT.out.one 1
  have y2 := blk_frozen HT.out.one 2
  have hset : ∀ (h2 : k + 1 ≤ 2) (hn : ¬ Lo (rotN t k)), Turn w (((wr.setCell ⟨w.heap.size, 0, none⟩ (.int .i64 (rotN t k).2.1)).setCell ⟨w.heap.size, 1, none⟩ (.int .i64 (rotN t k).2.2)).setCell ⟨w.heap.size, 2, none⟩ (.int .i64 (rotN t k).1)) t (k + 1) := fun h2 hn => by
   have b1 := blk_set HT.out.one 0 (.int .i64 (rotN t k).2.1)
   have b2 := blk_set b1 1 (.int .i64 (rotN t k).2.2)
   have b3 := blk_set b2 2 (.int .i64 (rotN t k).1)
   refine ⟨h2, fun j hj => ?_, b3, ?_, gr_set (gr_set (gr_set HT.out.gr (Nat.le_refl _) _) (Nat.le_refl _) _) (Nat.le_refl _) _⟩
   ·rcases Nat.lt_or_eq_of_le (Nat.le_of_lt_succ hj) with q | q
    ·exact HT.out.no j q
    ·rw [q]; exact hn
   ·have hne : w.heap.size + 1 ≠ w.heap.size := by omega
    rw [Below.heap_setCell _ _ _ _ hne, Below.heap_setCell _ _ _ _ hne, Below.heap_setCell _ _ _ _ hne]
    exact HT.out.two
  have HSet := Aside0.mk hset
  clear hset
  by_cases q1 : (rotN t k).2.1 < (rotN t k).1
  ·have hn : ¬ Lo (rotN t k) := by unfold Lo; omega
   have d1 : decide ((rotN t k).2.1 < (rotN t k).1) = true := decide_eq_true q1
   have HN := Aside0.mk (And.intro hn (own_two HT.out.le HT.out.no hn))
   clear hn q1
   generalize hu : rotN t k = u at *
   have HU := Aside0.mk hu
   clear hu
   go_wp2
   have HT2 := HSet.out HN.out.2 HN.out.1
   exact ⟨⟨k + 1, ⟨HT2⟩⟩, HT.out.falls HT2 (by rw [HU.out]; exact HN.out.1)⟩
  ·have d1 : decide ((rotN t k).2.1 < (rotN t k).1) = false := decide_eq_false q1
   by_cases q2 : (rotN t k).2.2 < (rotN t k).1
   ·have hn : ¬ Lo (rotN t k) := by unfold Lo; omega
    have d2 : decide ((rotN t k).2.2 < (rotN t k).1) = true := decide_eq_true q2
    have HN := Aside0.mk (And.intro hn (own_two HT.out.le HT.out.no hn))
    clear hn q1 q2
    generalize hu : rotN t k = u at *
    have HU := Aside0.mk hu
    clear hu
    go_wp2
    have HT2 := HSet.out HN.out.2 HN.out.1
    exact ⟨⟨k + 1, ⟨HT2⟩⟩, HT.out.falls HT2 (by rw [HU.out]; exact HN.out.1)⟩
   ·have hy : Lo (rotN t k) := by unfold Lo; omega
    have d2 : decide ((rotN t k).2.2 < (rotN t k).1) = false := decide_eq_false q2
    have HO := Aside0.mk (own_at HT.out.le HT.out.no hy)
    have z0 := blk_cell HT.out.two 0
    have z1 := blk_cell HT.out.two 1
    have z2 := blk_cell HT.out.two 2
    have z3 := blk_frozen HT.out.two 0
    have z4 := blk_frozen HT.out.two 1
    have z5 := blk_frozen HT.out.two 2
    clear HSet hy q1 q2
    generalize hu : rotN t k = u at *
    have HU := Aside0.mk hu
    clear hu
    go_wp2
    refine bodyPost_ret (v := .agg #[.int .i64 u.1, .int .i64 u.2.1, .int .i64 u.2.2]) ?_ rfl ⟨by rw [HO.out], gr_set (gr_set (gr_set HT.out.gr (Nat.le_succ _) _) (Nat.le_succ _) _) (Nat.le_succ _) _⟩
    have b3 := blk_set (blk_set (blk_set HT.out.two 0 (.int .i64 u.1)) 1 (.int .i64 u.2.1)) 2 (.int .i64 u.2.2)
    have q0 := (blk_cell b3 0).trans (show _ = some (Value.int .i64 u.1) from rfl)
    have q1 := (blk_cell b3 1).trans (show _ = some (Value.int .i64 u.2.1) from rfl)
    have q2 := (blk_cell b3 2).trans (show _ = some (Value.int .i64 u.2.2) from rfl)
    clear b3 z0 z1 z2 z3 z4 z5 x0 x1 x2 y0 y1 y2
    generalize (((wr.setCell ⟨w.heap.size + 1, 0, none⟩ (.int .i64 u.1)).setCell ⟨w.heap.size + 1, 1, none⟩ (.int .i64 u.2.1)).setCell ⟨w.heap.size + 1, 2, none⟩ (.int .i64 u.2.2)) = W9 at *
    simp [results, Tryz.results86, go_sem, q0, q1, q2]
def edgeOpen (O F : List Tr) (a b : Int) : Bool := !(behind O b a).isSome && !(fixO F a b).isSome
def openB (O F : List Tr) (t : Tr) : Bool := edgeOpen O F t.1 t.2.1 || (edgeOpen O F t.2.1 t.2.2 || edgeOpen O F t.2.2 t.1)
section
variable {w : World} {mb : Nat} {l : List S} {O F : List Tr} {M : Nat → Prop}
set_option maxRecDepth 100000 in
set_option maxHeartbeats 16000000 in
theorem open_call (h : MeshAt w mb l O F M) {a b c : Int} (wa : W64 a) (wb : W64 b) (wc : W64 c) : Calls Tryz.prog 40 #[ptr mb, .agg #[.int .i64 a, .int .i64 b, .int .i64 c]] w fun e w' => e = .returned (.bool (openB O F (a, b, c))) ∧ Gr w w' := by
 have HW := Aside0.mk (And.intro wa (And.intro wb wc))
 clear wa wb wc
 obtain ⟨W1, hW1⟩ : ∃ W1, W1 = w.alloc (.cells #[.int .i64 a, .int .i64 b, .int .i64 c] 53) := ⟨_, rfl⟩
 have hGbox : Gr w W1 := by rw [hW1]; exact (Gr.refl w).alloc _
 have hbx : W1.heap[w.heap.size]? = some (.cells #[.int .i64 a, .int .i64 b, .int .i64 c] 53 (0, 0)) := by rw [hW1]; exact blk_new _ _
 go_enter Tryz.func40, Tryz.ntmps40
 go_wp2
 rw [← hW1]
 clear hW1
 go_loopw [12] (fun v12 wr => ∃ k : Nat, k ≤ 3 ∧ v12 = .int .i64 k ∧ Aside0 (Gr W1 wr) ∧ Aside0 ((0 < k → edgeOpen O F a b = false) ∧ (1 < k → edgeOpen O F b c = false) ∧ (2 < k → edgeOpen O F c a = false))) (fun v12 _ => 3 - (intOf v12).toNat)
 case atStart => exact ⟨0, by omega, rfl, ⟨Gr.refl _⟩, ⟨by omega, by omega, by omega⟩⟩
 case round =>
  obtain ⟨k, hk, rfl, HG, HF⟩ := hrel
  have hGw := hGbox.trans HG.out
  have hbw := gr_blk hbx HG.out
  have x0 := (blk_cell hbw 0).trans (show _ = some (Value.int .i64 a) from rfl)
  have x1 := (blk_cell hbw 1).trans (show _ = some (Value.int .i64 b) from rfl)
  have x2 := (blk_cell hbw 2).trans (show _ = some (Value.int .i64 c) from rfl)
  rcases (show k = 0 ∨ k = 1 ∨ k = 2 ∨ k = 3 by omega) with rfl | rfl | rfl | rfl
  ·have ha1 := fun W (hW : Gr wr W) => apex_call (h.below (hGw.trans hW).below) HW.out.2.1 HW.out.1
   have hf1 := fun W (hW : Gr wr W) => fixed_call (h.below (hGw.trans hW).below) HW.out.1 HW.out.2.1
   have hq : edgeOpen O F a b = (!(behind O b a).isSome && !(fixO F a b).isSome) := rfl
   generalize (behind O b a).getD 0 = g1 at *
   generalize (behind O b a).isSome = g2 at *
   generalize (fixO F a b).getD 0 = g3 at *
   generalize (fixO F a b).isSome = g4 at *
   have HQ0 := Aside0.mk hq
   clear hq
   cases g2 <;> cases g4
   all_goals
    go_wp2
    go_quiet (fail)
    go_wp2_with (first | (go_at_call 22; (with_reducible refine (ha1 _ (Gr.drewN (Gr.refl _) _)).mono ?_); rintro u_ w5 ⟨rfl, rfl⟩) | (go_at_call 23; (with_reducible refine (hf1 _ (Gr.drewN (Gr.refl _) _)).mono ?_); rintro u_ w6 ⟨rfl, hg6⟩))
    have HG6 := Aside0.mk ((HG.out.drewN _).trans hg6)
    have HQ : Aside0 (edgeOpen O F a b = _) := ⟨HQ0.out⟩
    first
     | (go_roundw
        case rel => exact ⟨1, by omega, rfl, HG6, ⟨fun _ => HQ.out, fun h => by omega, fun h => by omega⟩⟩
        case measure => simp [intOf])
     | (go_ret
        have e : openB O F (a, b, c) = true := by unfold openB; rw [HQ.out]; rfl
        rw [e]
        exact ⟨rfl, hGbox.trans HG6.out⟩)
  ·have ha1 := fun W (hW : Gr wr W) => apex_call (h.below (hGw.trans hW).below) HW.out.2.2 HW.out.2.1
   have hf1 := fun W (hW : Gr wr W) => fixed_call (h.below (hGw.trans hW).below) HW.out.2.1 HW.out.2.2
   have hq : edgeOpen O F b c = (!(behind O c b).isSome && !(fixO F b c).isSome) := rfl
   generalize (behind O c b).getD 0 = g1 at *
   generalize (behind O c b).isSome = g2 at *
   generalize (fixO F b c).getD 0 = g3 at *
   generalize (fixO F b c).isSome = g4 at *
   have HQ0 := Aside0.mk hq
   clear hq
   cases g2 <;> cases g4
   all_goals
    go_wp2
    go_quiet (fail)
    go_wp2_with (first | (go_at_call 22; (with_reducible refine (ha1 _ (Gr.drewN (Gr.refl _) _)).mono ?_); rintro u_ w5 ⟨rfl, rfl⟩) | (go_at_call 23; (with_reducible refine (hf1 _ (Gr.drewN (Gr.refl _) _)).mono ?_); rintro u_ w6 ⟨rfl, hg6⟩))
    have HG6 := Aside0.mk ((HG.out.drewN _).trans hg6)
    have HQ : Aside0 (edgeOpen O F b c = _) := ⟨HQ0.out⟩
    first
     | (go_roundw
        case rel => exact ⟨2, by omega, rfl, HG6, ⟨fun _ => HF.out.1 (by omega), fun _ => HQ.out, fun h => by omega⟩⟩
        case measure => simp [intOf])
     | (go_ret
        have e : openB O F (a, b, c) = true := by unfold openB; rw [HF.out.1 (by omega), HQ.out]; rfl
        rw [e]
        exact ⟨rfl, hGbox.trans HG6.out⟩)
  ·have ha1 := fun W (hW : Gr wr W) => apex_call (h.below (hGw.trans hW).below) HW.out.1 HW.out.2.2
   have hf1 := fun W (hW : Gr wr W) => fixed_call (h.below (hGw.trans hW).below) HW.out.2.2 HW.out.1
   have hq : edgeOpen O F c a = (!(behind O a c).isSome && !(fixO F c a).isSome) := rfl
   generalize (behind O a c).getD 0 = g1 at *
   generalize (behind O a c).isSome = g2 at *
   generalize (fixO F c a).getD 0 = g3 at *
   generalize (fixO F c a).isSome = g4 at *
   have HQ0 := Aside0.mk hq
   clear hq
   cases g2 <;> cases g4
   all_goals
    go_wp2
    go_quiet (fail)
    go_wp2_with (first | (go_at_call 22; (with_reducible refine (ha1 _ (Gr.drewN (Gr.refl _) _)).mono ?_); rintro u_ w5 ⟨rfl, rfl⟩) | (go_at_call 23; (with_reducible refine (hf1 _ (Gr.drewN (Gr.refl _) _)).mono ?_); rintro u_ w6 ⟨rfl, hg6⟩))
    have HG6 := Aside0.mk ((HG.out.drewN _).trans hg6)
    have HQ : Aside0 (edgeOpen O F c a = _) := ⟨HQ0.out⟩
    first
     | (go_roundw
        case rel => exact ⟨3, by omega, rfl, HG6, ⟨fun _ => HF.out.1 (by omega), fun _ => HF.out.2.1 (by omega), fun _ => HQ.out⟩⟩
        case measure => simp [intOf])
     | (go_ret
        have e : openB O F (a, b, c) = true := by unfold openB; rw [HF.out.1 (by omega), HF.out.2.1 (by omega), HQ.out]; rfl
        rw [e]
        exact ⟨rfl, hGbox.trans HG6.out⟩)
  ·have e : openB O F (a, b, c) = false := by unfold openB; rw [HF.out.1 (by omega), HF.out.2.1 (by omega), HF.out.2.2 (by omega)]; rfl
   have HE := Aside0.mk e
   clear e
   go_wp2
   go_ret
   rw [HE.out]
   exact ⟨rfl, hGw⟩
def sgE (l : List S) (p : S) (a b : Int) : Int := sgnS (ptO l a) (ptO l b) p
def liesB (l : List S) (t : Tr) (p : S) : Bool := decide (0 ≤ sgE l p t.1 t.2.1) && (decide (0 ≤ sgE l p t.2.1 t.2.2) && decide (0 ≤ sgE l p t.2.2 t.1))
theorem gp_zero : gp ⟨0, 0⟩ = true := by kernel_rfl
theorem ptO_gp {l : List S} (h : ∀ x ∈ l, gp x = true) (i : Int) : gp (ptO l i) = true := by
 by_cases hi : hasN l i = true
 ·exact h _ (ptO_in hi).2.2.2
 ·unfold ptO
  unfold hasN at hi
  rw [if_neg (by simpa using hi)]
  exact gp_zero
theorem pt_cells {w : World} {B t : Nat} {x : S} (h : w.heap[B]? = some (.cells #[.float .f64 x.f0, .float .f64 x.f1] t (0, 0))) : w.cell? ⟨B, 0, none⟩ = some (.float .f64 x.f0) ∧ w.cell? ⟨B, 1, none⟩ = some (.float .f64 x.f1) := ⟨blk_cell h 0, blk_cell h 1⟩
set_option maxRecDepth 100000 in
set_option maxHeartbeats 16000000 in
theorem lies_call (h : MeshAt w mb l O F M) (a b c : Int) {p : S} (hp : gp p = true) : Calls Tryz.prog 46 #[ptr mb, .agg #[.int .i64 a, .int .i64 b, .int .i64 c], ptV p] w fun e w' => e = .returned (.bool (liesB l (a, b, c) p)) ∧ Below w.heap.size w w' := by
 have hgp : ∀ i, gp (ptO l i) = true := by obtain ⟨_, _, _, _, _, _, _, _, q⟩ := h; exact ptO_gp q.good.1
 obtain ⟨W1, hW1⟩ : ∃ W1, W1 = (w.alloc (.cells #[.int .i64 a, .int .i64 b, .int .i64 c] 53)).alloc (.cells #[.float .f64 p.f0, .float .f64 p.f1] 71) := ⟨_, rfl⟩
 have hGbox : Gr w W1 := by rw [hW1]; exact ((Gr.refl w).alloc _).alloc _
 have hbx : W1.heap[w.heap.size]? = some (.cells #[.int .i64 a, .int .i64 b, .int .i64 c] 53 (0, 0)) := by rw [hW1]; exact blk_alloc (blk_new _ _) _
 have hby : W1.heap[w.heap.size + 1]? = some (.cells #[.float .f64 p.f0, .float .f64 p.f1] 71 (0, 0)) := by rw [hW1]; have := blk_new (w.alloc (.cells #[.int .i64 a, .int .i64 b, .int .i64 c] 53)) (.cells #[.float .f64 p.f0, .float .f64 p.f1] 71); simpa using this
 go_enter Tryz.func46, Tryz.ntmps46
 go_wp2
 rw [← hW1]
 clear hW1
 go_loopw [12] (fun v12 wr => ∃ k : Nat, k ≤ 3 ∧ v12 = .int .i64 k ∧ Aside0 (Below W1.heap.size W1 wr) ∧ Aside0 ((0 < k → 0 ≤ sgE l p a b) ∧ (1 < k → 0 ≤ sgE l p b c) ∧ (2 < k → 0 ≤ sgE l p c a))) (fun v12 _ => 3 - (intOf v12).toNat)
 case atStart => exact ⟨0, by omega, rfl, ⟨Below.refl _ _⟩, ⟨by omega, by omega, by omega⟩⟩
 case round =>
  obtain ⟨k, hk, rfl, HG, HF⟩ := hrel
  have hGw : Below w.heap.size w wr := hGbox.below.trans (HG.out.mono hGbox.below.size)
  have hbw := blk_below hbx HG.out
  have hbw2 := blk_below hby HG.out
  have x0 := (blk_cell hbw 0).trans (show _ = some (Value.int .i64 a) from rfl)
  have x1 := (blk_cell hbw 1).trans (show _ = some (Value.int .i64 b) from rfl)
  have x2 := (blk_cell hbw 2).trans (show _ = some (Value.int .i64 c) from rfl)
  rcases (show k = 0 ∨ k = 1 ∨ k = 2 ∨ k = 3 by omega) with rfl | rfl | rfl | rfl
  ·have hp1 := fun W (hW : Below wr.heap.size wr W) => point_call (h.below (hGw.trans (hW.mono hGw.size))) a
   have hp2 := fun W (hW : Below wr.heap.size wr W) => point_call (h.below (hGw.trans (hW.mono hGw.size))) b
   have hsg := fun W => sign_any (hgp a) (hgp b) hp W
   have hq : sgE l p a b = sgnS (ptO l a) (ptO l b) p := rfl
   generalize ptO l a = u1 at *
   generalize ptO l b = u2 at *
   generalize sgnS u1 u2 p = sg at *
   have HQ0 := Aside0.mk hq
   clear hq
   by_cases hs : sg < 0
   ·have d1 : decide (sg < 0) = true := decide_eq_true hs
    have e : liesB l (a, b, c) p = false := by
     have : decide (0 ≤ sgE l p a b) = false := decide_eq_false (by rw [HQ0.out]; omega)
     unfold liesB; simp only; rw [this]; rfl
    have HE := Aside0.mk e
    clear hs e
    go_wp2_with (first
     | (go_at_call 79; (with_reducible refine (hp1 _ (Below.refl _ _)).mono ?_); rintro u_ w5 ⟨rfl, hg5⟩; have k5 := gr_blk hbw (hg5.alloc (.cells #[.float .f64 u1.f0, .float .f64 u1.f1] 71)); have k5p := gr_blk hbw2 (hg5.alloc (.cells #[.float .f64 u1.f0, .float .f64 u1.f1] 71)); have k51 := blk_new w5 (.cells #[.float .f64 u1.f0, .float .f64 u1.f1] 71); have c5 := three_cells k5; obtain ⟨c50, c51, c52, -, -, -, -⟩ := c5; have hb5 := (hg5.alloc (.cells #[.float .f64 u1.f0, .float .f64 u1.f1] 71)).below; clear k5)
     | (go_at_call 79; (with_reducible refine (hp2 _ hb5).mono ?_); rintro u_ w6 ⟨rfl, hg6⟩; have k6p := pt_cells (gr_blk k5p (hg6.alloc (.cells #[.float .f64 u2.f0, .float .f64 u2.f1] 71))); have k61 := pt_cells (gr_blk k51 (hg6.alloc (.cells #[.float .f64 u2.f0, .float .f64 u2.f1] 71))); obtain ⟨q0, q1⟩ := k6p; obtain ⟨q2, q3⟩ := k61; have HB6 := Aside0.mk (hb5.trans ((hg6.alloc (.cells #[.float .f64 u2.f0, .float .f64 u2.f1] 71)).below.mono hb5.size)); clear k5p k51 c50 c51 c52)
     | (go_at_call 67; (with_reducible refine (hsg _).mono ?_); rintro u_ w7 ⟨rfl, hb7⟩))
    go_ret
    rw [HE.out]
    exact ⟨rfl, hGw.trans ((HB6.out.trans (hb7.mono HB6.out.size)).mono hGw.size)⟩
   ·have d1 : decide (sg < 0) = false := decide_eq_false hs
    have HQ : Aside0 (0 ≤ sgE l p a b) := ⟨by rw [HQ0.out]; omega⟩
    clear hs
    go_wp2_with (first
     | (go_at_call 79; (with_reducible refine (hp1 _ (Below.refl _ _)).mono ?_); rintro u_ w5 ⟨rfl, hg5⟩; have k5 := gr_blk hbw (hg5.alloc (.cells #[.float .f64 u1.f0, .float .f64 u1.f1] 71)); have k5p := gr_blk hbw2 (hg5.alloc (.cells #[.float .f64 u1.f0, .float .f64 u1.f1] 71)); have k51 := blk_new w5 (.cells #[.float .f64 u1.f0, .float .f64 u1.f1] 71); have c5 := three_cells k5; obtain ⟨c50, c51, c52, -, -, -, -⟩ := c5; have hb5 := (hg5.alloc (.cells #[.float .f64 u1.f0, .float .f64 u1.f1] 71)).below; clear k5)
     | (go_at_call 79; (with_reducible refine (hp2 _ hb5).mono ?_); rintro u_ w6 ⟨rfl, hg6⟩; have k6p := pt_cells (gr_blk k5p (hg6.alloc (.cells #[.float .f64 u2.f0, .float .f64 u2.f1] 71))); have k61 := pt_cells (gr_blk k51 (hg6.alloc (.cells #[.float .f64 u2.f0, .float .f64 u2.f1] 71))); obtain ⟨q0, q1⟩ := k6p; obtain ⟨q2, q3⟩ := k61; have HB6 := Aside0.mk (hb5.trans ((hg6.alloc (.cells #[.float .f64 u2.f0, .float .f64 u2.f1] 71)).below.mono hb5.size)); clear k5p k51 c50 c51 c52)
     | (go_at_call 67; (with_reducible refine (hsg _).mono ?_); rintro u_ w7 ⟨rfl, hb7⟩))
    go_roundw
    case rel => exact ⟨1, by omega, rfl, ⟨HG.out.trans ((HB6.out.trans (hb7.mono HB6.out.size)).mono HG.out.size)⟩, ⟨fun _ => HQ.out, fun h => by omega, fun h => by omega⟩⟩
    case measure => simp [intOf]
  ·have hp1 := fun W (hW : Below wr.heap.size wr W) => point_call (h.below (hGw.trans (hW.mono hGw.size))) b
   have hp2 := fun W (hW : Below wr.heap.size wr W) => point_call (h.below (hGw.trans (hW.mono hGw.size))) c
   have hsg := fun W => sign_any (hgp b) (hgp c) hp W
   have hq : sgE l p b c = sgnS (ptO l b) (ptO l c) p := rfl
   generalize ptO l b = u1 at *
   generalize ptO l c = u2 at *
   generalize sgnS u1 u2 p = sg at *
   have HQ0 := Aside0.mk hq
   clear hq
   by_cases hs : sg < 0
   ·have d1 : decide (sg < 0) = true := decide_eq_true hs
    have e : liesB l (a, b, c) p = false := by
     have : decide (0 ≤ sgE l p b c) = false := decide_eq_false (by rw [HQ0.out]; omega)
     unfold liesB; simp only; rw [decide_eq_true (HF.out.1 (by omega))]; rw [this]; rfl
    have HE := Aside0.mk e
    clear hs e
    go_wp2_with (first
     | (go_at_call 79; (with_reducible refine (hp1 _ (Below.refl _ _)).mono ?_); rintro u_ w5 ⟨rfl, hg5⟩; have k5 := gr_blk hbw (hg5.alloc (.cells #[.float .f64 u1.f0, .float .f64 u1.f1] 71)); have k5p := gr_blk hbw2 (hg5.alloc (.cells #[.float .f64 u1.f0, .float .f64 u1.f1] 71)); have k51 := blk_new w5 (.cells #[.float .f64 u1.f0, .float .f64 u1.f1] 71); have c5 := three_cells k5; obtain ⟨c50, c51, c52, -, -, -, -⟩ := c5; have hb5 := (hg5.alloc (.cells #[.float .f64 u1.f0, .float .f64 u1.f1] 71)).below; clear k5)
     | (go_at_call 79; (with_reducible refine (hp2 _ hb5).mono ?_); rintro u_ w6 ⟨rfl, hg6⟩; have k6p := pt_cells (gr_blk k5p (hg6.alloc (.cells #[.float .f64 u2.f0, .float .f64 u2.f1] 71))); have k61 := pt_cells (gr_blk k51 (hg6.alloc (.cells #[.float .f64 u2.f0, .float .f64 u2.f1] 71))); obtain ⟨q0, q1⟩ := k6p; obtain ⟨q2, q3⟩ := k61; have HB6 := Aside0.mk (hb5.trans ((hg6.alloc (.cells #[.float .f64 u2.f0, .float .f64 u2.f1] 71)).below.mono hb5.size)); clear k5p k51 c50 c51 c52)
     | (go_at_call 67; (with_reducible refine (hsg _).mono ?_); rintro u_ w7 ⟨rfl, hb7⟩))
    go_ret
    rw [HE.out]
    exact ⟨rfl, hGw.trans ((HB6.out.trans (hb7.mono HB6.out.size)).mono hGw.size)⟩
   ·have d1 : decide (sg < 0) = false := decide_eq_false hs
    have HQ : Aside0 (0 ≤ sgE l p b c) := ⟨by rw [HQ0.out]; omega⟩
    clear hs
    go_wp2_with (first
     | (go_at_call 79; (with_reducible refine (hp1 _ (Below.refl _ _)).mono ?_); rintro u_ w5 ⟨rfl, hg5⟩; have k5 := gr_blk hbw (hg5.alloc (.cells #[.float .f64 u1.f0, .float .f64 u1.f1] 71)); have k5p := gr_blk hbw2 (hg5.alloc (.cells #[.float .f64 u1.f0, .float .f64 u1.f1] 71)); have k51 := blk_new w5 (.cells #[.float .f64 u1.f0, .float .f64 u1.f1] 71); have c5 := three_cells k5; obtain ⟨c50, c51, c52, -, -, -, -⟩ := c5; have hb5 := (hg5.alloc (.cells #[.float .f64 u1.f0, .float .f64 u1.f1] 71)).below; clear k5)
     | (go_at_call 79; (with_reducible refine (hp2 _ hb5).mono ?_); rintro u_ w6 ⟨rfl, hg6⟩; have k6p := pt_cells (gr_blk k5p (hg6.alloc (.cells #[.float .f64 u2.f0, .float .f64 u2.f1] 71))); have k61 := pt_cells (gr_blk k51 (hg6.alloc (.cells #[.float .f64 u2.f0, .float .f64 u2.f1] 71))); obtain ⟨q0, q1⟩ := k6p; obtain ⟨q2, q3⟩ := k61; have HB6 := Aside0.mk (hb5.trans ((hg6.alloc (.cells #[.float .f64 u2.f0, .float .f64 u2.f1] 71)).below.mono hb5.size)); clear k5p k51 c50 c51 c52)
     | (go_at_call 67; (with_reducible refine (hsg _).mono ?_); rintro u_ w7 ⟨rfl, hb7⟩))
    go_roundw
    case rel => exact ⟨2, by omega, rfl, ⟨HG.out.trans ((HB6.out.trans (hb7.mono HB6.out.size)).mono HG.out.size)⟩, ⟨fun _ => HF.out.1 (by omega), fun _ => HQ.out, fun h => by omega⟩⟩
    case measure => simp [intOf]
  ·have hp1 := fun W (hW : Below wr.heap.size wr W) => point_call (h.below (hGw.trans (hW.mono hGw.size))) c
   have hp2 := fun W (hW : Below wr.heap.size wr W) => point_call (h.below (hGw.trans (hW.mono hGw.size))) a
   have hsg := fun W => sign_any (hgp c) (hgp a) hp W
   have hq : sgE l p c a = sgnS (ptO l c) (ptO l a) p := rfl
   generalize ptO l c = u1 at *
   generalize ptO l a = u2 at *
   generalize sgnS u1 u2 p = sg at *
   have HQ0 := Aside0.mk hq
   clear hq
   by_cases hs : sg < 0
   ·have d1 : decide (sg < 0) = true := decide_eq_true hs
    have e : liesB l (a, b, c) p = false := by
     have : decide (0 ≤ sgE l p c a) = false := decide_eq_false (by rw [HQ0.out]; omega)
     unfold liesB; simp only; rw [decide_eq_true (HF.out.1 (by omega)), decide_eq_true (HF.out.2.1 (by omega))]; rw [this]; rfl
    have HE := Aside0.mk e
    clear hs e
    go_wp2_with (first
     | (go_at_call 79; (with_reducible refine (hp1 _ (Below.refl _ _)).mono ?_); rintro u_ w5 ⟨rfl, hg5⟩; have k5 := gr_blk hbw (hg5.alloc (.cells #[.float .f64 u1.f0, .float .f64 u1.f1] 71)); have k5p := gr_blk hbw2 (hg5.alloc (.cells #[.float .f64 u1.f0, .float .f64 u1.f1] 71)); have k51 := blk_new w5 (.cells #[.float .f64 u1.f0, .float .f64 u1.f1] 71); have c5 := three_cells k5; obtain ⟨c50, c51, c52, -, -, -, -⟩ := c5; have hb5 := (hg5.alloc (.cells #[.float .f64 u1.f0, .float .f64 u1.f1] 71)).below; clear k5)
     | (go_at_call 79; (with_reducible refine (hp2 _ hb5).mono ?_); rintro u_ w6 ⟨rfl, hg6⟩; have k6p := pt_cells (gr_blk k5p (hg6.alloc (.cells #[.float .f64 u2.f0, .float .f64 u2.f1] 71))); have k61 := pt_cells (gr_blk k51 (hg6.alloc (.cells #[.float .f64 u2.f0, .float .f64 u2.f1] 71))); obtain ⟨q0, q1⟩ := k6p; obtain ⟨q2, q3⟩ := k61; have HB6 := Aside0.mk (hb5.trans ((hg6.alloc (.cells #[.float .f64 u2.f0, .float .f64 u2.f1] 71)).below.mono hb5.size)); clear k5p k51 c50 c51 c52)
     | (go_at_call 67; (with_reducible refine (hsg _).mono ?_); rintro u_ w7 ⟨rfl, hb7⟩))
    go_ret
    rw [HE.out]
    exact ⟨rfl, hGw.trans ((HB6.out.trans (hb7.mono HB6.out.size)).mono hGw.size)⟩
   ·have d1 : decide (sg < 0) = false := decide_eq_false hs
    have HQ : Aside0 (0 ≤ sgE l p c a) := ⟨by rw [HQ0.out]; omega⟩
    clear hs
    go_wp2_with (first
     | (go_at_call 79; (with_reducible refine (hp1 _ (Below.refl _ _)).mono ?_); rintro u_ w5 ⟨rfl, hg5⟩; have k5 := gr_blk hbw (hg5.alloc (.cells #[.float .f64 u1.f0, .float .f64 u1.f1] 71)); have k5p := gr_blk hbw2 (hg5.alloc (.cells #[.float .f64 u1.f0, .float .f64 u1.f1] 71)); have k51 := blk_new w5 (.cells #[.float .f64 u1.f0, .float .f64 u1.f1] 71); have c5 := three_cells k5; obtain ⟨c50, c51, c52, -, -, -, -⟩ := c5; have hb5 := (hg5.alloc (.cells #[.float .f64 u1.f0, .float .f64 u1.f1] 71)).below; clear k5)
     | (go_at_call 79; (with_reducible refine (hp2 _ hb5).mono ?_); rintro u_ w6 ⟨rfl, hg6⟩; have k6p := pt_cells (gr_blk k5p (hg6.alloc (.cells #[.float .f64 u2.f0, .float .f64 u2.f1] 71))); have k61 := pt_cells (gr_blk k51 (hg6.alloc (.cells #[.float .f64 u2.f0, .float .f64 u2.f1] 71))); obtain ⟨q0, q1⟩ := k6p; obtain ⟨q2, q3⟩ := k61; have HB6 := Aside0.mk (hb5.trans ((hg6.alloc (.cells #[.float .f64 u2.f0, .float .f64 u2.f1] 71)).below.mono hb5.size)); clear k5p k51 c50 c51 c52)
     | (go_at_call 67; (with_reducible refine (hsg _).mono ?_); rintro u_ w7 ⟨rfl, hb7⟩))
    go_roundw
    case rel => exact ⟨3, by omega, rfl, ⟨HG.out.trans ((HB6.out.trans (hb7.mono HB6.out.size)).mono HG.out.size)⟩, ⟨fun _ => HF.out.1 (by omega), fun _ => HF.out.2.1 (by omega), fun _ => HQ.out⟩⟩
    case measure => simp [intOf]
  ·have e : liesB l (a, b, c) p = true := by unfold liesB; rw [decide_eq_true (HF.out.1 (by omega)), decide_eq_true (HF.out.2.1 (by omega)), decide_eq_true (HF.out.2.2 (by omega))]; rfl
   have HE := Aside0.mk e
   clear e
   go_wp2
   go_ret
   rw [HE.out]
   exact ⟨rfl, hGw⟩
end
end Go.Proofs.YtaoichlepfiliaaGreatDoor.Msh
