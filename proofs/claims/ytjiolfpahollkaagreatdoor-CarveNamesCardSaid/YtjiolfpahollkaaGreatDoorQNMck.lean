/- What the proof needs of Mck: only what is used is left (wip/tools/prune.py). Conditions stand in each sentence. -/
import Derived.Lib.SliceRun
import Derived.Test.YtjiolfpahollkaaGreatDoorQNMch
import Derived.RowKit
import Derived.Deep.QuietTactic
import Derived.Deep.LoopGhost
import Derived.RegionTactic
import Derived.Lib.Hide
import Derived.Sort.OwnSortedInts
import Derived.Lib.OwnBridge
import Derived.Test.YtjiolfpahollkaaGreatDoorProg
import Derived.Shelf.SlSortCmp.NoneTotal
import Derived.Test.YtjiolfpahollkaaGreatDoorQNAdm
import Derived.Test.YtjiolfpahollkaaGreatDoorQNHld
import Derived.Deep.RegionHeld3
section
set_option linter.unusedVariables false
set_option linter.unusedSimpArgs false
namespace Go.Proofs.YtjiolfpahollkaaGreatDoor.Adm
end Go.Proofs.YtjiolfpahollkaaGreatDoor.Adm
namespace Go.Proofs.YtjiolfpahollkaaGreatDoor.E
end Go.Proofs.YtjiolfpahollkaaGreatDoor.E
namespace Go.Proofs.YtjiolfpahollkaaGreatDoor.Mp
end Go.Proofs.YtjiolfpahollkaaGreatDoor.Mp
namespace Go.Proofs.YtjiolfpahollkaaGreatDoor.R
end Go.Proofs.YtjiolfpahollkaaGreatDoor.R
namespace Go.Proofs.YtjiolfpahollkaaGreatDoorW.PrintLast
end Go.Proofs.YtjiolfpahollkaaGreatDoorW.PrintLast
namespace Go.Proofs.YtjiolfpahollkaaGreatDoorW.PrintMore
end Go.Proofs.YtjiolfpahollkaaGreatDoorW.PrintMore
namespace Go.Proofs.YtjiolfpahollkaaGreatDoorW.PrintWords
end Go.Proofs.YtjiolfpahollkaaGreatDoorW.PrintWords
namespace Go.Proofs.YtjiolfpahollkaaGreatDoor.Msh
open Go.RowKit Go.Sort Go.ChangeMaps Go.MapKept Go.Proofs.YtjiolfpahollkaaGreatDoor.Mp Go.Proofs.YtjiolfpahollkaaGreatDoor.Adm Go.Proofs.YtjiolfpahollkaaGreatDoor.R Go.Proofs.YtjiolfpahollkaaGreatDoor.E Go.Proofs.YtjiolfpahollkaaGreatDoorW.PrintWords Go.Proofs.YtjiolfpahollkaaGreatDoorW.PrintLast Go.Proofs.YtjiolfpahollkaaGreatDoorW.PrintMore
theorem idxF_none {α : Type} {p : α → Bool} : ∀ (xs : List α) (n : Nat), idxF p n xs < 0 → ∀ x ∈ xs, p x = false
  | [], _, _ => by simp
  | x :: xs, n, h => by
    unfold idxF at h
    split at h
    · omega
    · rename_i hp
      intro y hy
      rcases List.mem_cons.mp hy with e | e
      · rw [e]; simpa using hp
      · exact idxF_none xs (n + 1) h y e
theorem allF_ok {l : List S} (h : (allF l).2 = 0) : (∀ x ∈ l, gp x = true) ∧ l.length ≤ 1048576 := by
  unfold allF at h
  split at h
  · simp at h
  · rename_i h1
    split at h
    · simp at h
    · rename_i h2
      exact ⟨fun x hx => by have := idxF_none (p := fun x => !gp x) l 0 (by omega) x hx; simpa using this, by omega⟩
theorem nil_ownP {W : World} {base : Nat} (hb : base ≤ W.heap.size) : Kd.R k68 68 (W.alloc (.cells #[] 68)) base (fun _ => True) (.slice (some ⟨W.heap.size, 0, none⟩) 0 0) [] :=
  ⟨fun _ _ => trivial, [], World.ownsRow_lit W #[] 0 hb (by simp [maxLen]) rfl, ⟨by simp, by simp⟩⟩
set_option maxRecDepth 100000 in
set_option maxHeartbeats 4000000 in
theorem clone_call (A : Option Addr) (c : Nat) (l : List S) (w : World) (hl : Kd.C k68 w A l.length l) (hc : l.length ≤ c) (hs : l.length ≤ 1048576) :
    Calls Tryz.prog 112 #[.slice A l.length c] w fun e w' => ∃ v, e = .returned v ∧ Kd.R k68 68 w' w.heap.size (fun _ => True) v l ∧ Below w.heap.size w w' := by
  cases A with
  | none =>
    have h0 : l = [] := by
      rcases Nat.eq_zero_or_pos l.length with q | q
      · exact List.length_eq_zero_iff.mp q
      · obtain ⟨ad, c', hA, -⟩ := Kd.C_get hl ⟨0, 0⟩ 0 (by omega) (by omega)
        cases hA
    subst h0
    have hq := fun w => Lib.run_eql_slice_nil (P := Tryz.prog) w 22 68 none 0 c 0 0 Tryz.underlying22
    go_enter Tryz.func112, Tryz.ntmps112
    go_wp2
    go_ret
    exact ⟨_, rfl, Kd.R_nil _ _ _ _ _, Below.refl _ _⟩
  | some ad =>
    have hA := Tryz.underlying22
    have hq := fun w => Lib.run_eql_slice_nil (P := Tryz.prog) w 22 68 (some ad) l.length c 0 0 hA
    go_enter Tryz.func112, Tryz.ntmps112
    go_wp2_with (first
      | (refine Kd.R_append_rows k68 (w0 := w) w.heap.size (by rfl) (.tmp 5) (.tmp 6) 22 68 (.agg #[(.float .f64 0), (.float .f64 0)]) 16 rfl Tryz.underlying22 E.info68 rfl (by decide) (by omega) (.slice (some ⟨w.heap.size, 0, none⟩) 0 0) [] l _ _ _ (fun _ => True) (fun _ => False) rfl rfl ?aO ?aR (fun _ _ h => h) (fun _ h => h.elim) (fun _ _ => trivial) ?aB ?aS ?aL ?_
         (case aO => exact nil_ownP (Nat.le_refl _))
         (case aR => exact Kd.C_below hl (below_alloc (Below.refl _ _) _))
         (case aB => exact below_alloc (Below.refl _ _) _)
         (case aS => exact (below_alloc (Below.refl w.heap.size w) _).size)
         (case aL => simp only [List.length_nil]; omega)
         intro v1 w1 hR1 hB1 hg1 hat1; clear hg1 hat1; rw [List.nil_append] at hR1))
    go_ret
    exact ⟨_, rfl, hR1, hB1⟩
set_option maxRecDepth 100000 in
set_option maxHeartbeats 4000000 in
theorem new_call (A : Option Addr) (c : Nat) (l : List S) (w : World) (hl : Kd.C k68 w A l.length l) (hc : l.length ≤ c) (hw : Wd l) :
    Calls Tryz.prog 59 #[.slice A l.length c] w fun e w' => Below w.heap.size w w' ∧ (((allF l).2 ≠ 0 ∧ e = .returned (.tuple #[.pointer none, .int .i64 (allF l).2])) ∨ ((allF l).2 = 0 ∧ ∃ mb M, e = .returned (.tuple #[ptr mb, .int .i64 0]) ∧ MeshAt w' mb l [] [] M ∧ ∀ k, M k → w.heap.size ≤ k)) := by
  have ha := all_calls A c l w hl hc hw
  by_cases h0 : (allF l).2 = 0
  · obtain ⟨hg, hsz⟩ := allF_ok h0
    have hcl := fun w (hl : Kd.C k68 w A l.length l) => clone_call A c l w hl hc hsz
    rw [h0] at ha
    have HZ := Aside0.mk h0
    have HW := Aside0.mk (And.intro hg hsz)
    clear h0 hg hsz
    generalize (allF l).1 = a0 at *
    have hmm : ∀ t w, (Instr.makeMap t none).run Tryz.prog w = .ok (.map (some w.heap.size)) (w.alloc (.map #[] 0)) := fun _ _ => rfl
    go_enter Tryz.func59, Tryz.ntmps59
    go_wp2_with (first | (go_at_call 111; (with_reducible refine ha.mono ?_); rintro u_ w1 ⟨rfl, hb1⟩; have hC1 := Kd.C_below hl hb1) | (go_at_call 112; (with_reducible refine (hcl _ hC1).mono ?_); rintro u_ w2 ⟨v, rfl, hR2, hb2⟩; have hsl := Kd.R_slice hR2; obtain ⟨A2, c2, rfl⟩ := hsl))
    go_ret2
    have hB := hb1.trans (hb2.mono hb1.size)
    have hs1 := hb1.size
    have hs2 := hb2.size
    have b1 := blk_alloc (blk_alloc (blk_alloc (blk_new w2 (.map #[] 0)) (.map #[] 0)) (.map #[] 0)) (.cells #[.slice A2 l.length c2, .map (some w2.heap.size), .map (some (w2.heap.size + 1)), .int .i64 0, .map (some (w2.heap.size + 1 + 1))] 119)
    have b2 := blk_alloc (blk_alloc (blk_new (w2.alloc (.map #[] 0)) (.map #[] 0)) (.map #[] 0)) (.cells #[.slice A2 l.length c2, .map (some w2.heap.size), .map (some (w2.heap.size + 1)), .int .i64 0, .map (some (w2.heap.size + 1 + 1))] 119)
    have b3 := blk_alloc (blk_new ((w2.alloc (.map #[] 0)).alloc (.map #[] 0)) (.map #[] 0)) (.cells #[.slice A2 l.length c2, .map (some w2.heap.size), .map (some (w2.heap.size + 1)), .int .i64 0, .map (some (w2.heap.size + 1 + 1))] 119)
    have b4 := blk_new (((w2.alloc (.map #[] 0)).alloc (.map #[] 0)).alloc (.map #[] 0)) (.cells #[.slice A2 l.length c2, .map (some w2.heap.size), .map (some (w2.heap.size + 1)), .int .i64 0, .map (some (w2.heap.size + 1 + 1))] 119)
    have hB4 : Below w2.heap.size w2 ((((w2.alloc (.map #[] 0)).alloc (.map #[] 0)).alloc (.map #[] 0)).alloc (.cells #[.slice A2 l.length c2, .map (some w2.heap.size), .map (some (w2.heap.size + 1)), .int .i64 0, .map (some (w2.heap.size + 1 + 1))] 119)) := below_alloc (below_alloc (below_alloc (below_alloc (Below.refl _ _) _) _) _) _
    have hz : ((((w2.alloc (.map #[] 0)).alloc (.map #[] 0)).alloc (.map #[] 0)).alloc (.cells #[.slice A2 l.length c2, .map (some w2.heap.size), .map (some (w2.heap.size + 1)), .int .i64 0, .map (some (w2.heap.size + 1 + 1))] 119)).heap.size = w2.heap.size + 4 := by simp
    simp only [World.size_alloc] at b2 b3 b4
    refine ⟨hB.trans (hB4.mono hB.size), .inr ⟨HZ.out, w2.heap.size + 1 + 1 + 1, fun k => w.heap.size ≤ k ∧ k < w2.heap.size + 4, rfl, ⟨A2, c2, w2.heap.size, w2.heap.size + 1, w2.heap.size + 1 + 1, fun _ => none, fun _ => none, fun _ => none, ?_⟩, fun k hk => hk.1⟩⟩
    generalize ((((w2.alloc (.map #[] 0)).alloc (.map #[] 0)).alloc (.map #[] 0)).alloc (.cells #[.slice A2 l.length c2, .map (some w2.heap.size), .map (some (w2.heap.size + 1)), .int .i64 0, .map (some (w2.heap.size + 1 + 1))] 119)) = W4 at *
    exact {
      blk := b4
      pts := Kd.R_mono (Kd.R_lower (Kd.R_below (Kd.R_bound hR2) hB4) (Nat.zero_le _)) (fun k hk => ⟨by omega, by have := hk.2.2.1; omega⟩)
      apex := ⟨#[], 0, b1, stamped_empty 0, by simp, by simp⟩
      fixed := ⟨#[], 0, b3, stamped_empty 0, by simp, by simp⟩
      spokes := ⟨#[], 0, b2, stamped_empty 0, by simp, by simp⟩
      rows := fun x v hx => by cases hx
      ne := ⟨by omega, by omega, by omega⟩
      mine := ⟨⟨by omega, by omega⟩, ⟨by omega, by omega⟩, ⟨by omega, by omega⟩, ⟨by omega, by omega⟩⟩
      old := fun k hk => by omega
      apx := apx_none
      fxs := fxs_none
      mesh := mesh_none
      up2 := List.Pairwise.nil
      good := HW.out
      rng := fun t ht => by cases ht
      frng := fun t ht => by cases ht }
  · have d0 : ((allF l).2 != 0) = true := bne_iff_ne.mpr h0
    have HZ := Aside0.mk h0
    clear h0
    generalize (allF l).2 = e0 at *
    generalize (allF l).1 = a0 at *
    go_enter Tryz.func59, Tryz.ntmps59
    go_wp2_with ((go_at_call 111; (with_reducible refine ha.mono ?_); rintro u_ w1 ⟨rfl, hb1⟩))
    go_ret2
    exact ⟨hb1, .inl ⟨HZ.out, rfl⟩⟩
end Go.Proofs.YtjiolfpahollkaaGreatDoor.Msh
end
section
set_option linter.unusedVariables false
set_option linter.unusedSimpArgs false
namespace Go.Proofs.YtjiolfpahollkaaGreatDoor.Geo
abbrev Pt := Int × Int
def det (a b c : Pt) : Int := (b.1 - a.1) * (c.2 - a.2) - (b.2 - a.2) * (c.1 - a.1)
theorem det_self1 (a c : Pt) : det a a c = 0 := by simp only [det]; grind
theorem det_self2 (a b : Pt) : det a b a = 0 := by simp only [det]; grind
theorem det_self3 (a b : Pt) : det a b b = 0 := by simp only [det]; grind
end Go.Proofs.YtjiolfpahollkaaGreatDoor.Geo
namespace Go.Proofs.YtjiolfpahollkaaGreatDoor.Geo
end Go.Proofs.YtjiolfpahollkaaGreatDoor.Geo
namespace Go.Proofs.YtjiolfpahollkaaGreatDoor.Geo
end Go.Proofs.YtjiolfpahollkaaGreatDoor.Geo
namespace Go.Proofs.YtjiolfpahollkaaGreatDoor.Geo
end Go.Proofs.YtjiolfpahollkaaGreatDoor.Geo
namespace Go.Proofs.YtjiolfpahollkaaGreatDoor.Geo
end Go.Proofs.YtjiolfpahollkaaGreatDoor.Geo
namespace Go.Proofs.YtjiolfpahollkaaGreatDoor.Geo
end Go.Proofs.YtjiolfpahollkaaGreatDoor.Geo
namespace Go.Proofs.YtjiolfpahollkaaGreatDoor.Geo
end Go.Proofs.YtjiolfpahollkaaGreatDoor.Geo
namespace Go.Proofs.YtjiolfpahollkaaGreatDoor.Geo
end Go.Proofs.YtjiolfpahollkaaGreatDoor.Geo
namespace Go.Proofs.YtjiolfpahollkaaGreatDoor.Geo
end Go.Proofs.YtjiolfpahollkaaGreatDoor.Geo
end
section
set_option linter.unusedVariables false
set_option linter.unusedSimpArgs false
namespace Go.Proofs.YtjiolfpahollkaaGreatDoor.E
end Go.Proofs.YtjiolfpahollkaaGreatDoor.E
namespace Go.Proofs.YtjiolfpahollkaaGreatDoor.FltP
end Go.Proofs.YtjiolfpahollkaaGreatDoor.FltP
namespace Go.Proofs.YtjiolfpahollkaaGreatDoor.O
end Go.Proofs.YtjiolfpahollkaaGreatDoor.O
namespace Go.Proofs.YtjiolfpahollkaaGreatDoor.R
end Go.Proofs.YtjiolfpahollkaaGreatDoor.R
namespace Go.Proofs.YtjiolfpahollkaaGreatDoorW.PrintLast
end Go.Proofs.YtjiolfpahollkaaGreatDoorW.PrintLast
namespace Go.Proofs.YtjiolfpahollkaaGreatDoorW.PrintMore
end Go.Proofs.YtjiolfpahollkaaGreatDoorW.PrintMore
namespace Go.Proofs.YtjiolfpahollkaaGreatDoorW.PrintWords
end Go.Proofs.YtjiolfpahollkaaGreatDoorW.PrintWords
namespace Go.Proofs.YtjiolfpahollkaaGreatDoor.Adm
open Go.RowKit Go.Proofs.YtjiolfpahollkaaGreatDoor.FltP Go.Proofs.YtjiolfpahollkaaGreatDoor.R Go.Proofs.YtjiolfpahollkaaGreatDoor.E Go.Proofs.YtjiolfpahollkaaGreatDoor.O Go.Proofs.YtjiolfpahollkaaGreatDoorW.PrintWords Go.Proofs.YtjiolfpahollkaaGreatDoorW.PrintLast Go.Proofs.YtjiolfpahollkaaGreatDoorW.PrintMore
theorem gp_good {x : S} (h : gp x = true) : GoodF x.f0 ∧ GoodF x.f1 := by
  unfold gp at h
  rw [Bool.and_eq_true] at h
  exact ⟨of_decide_eq_true h.1, of_decide_eq_true h.2⟩
end Go.Proofs.YtjiolfpahollkaaGreatDoor.Adm
end
section
set_option linter.unusedVariables false
set_option linter.unusedSimpArgs false
namespace Go.Proofs.YtjiolfpahollkaaGreatDoor.E
end Go.Proofs.YtjiolfpahollkaaGreatDoor.E
namespace Go.Proofs.YtjiolfpahollkaaGreatDoor.FltP
end Go.Proofs.YtjiolfpahollkaaGreatDoor.FltP
namespace Go.Proofs.YtjiolfpahollkaaGreatDoor.O
end Go.Proofs.YtjiolfpahollkaaGreatDoor.O
namespace Go.Proofs.YtjiolfpahollkaaGreatDoor.R
end Go.Proofs.YtjiolfpahollkaaGreatDoor.R
namespace Go.Proofs.YtjiolfpahollkaaGreatDoorW.PrintLast
end Go.Proofs.YtjiolfpahollkaaGreatDoorW.PrintLast
namespace Go.Proofs.YtjiolfpahollkaaGreatDoorW.PrintMore
end Go.Proofs.YtjiolfpahollkaaGreatDoorW.PrintMore
namespace Go.Proofs.YtjiolfpahollkaaGreatDoorW.PrintWords
end Go.Proofs.YtjiolfpahollkaaGreatDoorW.PrintWords
namespace Go.Proofs.YtjiolfpahollkaaGreatDoor.Adm
open Go.RowKit Go.Proofs.YtjiolfpahollkaaGreatDoor.FltP Go.Proofs.YtjiolfpahollkaaGreatDoor.R Go.Proofs.YtjiolfpahollkaaGreatDoor.E Go.Proofs.YtjiolfpahollkaaGreatDoor.O Go.Proofs.YtjiolfpahollkaaGreatDoorW.PrintWords Go.Proofs.YtjiolfpahollkaaGreatDoorW.PrintLast Go.Proofs.YtjiolfpahollkaaGreatDoorW.PrintMore
theorem bcell {w w1 : World} {p : Addr} {v : Value} (hb : Below w.heap.size w w1) (h : w.cell? p = some v) : w1.cell? p = some v := (hb.cell (World.block_lt_of_cell? w _ h)).trans h
end Go.Proofs.YtjiolfpahollkaaGreatDoor.Adm
end
section
set_option linter.unusedVariables false
set_option linter.unusedSimpArgs false
namespace Go.Proofs.YtjiolfpahollkaaGreatDoor.E
end Go.Proofs.YtjiolfpahollkaaGreatDoor.E
namespace Go.Proofs.YtjiolfpahollkaaGreatDoor.FltP
end Go.Proofs.YtjiolfpahollkaaGreatDoor.FltP
namespace Go.Proofs.YtjiolfpahollkaaGreatDoor.O
end Go.Proofs.YtjiolfpahollkaaGreatDoor.O
namespace Go.Proofs.YtjiolfpahollkaaGreatDoor.R
end Go.Proofs.YtjiolfpahollkaaGreatDoor.R
namespace Go.Proofs.YtjiolfpahollkaaGreatDoorW.PrintLast
end Go.Proofs.YtjiolfpahollkaaGreatDoorW.PrintLast
namespace Go.Proofs.YtjiolfpahollkaaGreatDoorW.PrintMore
end Go.Proofs.YtjiolfpahollkaaGreatDoorW.PrintMore
namespace Go.Proofs.YtjiolfpahollkaaGreatDoorW.PrintWords
end Go.Proofs.YtjiolfpahollkaaGreatDoorW.PrintWords
namespace Go.Proofs.YtjiolfpahollkaaGreatDoor.Adm
open Go.RowKit Go.Proofs.YtjiolfpahollkaaGreatDoor.FltP Go.Proofs.YtjiolfpahollkaaGreatDoor.R Go.Proofs.YtjiolfpahollkaaGreatDoor.E Go.Proofs.YtjiolfpahollkaaGreatDoor.O Go.Proofs.YtjiolfpahollkaaGreatDoorW.PrintWords Go.Proofs.YtjiolfpahollkaaGreatDoorW.PrintLast Go.Proofs.YtjiolfpahollkaaGreatDoorW.PrintMore
set_option maxRecDepth 100000 in
set_option maxHeartbeats 1000000 in
def pt (x : S) : Geo.Pt := (fval x.f0, fval x.f1)
def sgnS (a b p : S) : Int := (Geo.det (pt a) (pt b) (pt p)).sign
theorem sign_any {a b p : S} (ga : gp a = true) (gb : gp b = true) (gq : gp p = true) (w : World) :
    Calls Tryz.prog 114 #[.agg #[.float .f64 a.f0, .float .f64 a.f1], .agg #[.float .f64 b.f0, .float .f64 b.f1], .agg #[.float .f64 p.f0, .float .f64 p.f1]] w fun e w' => e = .returned (.int .i64 (sgnS a b p)) ∧ Below w.heap.size w w' := by
  have h1 := gp_good ga
  have h2 := gp_good gb
  have h3 := gp_good gq
  obtain ⟨k, hk⟩ := (Exp.sign_ev h1.1 h1.2 h2.1 h2.2 h3.1 h3.2).rounds
  exact orient_Sign.calls k _ _ _ _ _ _ _ w hk
theorem three_boxes (w : World) (a b c : Array Value) (t : TypeId) (i : Nat) :
    (((w.alloc (.cells a t)).alloc (.cells b t)).alloc (.cells c t)).cell? ⟨w.heap.size, i, none⟩ = a[i]? ∧ (((w.alloc (.cells a t)).alloc (.cells b t)).alloc (.cells c t)).cell? ⟨w.heap.size + 1, i, none⟩ = b[i]? ∧ (((w.alloc (.cells a t)).alloc (.cells b t)).alloc (.cells c t)).cell? ⟨w.heap.size + 1 + 1, i, none⟩ = c[i]? := by
  have h1 := blk_new w (.cells a t)
  have h2 := blk_new (w.alloc (.cells a t)) (.cells b t)
  have h3 := blk_new ((w.alloc (.cells a t)).alloc (.cells b t)) (.cells c t)
  rw [show (w.alloc (.cells a t)).heap.size = w.heap.size + 1 from by simp] at h2
  rw [show ((w.alloc (.cells a t)).alloc (.cells b t)).heap.size = w.heap.size + 1 + 1 from by simp] at h3
  exact ⟨blk_cell (blk_alloc (blk_alloc h1 _) _) i, blk_cell (blk_alloc h2 _) i, blk_cell h3 i⟩
end Go.Proofs.YtjiolfpahollkaaGreatDoor.Adm
end
