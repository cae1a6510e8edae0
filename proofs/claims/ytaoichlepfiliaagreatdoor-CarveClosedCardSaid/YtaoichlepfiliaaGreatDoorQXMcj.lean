/- Lemmas of Mcj. Conditions stand in each. -/
import Derived.Test.YtaoichlepfiliaaGreatDoorQXAdm
import Derived.Lib.SliceRun
import Derived.RowKit
import Derived.Deep.QuietTactic
import Derived.Deep.LoopGhost
import Derived.RegionTactic
import Derived.Lib.Hide
import Derived.Sort.OwnSortedInts
import Derived.Lib.OwnBridge
import Derived.Test.YtaoichlepfiliaaGreatDoorProg
import Derived.Shelf.SlSortCmp.NoneTotal
import Derived.Test.YtaoichlepfiliaaGreatDoorQXFltR
import Derived.Deep.RegionHeld3
set_option linter.unusedSimpArgs false
set_option linter.unusedVariables false
section
namespace Go.Proofs.YtaoichlepfiliaaGreatDoor.Msh
open Go.RowKit Go.Sort Go.ChangeMaps Go.MapKept Go.Proofs.YtaoichlepfiliaaGreatDoor.Mp Go.Proofs.YtaoichlepfiliaaGreatDoor.Adm Go.Proofs.YtaoichlepfiliaaGreatDoor.R Go.Proofs.YtaoichlepfiliaaGreatDoor.E Go.Proofs.YtaoichlepfiliaaGreatDoorW.PrintWords Go.Proofs.YtaoichlepfiliaaGreatDoorW.PrintLast
def hasN (l : List S) (i : Int) : Bool := decide (0 ≤ i ∧ i < l.length)
def fixE (l : List S) (a b : Int) : Int := if !(hasN l a) || !(hasN l b) then 11 else if a = b then 1 else 0
def fixF (l : List S) (F : List Tr) (a b c : Int) : List Tr := if fixE l a b = 0 then put2 (min a b, max a b, c) (loose (min a b) (max a b) F) else F
theorem cell_held {w w5 : World} {p : Addr} {v : Value} {b : Nat} (h0 : w.cell? p = some v) (hb : p.block ≠ b) (h : Gr w w5) (o : Obj) : (setBlock w5 b o).cell? p = some v := by
 rw [← h.cell h0]
 exact World.cell?_of_block (other_block hb o)
theorem fr_of_gr {M : Nat → Prop} {w w' : World} (h : Gr w w') : Fr M w w' := Fr.of_below h.below
theorem fr_block {M : Nat → Prop} {w : World} {b : Nat} (o : Obj) (hb : M b) : Fr M w (setBlock w b o) := ⟨rfl, rfl, rfl, by simp [setBlock], fun k hk hn => other_block (fun e => hn (by rw [e]; exact hb)) o⟩
theorem fr_upd {M : Nat → Prop} {w w5 : World} {b : Nat} (o : Obj) (h : Gr w w5) (hb : M b) : Fr M w (setBlock w5 b o) := (fr_of_gr (M := M) h).trans (fr_block o hb) (fun _ _ q => q)
section
variable {w : World} {mb : Nat} {l : List S} {O F : List Tr} {M : Nat → Prop}
theorem fix_ok {w5 : World} {A : Option Addr} {c ab sb fb : Nat} {f g : Int × Int → Option Value} {s : Int → Option Value} (h : MeshIn w mb A c ab sb fb l O F f g s M) (hG : Gr w w5) {a b cm : Int} (ha : hasN l a = true) (hb : hasN l b = true) {ob : Obj}
 (hm : MapF encE okE (setBlock w5 fb ob) fb (upd g (min a b, max a b) (some (.int .i64 cm)))) : MeshAt (setBlock w5 fb ob) mb l O (put2 (min a b, max a b, cm) (loose (min a b) (max a b) F)) M := by
 have h5 := h.toRaw.move hG.below.size (fun k hk => hG.below.block k (h.old k hk))
 obtain ⟨u1, u2⟩ := fxs_fix h.up2 h.fxs (min a b) (max a b) cm
 unfold hasN at ha hb
 rw [decide_eq_true_iff] at ha hb
 refine ⟨A, c, ab, sb, fb, f, _, s, { toRaw := h5.fixed_set hm (fun k hk => other_block hk ob) (by simp [setBlock]), apx := h.apx, fxs := u2, mesh := h.mesh, up2 := u1, good := h.good, rng := h.rng, frng := fun t ht => ?_ }⟩
 rcases put2_mem.mp ht with q | q
 ·rw [q]; simp only; omega
 ·exact h.frng t (List.mem_filter.mp q).1
set_option maxRecDepth 100000 in
set_option maxHeartbeats 4000000 in
theorem fix_call (h : MeshAt w mb l O F M) {a b cm : Int} (ha : W64 a) (hb : W64 b) : Calls Tryz.prog 36 #[ptr mb, .int .i64 a, .int .i64 b, .int .i64 cm] w fun e w' => e = .returned (.int .i64 (fixE l a b)) ∧ MeshAt w' mb l O (fixF l F a b cm) M ∧ Fr M w w' := by
 have hh := fun W i (hG : Gr w W) => has_call (h.below hG.below) i
 obtain ⟨A, c, ab, sb, fb, f, g, s, h⟩ := h
 have hM := h.mine.2.2.2
 have h0 : w.cell? ⟨mb, 4, none⟩ = some (.map (some fb)) := by rw [blk_cell h.blk]; rfl
 have hown := fun W => own_call a b W
 have hk : okE (min a b, max a b) := ⟨by have := w64_iff.mp ha; have := w64_iff.mp hb; exact w64 (by omega) (by omega), by have := w64_iff.mp ha; have := w64_iff.mp hb; exact w64 (by omega) (by omega)⟩
 have e0 : ∀ i, decide (0 ≤ i ∧ i < (l.length : Int)) = hasN l i := fun _ => rfl
 simp only [e0] at hh
 by_cases h1 : hasN l a = true
 ·by_cases h2 : hasN l b = true
  ·by_cases h3 : a = b
   ·have e1 : fixE l a b = 1 := by unfold fixE; rw [h1, h2, if_neg (by decide), if_pos h3]
    have e2 : fixF l F a b cm = F := by unfold fixF; rw [e1, if_neg (by decide)]
    rw [e1, e2]
    have hAt : MeshAt w mb l O F M := ⟨A, c, ab, sb, fb, f, g, s, h⟩
    subst h3
    have d1 : (a == a) = true := by simp
    have ha1 := hh w a (Gr.refl w)
    rw [h1] at ha1
    clear hh h hown
    go_enter Tryz.func36, Tryz.ntmps36
    go_wp2_with (go_at_call 66; (with_reducible refine ha1.mono ?_); rintro u_ w5 ⟨rfl, rfl⟩)
    go_ret
    exact ⟨rfl, hAt, Fr.refl _ _⟩
   ·have e1 : fixE l a b = 0 := by unfold fixE; rw [h1, h2, if_neg (by decide), if_neg h3]
    have e2 : fixF l F a b cm = put2 (min a b, max a b, cm) (loose (min a b) (max a b) F) := by unfold fixF; rw [e1, if_pos rfl]
    rw [e1, e2]
    have d1 : (a == b) = false := beq_eq_false_iff_ne.mpr h3
    have ha1 := hh w a (Gr.refl w)
    have hb1 := hh w b (Gr.refl w)
    rw [h1] at ha1
    rw [h2] at hb1
    have HH := Aside0.mk h
    have HK := Aside0.mk hk
    have hne : mb ≠ fb := fun e => by
     obtain ⟨o, q1, q2⟩ := map_obj h.fixed
     rw [← e, h.blk] at q1
     injection q1 with q1
     exact q2 _ _ _ q1.symm
    have HN := Aside0.mk (show (⟨mb, 4, none⟩ : Addr).block ≠ fb from hne)
    clear hne
    clear hh h e1 e2 e0 h3 hk
    go_enter Tryz.func36, Tryz.ntmps36
    go_upto_region 7 with (first | (go_at_call 66; (with_reducible refine ha1.mono ?_); rintro u_ w5 ⟨rfl, rfl⟩) | (go_at_call 66; (with_reducible refine hb1.mono ?_); rintro u_ w5 ⟨rfl, rfl⟩))
    go_region_held3 (fun W' => W'.cell? ⟨mb, 4, none⟩ = some (.map (some fb)))
     (first | (with_reducible exact cell_held h0 HN.out hG5 _) | (with_reducible refine Gr.cell (a := w) ?_ h0; (repeat (first | assumption | exact Gr.refl _ | apply Gr.drew | apply Gr.alloc | apply Gr.drewN))))
     ((go_at_call 53; (with_reducible refine (hown _).mono ?_); rintro u_ w5 ⟨rfl, hg5⟩; have hG5 := Gr.trans (a := w) (by (with_reducible (repeat (first | assumption | exact Gr.refl _ | apply Gr.drew | apply Gr.alloc | apply Gr.drewN)))) hg5; clear hg5; have hU := (HH.out.fixed.below hG5.below).update kE Tryz.underlying87 HK.out (.int .i64 cm); obtain ⟨ob, hrun, hmf⟩ := hU; have HF := Aside0.mk hmf; clear hmf))
    all_goals
     go_wp2
     go_ret
     exact ⟨rfl, fix_ok HH.out hG5 h1 h2 HF.out, fr_upd ob hG5 hM⟩
  ·have h2' : hasN l b = false := by simpa using h2
   have e1 : fixE l a b = 11 := by unfold fixE; rw [h1, h2', if_pos (by decide)]
   have e2 : fixF l F a b cm = F := by unfold fixF; rw [e1, if_neg (by decide)]
   rw [e1, e2]
   have hAt : MeshAt w mb l O F M := ⟨A, c, ab, sb, fb, f, g, s, h⟩
   have ha1 := hh w a (Gr.refl w)
   have hb1 := hh w b (Gr.refl w)
   rw [h1] at ha1
   rw [h2'] at hb1
   clear hh h hown
   go_enter Tryz.func36, Tryz.ntmps36
   go_wp2_with (first | (go_at_call 66; (with_reducible refine ha1.mono ?_); rintro u_ w5 ⟨rfl, rfl⟩) | (go_at_call 66; (with_reducible refine hb1.mono ?_); rintro u_ w5 ⟨rfl, rfl⟩))
   go_ret
   exact ⟨rfl, hAt, Fr.refl _ _⟩
 ·have h1' : hasN l a = false := by simpa using h1
  have e1 : fixE l a b = 11 := by unfold fixE; rw [h1']; simp
  have e2 : fixF l F a b cm = F := by unfold fixF; rw [e1, if_neg (by decide)]
  rw [e1, e2]
  have hAt : MeshAt w mb l O F M := ⟨A, c, ab, sb, fb, f, g, s, h⟩
  have ha1 := hh w a (Gr.refl w)
  rw [h1'] at ha1
  clear hh h hown
  go_enter Tryz.func36, Tryz.ntmps36
  go_wp2_with ((go_at_call 66; (with_reducible refine ha1.mono ?_); rintro u_ w5 ⟨rfl, rfl⟩))
  go_ret
  exact ⟨rfl, hAt, Fr.refl _ _⟩
end
theorem idxF_none {α : Type} {p : α → Bool} : ∀ (xs : List α) (n : Nat), idxF p n xs < 0 → ∀ x ∈ xs, p x = false
 | [], _, _ => by simp
 | x :: xs, n, h => by
  unfold idxF at h
  split at h
  ·omega
  ·rename_i hp
   intro y hy
   rcases List.mem_cons.mp hy with e | e
   ·rw [e]; simpa using hp
   ·exact idxF_none xs (n + 1) h y e
theorem allF_ok {l : List S} (h : (allF l).2 = 0) : (∀ x ∈ l, gp x = true) ∧ l.length ≤ 1048576 := by
 unfold allF at h
 split at h
 ·simp at h
 ·rename_i h1
  split at h
  ·simp at h
  ·rename_i h2
   exact ⟨fun x hx => by have := idxF_none (p := fun x => !gp x) l 0 (by omega) x hx; simpa using this, by omega⟩
theorem nil_ownP {W : World} {base : Nat} (hb : base ≤ W.heap.size) : Kd.R k71 71 (W.alloc (.cells #[] 71)) base (fun _ => True) (.slice (some ⟨W.heap.size, 0, none⟩) 0 0) [] :=
 ⟨fun _ _ => trivial, [], World.ownsRow_lit W #[] 0 hb (by simp [maxLen]) rfl, ⟨by simp, by simp⟩⟩
set_option maxRecDepth 100000 in
set_option maxHeartbeats 4000000 in
theorem clone_call (A : Option Addr) (c : Nat) (l : List S) (w : World) (hl : Kd.C k71 w A l.length l) (hc : l.length ≤ c) (hs : l.length ≤ 1048576) :
 Calls Tryz.prog 64 #[.slice A l.length c] w fun e w' => ∃ v, e = .returned v ∧ Kd.R k71 71 w' w.heap.size (fun _ => True) v l ∧ Below w.heap.size w w' := by
 cases A with
 | none =>
  have h0 : l = [] := by
   rcases Nat.eq_zero_or_pos l.length with q | q
   ·exact List.length_eq_zero_iff.mp q
   ·obtain ⟨ad, c', hA, -⟩ := Kd.C_get hl ⟨0, 0⟩ 0 (by omega) (by omega)
    cases hA
  subst h0
  have hq := fun w => Lib.run_eql_slice_nil (P := Tryz.prog) w 22 71 none 0 c 0 0 Tryz.underlying22
  go_enter Tryz.func64, Tryz.ntmps64
  go_wp2
  go_ret
  exact ⟨_, rfl, Kd.R_nil _ _ _ _ _, Below.refl _ _⟩
 | some ad =>
  have hA := Tryz.underlying22
  have hq := fun w => Lib.run_eql_slice_nil (P := Tryz.prog) w 22 71 (some ad) l.length c 0 0 hA
  go_enter Tryz.func64, Tryz.ntmps64
  go_wp2_with (first
   | (refine Kd.R_append_rows k71 (w0 := w) w.heap.size (by rfl) (.tmp 5) (.tmp 6) 22 71 (.agg #[(.float .f64 0), (.float .f64 0)]) 16 rfl Tryz.underlying22 E.info71 rfl (by decide) (by omega) (.slice (some ⟨w.heap.size, 0, none⟩) 0 0) [] l _ _ _ (fun _ => True) (fun _ => False) rfl rfl ?aO ?aR (fun _ _ h => h) (fun _ h => h.elim) (fun _ _ => trivial) ?aB ?aS ?aL ?_
      (case aO => exact nil_ownP (Nat.le_refl _))
      (case aR => exact Kd.C_below hl (below_alloc (Below.refl _ _) _))
      (case aB => exact below_alloc (Below.refl _ _) _)
      (case aS => exact (below_alloc (Below.refl w.heap.size w) _).size)
      (case aL => simp only [List.length_nil]; omega)
      intro v1 w1 hR1 hB1 hg1 hat1; clear hg1 hat1; rw [List.nil_append] at hR1))
  go_ret
  exact ⟨_, rfl, hR1, hB1⟩
set_option maxRecDepth 100000 in
set_option maxHeartbeats 4000000 in
theorem new_call (A : Option Addr) (c : Nat) (l : List S) (w : World) (hl : Kd.C k71 w A l.length l) (hc : l.length ≤ c) (hw : Wd l) :
 Calls Tryz.prog 32 #[.slice A l.length c] w fun e w' => Below w.heap.size w w' ∧ (((allF l).2 ≠ 0 ∧ e = .returned (.tuple #[.pointer none, .int .i64 (allF l).2])) ∨ ((allF l).2 = 0 ∧ ∃ mb M, e = .returned (.tuple #[ptr mb, .int .i64 0]) ∧ MeshAt w' mb l [] [] M ∧ ∀ k, M k → w.heap.size ≤ k)) := by
 have ha := all_calls A c l w hl hc hw
 by_cases h0 : (allF l).2 = 0
 ·obtain ⟨hg, hsz⟩ := allF_ok h0
  have hcl := fun w (hl : Kd.C k71 w A l.length l) => clone_call A c l w hl hc hsz
  rw [h0] at ha
  have HZ := Aside0.mk h0
  have HW := Aside0.mk (And.intro hg hsz)
  clear h0 hg hsz
  generalize (allF l).1 = a0 at *
  have hmm : ∀ t w, (Instr.makeMap t none).run Tryz.prog w = .ok (.map (some w.heap.size)) (w.alloc (.map #[] 0)) := fun _ _ => rfl
  go_enter Tryz.func32, Tryz.ntmps32
  go_wp2_with (first | (go_at_call 63; (with_reducible refine ha.mono ?_); rintro u_ w1 ⟨rfl, hb1⟩; have hC1 := Kd.C_below hl hb1) | (go_at_call 64; (with_reducible refine (hcl _ hC1).mono ?_); rintro u_ w2 ⟨v, rfl, hR2, hb2⟩; have hsl := Kd.R_slice hR2; obtain ⟨A2, c2, rfl⟩ := hsl))
  go_ret2
  have hB := hb1.trans (hb2.mono hb1.size)
  have hs1 := hb1.size
  have hs2 := hb2.size
  have b1 := blk_alloc (blk_alloc (blk_alloc (blk_new w2 (.map #[] 0)) (.map #[] 0)) (.map #[] 0)) (.cells #[.slice A2 l.length c2, .map (some w2.heap.size), .map (some (w2.heap.size + 1)), .int .i64 0, .map (some (w2.heap.size + 1 + 1))] 90)
  have b2 := blk_alloc (blk_alloc (blk_new (w2.alloc (.map #[] 0)) (.map #[] 0)) (.map #[] 0)) (.cells #[.slice A2 l.length c2, .map (some w2.heap.size), .map (some (w2.heap.size + 1)), .int .i64 0, .map (some (w2.heap.size + 1 + 1))] 90)
  have b3 := blk_alloc (blk_new ((w2.alloc (.map #[] 0)).alloc (.map #[] 0)) (.map #[] 0)) (.cells #[.slice A2 l.length c2, .map (some w2.heap.size), .map (some (w2.heap.size + 1)), .int .i64 0, .map (some (w2.heap.size + 1 + 1))] 90)
  have b4 := blk_new (((w2.alloc (.map #[] 0)).alloc (.map #[] 0)).alloc (.map #[] 0)) (.cells #[.slice A2 l.length c2, .map (some w2.heap.size), .map (some (w2.heap.size + 1)), .int .i64 0, .map (some (w2.heap.size + 1 + 1))] 90)
  have hB4 : Below w2.heap.size w2 ((((w2.alloc (.map #[] 0)).alloc (.map #[] 0)).alloc (.map #[] 0)).alloc (.cells #[.slice A2 l.length c2, .map (some w2.heap.size), .map (some (w2.heap.size + 1)), .int .i64 0, .map (some (w2.heap.size + 1 + 1))] 90)) := below_alloc (below_alloc (below_alloc (below_alloc (Below.refl _ _) _) _) _) _
  have hz : ((((w2.alloc (.map #[] 0)).alloc (.map #[] 0)).alloc (.map #[] 0)).alloc (.cells #[.slice A2 l.length c2, .map (some w2.heap.size), .map (some (w2.heap.size + 1)), .int .i64 0, .map (some (w2.heap.size + 1 + 1))] 90)).heap.size = w2.heap.size + 4 := by simp
  simp only [World.size_alloc] at b2 b3 b4
  refine ⟨hB.trans (hB4.mono hB.size), .inr ⟨HZ.out, w2.heap.size + 1 + 1 + 1, fun k => w.heap.size ≤ k ∧ k < w2.heap.size + 4, rfl, ⟨A2, c2, w2.heap.size, w2.heap.size + 1, w2.heap.size + 1 + 1, fun _ => none, fun _ => none, fun _ => none, ?_⟩, fun k hk => hk.1⟩⟩
  generalize ((((w2.alloc (.map #[] 0)).alloc (.map #[] 0)).alloc (.map #[] 0)).alloc (.cells #[.slice A2 l.length c2, .map (some w2.heap.size), .map (some (w2.heap.size + 1)), .int .i64 0, .map (some (w2.heap.size + 1 + 1))] 90)) = W4 at *
  exact {
   blk := b4
   pts := Kd.R_mono (Kd.R_lower (Kd.R_below (Kd.R_bound hR2) hB4) (Nat.zero_le _)) (fun k hk => ⟨by omega, by have := hk.2.2.1; omega⟩)
   apex := ⟨#[], 0, b1, stamped_empty 0, by simp, by simp⟩
   fixed := ⟨#[], 0, b3, stamped_empty 0, by simp, by simp⟩
   spokes := ⟨#[], 0, b2, stamped_empty 0, by simp, by simp⟩
   rows := fun x v hx => by cases hx
   ne := ⟨by omega, by omega, by omega⟩
   mine := ⟨⟨by omega, by omega⟩, ⟨by omega, by omega⟩, ⟨by omega, by omega⟩, ⟨by omega, by omega⟩⟩
   old := fun k hk => by omega
   apx := apx_none
   fxs := fxs_none
   mesh := mesh_none
   up2 := List.Pairwise.nil
   good := HW.out
   rng := fun t ht => by cases ht
   frng := fun t ht => by cases ht }
 ·have d0 : ((allF l).2 != 0) = true := bne_iff_ne.mpr h0
  have HZ := Aside0.mk h0
  clear h0
  generalize (allF l).2 = e0 at *
  generalize (allF l).1 = a0 at *
  go_enter Tryz.func32, Tryz.ntmps32
  go_wp2_with ((go_at_call 63; (with_reducible refine ha.mono ?_); rintro u_ w1 ⟨rfl, hb1⟩))
  go_ret2
  exact ⟨hb1, .inl ⟨HZ.out, rfl⟩⟩
end Go.Proofs.YtaoichlepfiliaaGreatDoor.Msh
end
section
namespace Go.Proofs.YtaoichlepfiliaaGreatDoor.Geo
abbrev Pt := Int × Int
def det (a b c : Pt) : Int := (b.1 - a.1) * (c.2 - a.2) - (b.2 - a.2) * (c.1 - a.1)
theorem det_self1 (a c : Pt) : det a a c = 0 := by simp only [det]; grind
theorem det_self2 (a b : Pt) : det a b a = 0 := by simp only [det]; grind
theorem det_self3 (a b : Pt) : det a b b = 0 := by simp only [det]; grind
end Go.Proofs.YtaoichlepfiliaaGreatDoor.Geo
end
section
namespace Go.Proofs.YtaoichlepfiliaaGreatDoor.Adm
open Go.RowKit Go.Proofs.YtaoichlepfiliaaGreatDoor.FltP Go.Proofs.YtaoichlepfiliaaGreatDoor.R Go.Proofs.YtaoichlepfiliaaGreatDoor.E Go.Proofs.YtaoichlepfiliaaGreatDoor.O Go.Proofs.YtaoichlepfiliaaGreatDoorW.PrintWords Go.Proofs.YtaoichlepfiliaaGreatDoorW.PrintLast
theorem gp_good {x : S} (h : gp x = true) : GoodF x.f0 ∧ GoodF x.f1 := by
 unfold gp at h
 rw [Bool.and_eq_true] at h
 exact ⟨of_decide_eq_true h.1, of_decide_eq_true h.2⟩
theorem bcell {w w1 : World} {p : Addr} {v : Value} (hb : Below w.heap.size w w1) (h : w.cell? p = some v) : w1.cell? p = some v := (hb.cell (World.block_lt_of_cell? w _ h)).trans h
def pt (x : S) : Geo.Pt := (fval x.f0, fval x.f1)
def sgnS (a b p : S) : Int := (Geo.det (pt a) (pt b) (pt p)).sign
theorem sign_any {a b p : S} (ga : gp a = true) (gb : gp b = true) (gq : gp p = true) (w : World) :
 Calls Tryz.prog 67 #[.agg #[.float .f64 a.f0, .float .f64 a.f1], .agg #[.float .f64 b.f0, .float .f64 b.f1], .agg #[.float .f64 p.f0, .float .f64 p.f1]] w fun e w' => e = .returned (.int .i64 (sgnS a b p)) ∧ Below w.heap.size w w' := by
 have h1 := gp_good ga
 have h2 := gp_good gb
 have h3 := gp_good gq
 obtain ⟨k, hk⟩ := (Exp.sign_ev h1.1 h1.2 h2.1 h2.2 h3.1 h3.2).rounds
 exact orient_Sign.calls k _ _ _ _ _ _ _ w hk
theorem three_boxes (w : World) (a b c : Array Value) (t : TypeId) (i : Nat) :
 (((w.alloc (.cells a t)).alloc (.cells b t)).alloc (.cells c t)).cell? ⟨w.heap.size, i, none⟩ = a[i]? ∧ (((w.alloc (.cells a t)).alloc (.cells b t)).alloc (.cells c t)).cell? ⟨w.heap.size + 1, i, none⟩ = b[i]? ∧ (((w.alloc (.cells a t)).alloc (.cells b t)).alloc (.cells c t)).cell? ⟨w.heap.size + 1 + 1, i, none⟩ = c[i]? := by
 have h1 := blk_new w (.cells a t)
 have h2 := blk_new (w.alloc (.cells a t)) (.cells b t)
 have h3 := blk_new ((w.alloc (.cells a t)).alloc (.cells b t)) (.cells c t)
 rw [show (w.alloc (.cells a t)).heap.size = w.heap.size + 1 from by simp] at h2
 rw [show ((w.alloc (.cells a t)).alloc (.cells b t)).heap.size = w.heap.size + 1 + 1 from by simp] at h3
 exact ⟨blk_cell (blk_alloc (blk_alloc h1 _) _) i, blk_cell (blk_alloc h2 _) i, blk_cell h3 i⟩
end Go.Proofs.YtaoichlepfiliaaGreatDoor.Adm
end
section
namespace Go.Proofs.YtaoichlepfiliaaGreatDoor.Msh
open Go.RowKit Go.Sort Go.ChangeMaps Go.MapKept Go.Proofs.YtaoichlepfiliaaGreatDoor.Mp Go.Proofs.YtaoichlepfiliaaGreatDoor.Adm Go.Proofs.YtaoichlepfiliaaGreatDoor.R Go.Proofs.YtaoichlepfiliaaGreatDoor.E Go.Proofs.YtaoichlepfiliaaGreatDoorW.PrintWords Go.Proofs.YtaoichlepfiliaaGreatDoorW.PrintLast
def sgT (l : List S) (t : Tr) : Int := sgnS (ptO l t.1) (ptO l t.2.1) (ptO l t.2.2)
def makeE (l : List S) (O : List Tr) (t : Tr) : Int := if hasN l t.1 = false ∨ hasN l t.2.1 = false ∨ hasN l t.2.2 = false then 11 else if sgT l t ≤ 0 then 14 else if Free O t then 0 else 14
def makeO (l : List S) (O : List Tr) (t : Tr) : List Tr := if makeE l O t = 0 then put (own t) O else O
theorem ptO_in {l : List S} {i : Int} (h : hasN l i = true) : ptO l i = rd_T71 l i ∧ 0 ≤ i ∧ i < l.length ∧ ptO l i ∈ l := by
 unfold hasN at h
 rw [decide_eq_true_iff] at h
 unfold ptO
 rw [if_pos h]
 exact ⟨rfl, h.1, h.2, by have := rd_at (l := l) (n := i.toNat) (by omega); rwa [Int.toNat_of_nonneg h.1] at this⟩
section
variable {w : World} {mb : Nat} {l : List S} {O F : List Tr} {M : Nat → Prop} {a b c : Int}
def MakePost (w : World) (mb : Nat) (l : List S) (O F : List Tr) (M : Nat → Prop) (t : Tr) (e : Ending) (w' : World) : Prop :=
 e = .returned (.int .i64 (makeE l O t)) ∧ ∃ M', MeshAt w' mb l (makeO l O t) F M' ∧ Fr M w w' ∧ (∀ k, M k → M' k) ∧ ∀ k, M' k → M k ∨ w.heap.size ≤ k
theorem make_no {w' : World} {t : Tr} {e : Int} (h : MeshAt w mb l O F M) (he : makeE l O t = e) (h0 : e ≠ 0) (hb : Below w.heap.size w w') : MakePost w mb l O F M t (.returned (.int .i64 e)) w' := by
 subst he
 refine ⟨rfl, M, ?_, Fr.of_below hb, fun _ h => h, fun _ h => .inl h⟩
 unfold makeO
 rw [if_neg h0]
 exact h.below hb
set_option maxRecDepth 100000 in
set_option maxHeartbeats 4000000 in
theorem make_range (h : MeshAt w mb l O F M) (hr : hasN l a = false ∨ hasN l b = false ∨ hasN l c = false) : Calls Tryz.prog 34 #[ptr mb, .int .i64 a, .int .i64 b, .int .i64 c] w (MakePost w mb l O F M (a, b, c)) := by
 have e1 : makeE l O (a, b, c) = 11 := by unfold makeE; rw [if_pos hr]
 have HH := Aside0.mk (And.intro h e1)
 have ha := has_call h a
 have hb := has_call h b
 have hc := has_call h c
 have e0 : ∀ i, decide (0 ≤ i ∧ i < (l.length : Int)) = hasN l i := fun _ => rfl
 rw [e0] at ha hb hc
 clear h e1 e0
 cases q1 : hasN l a with
 | false =>
  rw [q1] at ha
  clear hr q1
  go_enter Tryz.func34, Tryz.ntmps34
  go_wp2_with (go_at_call 66; (with_reducible refine ha.mono ?_); rintro u_ w5 ⟨rfl, rfl⟩)
  go_ret
  exact make_no HH.out.1 HH.out.2 (by decide) (Below.refl _ _)
 | true =>
  rw [q1] at ha hr
  cases q2 : hasN l b with
  | false =>
   rw [q2] at hb
   clear hr q1 q2
   go_enter Tryz.func34, Tryz.ntmps34
   go_wp2_with (first | (go_at_call 66; (with_reducible refine ha.mono ?_); rintro u_ w5 ⟨rfl, rfl⟩) | (go_at_call 66; (with_reducible refine hb.mono ?_); rintro u_ w5 ⟨rfl, rfl⟩))
   go_ret
   exact make_no HH.out.1 HH.out.2 (by decide) (Below.refl _ _)
  | true =>
   rw [q2] at hb hr
   have q3 : hasN l c = false := by simpa using hr
   rw [q3] at hc
   clear hr q1 q2 q3
   go_enter Tryz.func34, Tryz.ntmps34
   go_wp2_with (first | (go_at_call 66; (with_reducible refine ha.mono ?_); rintro u_ w5 ⟨rfl, rfl⟩) | (go_at_call 66; (with_reducible refine hb.mono ?_); rintro u_ w5 ⟨rfl, rfl⟩) | (go_at_call 66; (with_reducible refine hc.mono ?_); rintro u_ w5 ⟨rfl, rfl⟩))
   go_ret
   exact make_no HH.out.1 HH.out.2 (by decide) (Below.refl _ _)
theorem heldB {w W : World} {L : World → Prop} (hL : Aside0 (∀ W, Below w.heap.size w W → L W)) (h : Below w.heap.size w W) : L W := hL.out W h
set_option maxRecDepth 100000 in
set_option maxHeartbeats 4000000 in
theorem make_flat (h : MeshAt w mb l O F M) (ha : hasN l a = true) (hb : hasN l b = true) (hc : hasN l c = true) (hs : sgT l (a, b, c) ≤ 0) : Calls Tryz.prog 34 #[ptr mb, .int .i64 a, .int .i64 b, .int .i64 c] w (MakePost w mb l O F M (a, b, c)) := by
 have e1 : makeE l O (a, b, c) = 14 := by
  unfold makeE
  rw [if_neg (by simp [ha, hb, hc]), if_pos hs]
 have HH := Aside0.mk (And.intro h e1)
 have ca := has_call h a
 have cb := has_call h b
 have cc := has_call h c
 have e0 : ∀ i, decide (0 ≤ i ∧ i < (l.length : Int)) = hasN l i := fun _ => rfl
 rw [e0] at ca cb cc
 rw [ha] at ca
 rw [hb] at cb
 rw [hc] at cc
 obtain ⟨pa, a0, a1, ma⟩ := ptO_in ha
 obtain ⟨pb, b0, b1, mb'⟩ := ptO_in hb
 obtain ⟨pc, c0, c1, mc⟩ := ptO_in hc
 obtain ⟨A, cap, z0, hcap, hC⟩ := h.cell0
 have hgp : ∀ x ∈ l, gp x = true := by obtain ⟨_, _, _, _, _, _, _, _, q⟩ := h; exact q.good.1
 obtain ⟨ad, rfl, xa0, xa1⟩ := at_T71 hC a a0 a1
 obtain ⟨ad2, e2, xb0, xb1⟩ := at_T71 hC b b0 b1
 injection e2 with e2
 subst e2
 obtain ⟨ad3, e3, xc0, xc1⟩ := at_T71 hC c c0 c1
 injection e3 with e3
 subst e3
 have hsg := fun W => sign_any (hgp _ ma) (hgp _ mb') (hgp _ mc) W
 unfold sgT at hs
 simp only at hs
 rw [pa, pb, pc] at hsg hs
 generalize sgnS (rd_T71 l a) (rd_T71 l b) (rd_T71 l c) = sg at *
 have d0 : decide (sg ≤ 0) = true := decide_eq_true hs
 have da : decide (a < (l.length : Int)) = true := decide_eq_true a1
 have db : decide (b < (l.length : Int)) = true := decide_eq_true b1
 have dc : decide (c < (l.length : Int)) = true := decide_eq_true c1
 have hL : Aside0 (∀ W, Below w.heap.size w W → W.cell? ⟨mb, 0, none⟩ = some (.slice (some ad) l.length cap) ∧ W.cell? (ad.add (a.toNat * 2)) = some (.float .f64 (rd_T71 l a).f0) ∧ W.cell? ⟨(ad.add (a.toNat * 2)).block, (ad.add (a.toNat * 2)).off + 1, none⟩ = some (.float .f64 (rd_T71 l a).f1) ∧ W.cell? (ad.add (b.toNat * 2)) = some (.float .f64 (rd_T71 l b).f0) ∧ W.cell? ⟨(ad.add (b.toNat * 2)).block, (ad.add (b.toNat * 2)).off + 1, none⟩ = some (.float .f64 (rd_T71 l b).f1) ∧ W.cell? (ad.add (c.toNat * 2)) = some (.float .f64 (rd_T71 l c).f0) ∧ W.cell? ⟨(ad.add (c.toNat * 2)).block, (ad.add (c.toNat * 2)).off + 1, none⟩ = some (.float .f64 (rd_T71 l c).f1)) :=
  ⟨fun W hb => ⟨bcell hb z0, bcell hb xa0, bcell hb xa1, bcell hb xb0, bcell hb xb1, bcell hb xc0, bcell hb xc1⟩⟩
 clear h e1 e0 ha hb hc hs xa0 xa1 xb0 xb1 xc0 xc1 pa pb pc ma mb' mc hgp hC
 go_enter Tryz.func34, Tryz.ntmps34
 go_upto_region 5 with (first | (go_at_call 66; (with_reducible refine ca.mono ?_); rintro u_ w5 ⟨rfl, rfl⟩) | (go_at_call 66; (with_reducible refine cb.mono ?_); rintro u_ w5 ⟨rfl, rfl⟩) | (go_at_call 66; (with_reducible refine cc.mono ?_); rintro u_ w5 ⟨rfl, rfl⟩))
 go_region_held3 (fun W => W.cell? ⟨mb, 0, none⟩ = some (.slice (some ad) l.length cap) ∧ W.cell? (ad.add (a.toNat * 2)) = some (.float .f64 (rd_T71 l a).f0) ∧ W.cell? ⟨(ad.add (a.toNat * 2)).block, (ad.add (a.toNat * 2)).off + 1, none⟩ = some (.float .f64 (rd_T71 l a).f1) ∧ W.cell? (ad.add (b.toNat * 2)) = some (.float .f64 (rd_T71 l b).f0) ∧ W.cell? ⟨(ad.add (b.toNat * 2)).block, (ad.add (b.toNat * 2)).off + 1, none⟩ = some (.float .f64 (rd_T71 l b).f1) ∧ W.cell? (ad.add (c.toNat * 2)) = some (.float .f64 (rd_T71 l c).f0) ∧ W.cell? ⟨(ad.add (c.toNat * 2)).block, (ad.add (c.toNat * 2)).off + 1, none⟩ = some (.float .f64 (rd_T71 l c).f1))
  ((with_reducible refine heldB hL ?_; (repeat (first | assumption | exact Below.refl _ _ | apply below_drew1 | apply below_alloc | apply pw_below_drewN))))
  ((go_at_call 67; (with_reducible refine (hsg _).mono ?_); rintro u_ w5 ⟨rfl, hb5⟩; have hB5 := below_step (w := w) (by (with_reducible (repeat (first | assumption | exact Below.refl _ _ | apply below_drew1 | apply below_alloc | apply pw_below_drewN)))) hb5; clear hb5))
 all_goals
  go_wp2
  go_ret
  exact make_no HH.out.1 HH.out.2 (by decide) hB5
end
end Go.Proofs.YtaoichlepfiliaaGreatDoor.Msh
end
