/- What the proof needs of Ord, Orw: only what is used is left (wip/tools/prune.py). Conditions stand in each sentence. -/
import Derived.Sort.OwnSortedInts
import Derived.Lib.OwnBridge
import Derived.RegionTactic
import Derived.Lib.Hide
import Derived.Test.YtioahkblhekgpaaGreatDoorQKHld
import Derived.Test.YtioahkblhekgpaaGreatDoorQKSrt
import Derived.Test.YtioahkblhekgpaaGreatDoorQKGeo
set_option linter.unusedVariables false
set_option linter.unusedSimpArgs false
namespace Go.Proofs.YtioahkblhekgpaaGreatDoor.E
end Go.Proofs.YtioahkblhekgpaaGreatDoor.E
namespace Go.Proofs.YtioahkblhekgpaaGreatDoor.FltP
end Go.Proofs.YtioahkblhekgpaaGreatDoor.FltP
namespace Go.Proofs.YtioahkblhekgpaaGreatDoor.O
end Go.Proofs.YtioahkblhekgpaaGreatDoor.O
namespace Go.Proofs.YtioahkblhekgpaaGreatDoor.R
end Go.Proofs.YtioahkblhekgpaaGreatDoor.R
namespace Go.Proofs.YtioahkblhekgpaaGreatDoorW.PrintLast
end Go.Proofs.YtioahkblhekgpaaGreatDoorW.PrintLast
namespace Go.Proofs.YtioahkblhekgpaaGreatDoorW.PrintMore
end Go.Proofs.YtioahkblhekgpaaGreatDoorW.PrintMore
namespace Go.Proofs.YtioahkblhekgpaaGreatDoorW.PrintWords
end Go.Proofs.YtioahkblhekgpaaGreatDoorW.PrintWords
namespace Go.Proofs.YtioahkblhekgpaaGreatDoor.Adm
open Go.RowKit Go.Sort Go.Proofs.YtioahkblhekgpaaGreatDoor.FltP Go.Proofs.YtioahkblhekgpaaGreatDoor.R Go.Proofs.YtioahkblhekgpaaGreatDoor.E Go.Proofs.YtioahkblhekgpaaGreatDoor.O Go.Proofs.YtioahkblhekgpaaGreatDoorW.PrintWords Go.Proofs.YtioahkblhekgpaaGreatDoorW.PrintLast Go.Proofs.YtioahkblhekgpaaGreatDoorW.PrintMore
def Fin2 (l : List S) : Prop := ∀ x ∈ l, Fini x.f0 ∧ Fini x.f1
def holdAt (l : List S) (a b : Nat) : Int := hold (rd_T32 l (a : Int)).f0 (rd_T32 l (a : Int)).f1 (rd_T32 l (b : Int)).f0 (rd_T32 l (b : Int)).f1
def cfN (l : List S) (a b : Nat) : Int := if holdAt l a b = 0 then (a : Int) - b else holdAt l a b
def Rd (w0 w : World) (B : Nat) (v : Value) (p q : Addr) (x y : S) : Prop := Gr w0 w ∧ w.cell? ⟨B, 0, none⟩ = some v ∧ w.cell? p = some (.float .f64 x.f0) ∧ w.cell? ⟨p.block, p.off + 1, none⟩ = some (.float .f64 x.f1) ∧ w.cell? q = some (.float .f64 y.f0) ∧ w.cell? ⟨q.block, q.off + 1, none⟩ = some (.float .f64 y.f1)
theorem Rd.next {w0 w w' : World} {B : Nat} {v : Value} {p q : Addr} {x y : S} (hg : Gr w w') (h : Rd w0 w B v p q x y) : Rd w0 w' B v p q x y := ⟨h.1.trans hg, hg.cell h.2.1, hg.cell h.2.2.1, hg.cell h.2.2.2.1, hg.cell h.2.2.2.2.1, hg.cell h.2.2.2.2.2⟩
set_option maxRecDepth 100000 in
set_option maxHeartbeats 1000000 in
theorem order_closure (A : Option Addr) (c : Nat) (l : List S) (B a b : Nat) (ha : a < l.length) (hb : b < l.length) (hf : Fin2 l) (W : World) (hbox : W.cell? ⟨B, 0, none⟩ = some (.slice A l.length c)) (hl : Kd.C k32 W A l.length l) :
 Calls Tryz.prog 47 #[.int .i64 a, .int .i64 b, .pointer (some ⟨B, 0, none⟩)] W fun e w' => e = .returned (.int .i64 (cfN l a b)) ∧ Gr W w' := by
 have hu32 := Tryz.underlying32
 have hm := hl.2.1
 have fa := hf _ (rd_at ha)
 have fb := hf _ (rd_at hb)
 have hh := hold_ev fa.1 fa.2 fb.1 fb.2
 obtain ⟨K1, k1⟩ := hh
 have hcf : cfN l a b = if holdAt l a b = 0 then (a : Int) - b else holdAt l a b := rfl
 obtain ⟨K2, k2⟩ := or_ev (holdAt l a b) ((a : Int) - b)
 rw [hcf]
 have h1 : admit_hold.f (K1 + K2) (rd_T32 l (a : Int)).f0 (rd_T32 l (a : Int)).f1 (rd_T32 l (b : Int)).f0 (rd_T32 l (b : Int)).f1 = some (holdAt l a b) := k1 _ (Nat.le_add_right _ _)
 have h2 : cmp_Or_int.f (K1 + K2) [holdAt l a b, (a : Int) - b] = _ := k2 _ (Nat.le_add_left _ _)
 clear hcf k1 k2
 generalize (if holdAt l a b = 0 then (a : Int) - b else holdAt l a b) = r at h2 ⊢
 generalize holdAt l a b = t1 at h1 h2
 have d1 : decide (a < l.length) = true := by simp; omega
 have d2 : decide (b < l.length) = true := by simp; omega
 have d1' : decide ((a : Int) < (l.length : Int)) = true := by simp; omega
 have d2' : decide ((b : Int) < (l.length : Int)) = true := by simp; omega
 have e1 : decide ((0 : Int) ≤ a) = true := by simp
 have e2 : decide ((0 : Int) ≤ b) = true := by simp
 have hs : IntKind.i64.wrap ((a : Int) - b) = (a : Int) - b := by clear h2; simp only [IntKind.wrap]; simp [IntKind.signed, IntKind.bits]; omega
 rw [← hs] at h2
 clear hs
 obtain ⟨ad, rfl, hx0, hx1⟩ := at_T32 hl a (by omega) (by omega)
 obtain ⟨bd, hbd, hy0, hy1⟩ := at_T32 hl b (by omega) (by omega)
 injection hbd with hbd
 subst hbd
 rw [Int.toNat_natCast] at hx0 hx1 hy0 hy1
 generalize rd_T32 l (a : Int) = x at *
 generalize rd_T32 l (b : Int) = y at *
 go_enter Tryz.func47, Tryz.ntmps47
 go_wp2
 have hS : Rd W W B (.slice (some ad) l.length c) (ad.add (a * 2)) (ad.add (b * 2)) x y := ⟨Gr.refl _, hbox, hx0, hx1, hy0, hy1⟩
 go_region_held (fun w' => Gr W w' ∧ w'.cell? ⟨B, 0, none⟩ = some (.slice (some ad) l.length c) ∧ w'.cell? (ad.add (a * 2)) = some (.float .f64 x.f0) ∧ w'.cell? ⟨(ad.add (a * 2)).block, (ad.add (a * 2)).off + 1, none⟩ = some (.float .f64 x.f1) ∧ w'.cell? (ad.add (b * 2)) = some (.float .f64 y.f0) ∧ w'.cell? ⟨(ad.add (b * 2)).block, (ad.add (b * 2)).off + 1, none⟩ = some (.float .f64 y.f1))
  (first | exact hS | exact hS.next (Gr.drew (Gr.refl _)) | exact Rd.next (by assumption) (by assumption) | exact Rd.next (Gr.of0 (by assumption)) (by assumption) | exact Rd.next ((Gr.refl _).alloc _) (by assumption))
  (first | (go_at_call 49; (with_reducible refine (hold_grow _ _ _ _ _ _ _ h1).mono ?_); rintro u w2 ⟨rfl, hd2⟩) | (go_at_call 48; refine (or_two h2 _ rfl).mono ?_; rintro u w4 ⟨rfl, hd4⟩))
 go_wp2
 go_ret
 exact ⟨rfl, (Gr.refl _).drew.trans (hd2.trans (((Gr.refl _).alloc _).trans (Gr.of0 hd4)))⟩
theorem sw_below {α : Type} [Inhabited α] {enc : α → Value} {wr : World} {B g n : Nat} {d : Array α} {os : Array Obj} (h : B ≤ g) (hB : B ≤ wr.heap.size) : Below B wr (grow (putRow enc (Sort.ahead wr n) g 0 d) os) := by
 refine ⟨rfl, rfl, rfl, by simp, fun k hk => ?_⟩
 rw [heap_grow_old _ _ (by simp; omega)]
 have : g ≠ k := by omega
 simp [putRow, mapBlock, Sort.ahead, Array.getElem?_modify, this]
theorem putCells_fin {m : Nat} [Inhabited (Fin m)] (d : Array (Fin m)) (c : Array Value) : putCells (fun x : Fin m => Value.int .i64 (x.val : Int)) 0 d c = putCells (Value.int .i64) 0 (d.map fun x => (x.val : Int)) c := by
 unfold putCells
 apply Array.ext_getElem?
 intro i
 simp only [Array.getElem?_mapIdx, Array.size_map]
 cases c[i]? with
 | none => rfl
 | some v =>
  simp only [Option.map_some, Nat.zero_le, true_and, Nat.zero_add, Nat.sub_zero]
  by_cases h : i < d.size
  ·rw [if_pos h, if_pos h, getElem!_pos d i h, getElem!_pos (d.map fun x => (x.val : Int)) i (by simpa using h), Array.getElem_map]
  ·rw [if_neg h, if_neg h]
def ordF (l : List S) : List (Fin l.length) := (List.finRange l.length).mergeSort fun x y => !(ltOf fun a b : Fin l.length => cfN l a.val b.val) y x
def orderL (l : List S) : List Int := (ordF l).map fun x => (x.val : Int)
def orderN (l : List S) : List Nat := (ordF l).map fun x => x.val
theorem orderL_N (l : List S) : orderL l = (orderN l).map fun (n : Nat) => (n : Int) := by unfold orderL orderN; rw [List.map_map]; rfl
def PT (l : List S) (i : Nat) : Geo.Pt := (fval (rd_T32 l (i : Int)).f0, fval (rd_T32 l (i : Int)).f1)
theorem sgn3_lt {a b : Int} : (sgn3 a b < 0 ↔ a < b) ∧ (sgn3 a b = 0 ↔ a = b) ∧ (0 < sgn3 a b ↔ b < a) := by unfold sgn3; split <;> (try split) <;> omega
theorem holdAt_iff (l : List S) (a b : Nat) : (holdAt l a b < 0 ↔ Geo.Ahead (PT l a) (PT l b)) ∧ (holdAt l a b = 0 ↔ PT l a = PT l b) := by
 unfold holdAt hold PT Geo.Ahead Geo.Pos Geo.sub
 generalize fval (rd_T32 l (a : Int)).f0 = x
 generalize fval (rd_T32 l (a : Int)).f1 = y
 generalize fval (rd_T32 l (b : Int)).f0 = x'
 generalize fval (rd_T32 l (b : Int)).f1 = y'
 have h1 := sgn3_lt (a := x) (b := x')
 have h2 := sgn3_lt (a := y) (b := y')
 simp only [Prod.mk.injEq]
 split <;> omega
theorem cfN_lt (l : List S) (a b : Nat) : cfN l a b < 0 ↔ Geo.Lt (PT l) a b := by
 obtain ⟨h1, h2⟩ := holdAt_iff l a b
 unfold cfN Geo.Lt
 by_cases h : holdAt l a b = 0
 ·rw [if_pos h]
  have := h2.mp h
  constructor
  ·exact fun hlt => .inr ⟨this, by omega⟩
  ·rintro (k | k)
   ·rw [this] at k; exact absurd k (Geo.Ahead.irrefl _)
   ·omega
 ·rw [if_neg h]
  constructor
  ·exact fun k => .inl (h1.mp k)
  ·rintro (k | k)
   ·exact h1.mpr k
   ·exact absurd (h2.mpr k.1) h
theorem lt_dec (l : List S) (a b : Fin l.length) : (ltOf fun a b : Fin l.length => cfN l a.val b.val) a b = decide (Geo.Lt (PT l) a.val b.val) := by
 unfold ltOf
 exact decide_eq_decide.mpr (cfN_lt l a.val b.val)
theorem swo (l : List S) : SWO (ltOf fun a b : Fin l.length => cfN l a.val b.val) where
 irrefl x := by rw [lt_dec]; exact decide_eq_false (Geo.Lt.irrefl _)
 trans x y z h1 h2 := by
  rw [lt_dec] at *
  exact decide_eq_true (Geo.Lt.trans (of_decide_eq_true h1) (of_decide_eq_true h2))
 ntrans x y z h1 h2 := by
  rw [lt_dec] at *
  have n1 := of_decide_eq_false h1
  have n2 := of_decide_eq_false h2
  refine decide_eq_false fun h => ?_
  rcases Geo.lt_total (P := PT l) x.val y.val with k | k | k
  ·exact n1 k
  ·rw [k] at h; exact n2 h
  ·rcases Geo.lt_total (P := PT l) y.val z.val with j | j | j
   ·exact n2 j
   ·rw [← j] at h; exact n1 h
   ·exact Geo.Lt.irrefl _ (h.trans (j.trans k))
theorem swo_tot (l : List S) (x y : Fin l.length) (h1 : (ltOf fun a b : Fin l.length => cfN l a.val b.val) x y = false) (h2 : (ltOf fun a b : Fin l.length => cfN l a.val b.val) y x = false) : x = y := by
 rw [lt_dec] at h1 h2
 have n1 := of_decide_eq_false h1
 have n2 := of_decide_eq_false h2
 rcases Geo.lt_total (P := PT l) x.val y.val with k | k | k
 ·exact absurd k n1
 ·exact Fin.ext k
 ·exact absurd k n2
theorem orderN_sorted (l : List S) : Geo.Sorted (PT l) l.length (orderN l) := by
 have hp : (ordF l).Perm (List.finRange l.length) := List.mergeSort_perm _ _
 have hs : (ordF l).Pairwise (fun a b => (!(ltOf fun a b : Fin l.length => cfN l a.val b.val) b a) = true) := by
  refine List.pairwise_mergeSort (fun a b c h1 h2 => ?_) (fun a b => ?_) _
  ·simp only [Bool.not_eq_true'] at *
   exact (swo l).ntrans _ _ _ h2 h1
  ·simp only [Bool.or_eq_true, Bool.not_eq_true']
   cases h : (ltOf fun a b : Fin l.length => cfN l a.val b.val) b a
   ·exact .inl rfl
   ·right
    rw [lt_dec] at h ⊢
    exact decide_eq_false fun k => Geo.Lt.irrefl _ (k.trans (of_decide_eq_true h))
 have hn : (ordF l).Nodup := hp.symm.nodup (List.nodup_finRange _)
 constructor
 ·unfold orderN
  refine List.Pairwise.map _ (fun a b h => ?_) (List.Pairwise.and hs hn)
  obtain ⟨h1, h2⟩ := h
  simp only [Bool.not_eq_true'] at h1
  rw [lt_dec] at h1
  rcases Geo.lt_total (P := PT l) a.val b.val with k | k | k
  ·exact k
  ·exact absurd (Fin.ext k) h2
  ·exact absurd k (of_decide_eq_false h1)
 ·intro x
  unfold orderN
  constructor
  ·intro h
   obtain ⟨y, _, rfl⟩ := List.mem_map.mp h
   exact y.isLt
  ·intro h
   exact List.mem_map.mpr ⟨⟨x, h⟩, hp.mem_iff.mpr (List.mem_finRange _), rfl⟩
end Go.Proofs.YtioahkblhekgpaaGreatDoor.Adm
namespace Go.Proofs.YtioahkblhekgpaaGreatDoor.Adm
open Go.Sort (grow putRow)
open Go.RowKit Go.Proofs.YtioahkblhekgpaaGreatDoor.FltP Go.Proofs.YtioahkblhekgpaaGreatDoor.R Go.Proofs.YtioahkblhekgpaaGreatDoor.E Go.Proofs.YtioahkblhekgpaaGreatDoor.O Go.Proofs.YtioahkblhekgpaaGreatDoorW.PrintWords Go.Proofs.YtioahkblhekgpaaGreatDoorW.PrintLast Go.Proofs.YtioahkblhekgpaaGreatDoorW.PrintMore
theorem infoI : (Tryz.prog.info? 3).map (fun i => (i.zero, i.size, i.bytes)) = some (some (.int .i64 0), 1, 8) := by kernel_rfl
theorem fill_step {n k : Nat} {xs : List Int} (hl : xs.length = n) (hk : k < n) (h : ∀ j : Nat, j < k → rd xs (j : Int) = (j : Int)) : ∀ j : Nat, j < k + 1 → rd (xs.set k (k : Int)) (j : Int) = (j : Int) := by
 intro j hj
 by_cases e : j = k
 ·subst e; simp [rd, List.getD_eq_getElem?_getD, hl, hk]
 ·have := h j (by omega)
  simp [rd, List.getD_eq_getElem?_getD] at this ⊢
  rw [List.getElem?_set_ne (by omega)]; exact this
theorem opened {W : World} {B m : Nat} {v : Value} (h : Kd.R (Kd.int .i64) 3 W B (fun _ => True) v (List.replicate (m : Int).toNat (0 : Int))) (hm : 1 ≤ m) :
 ∃ (g cap : Nat) (xs : List Int), xs.length = m ∧ v = .slice (some ⟨g, 0, none⟩) m cap ∧ Kd.R (Kd.int .i64) 3 W B (fun _ => True) (.slice (some ⟨g, 0, none⟩) m cap) xs ∧ B ≤ g ∧ g < W.heap.size ∧ True := by
 obtain ⟨g, cap, rfl, h1, h2, _⟩ := Kd.R_form h (by simp; omega)
 have e : (List.replicate (m : Int).toNat (0 : Int)).length = m := by simp
 rw [e] at h
 exact ⟨g, cap, _, e, by rw [e], h, h1, h2, trivial⟩
structure FillAt (wr w : World) (m g cap k : Nat) (bv : Value) (ys : List Int) : Prop where
 len : ys.length = m
 row : Kd.R (Kd.int .i64) 3 wr w.heap.size (fun _ => True) (.slice (some ⟨g, 0, none⟩) m cap) ys
 le : w.heap.size + 1 ≤ g
 lt : g < wr.heap.size
 bel : Below w.heap.size w wr
 box : wr.heap[w.heap.size]? = some (.cells #[bv] 22 (0, 0))
 val : ∀ j : Nat, j < k → rd ys (j : Int) = (j : Int)
theorem FillAt.cell {wr w : World} {m g cap k : Nat} {bv : Value} {ys : List Int} (h : FillAt wr w m g cap k bv ys) (hk : k < m) : wr.cell? ⟨g, k, none⟩ = some (.int .i64 (ys[k]?.getD 0)) ∧ wr.frozen? ⟨g, k, none⟩ = false := by
 have := Kd.R_celln (0 : Int) h.row (k : Int) (by omega) (by omega)
 simpa [rdOf, List.getD_eq_getElem?_getD] using this
theorem FillAt.step {wr w : World} {m g cap k : Nat} {bv : Value} {ys : List Int} (h : FillAt wr w m g cap k bv ys) (hk : k < m) : FillAt (wr.setCell ⟨g, k, none⟩ (.int .i64 k)) w m g cap (k + 1) bv (ys.set k k) where
 len := by simp [h.len]
 row := by have := Kd.R_putn h.row (k : Int) (k : Int); rw [Int.toNat_natCast] at this; exact this
 le := h.le
 lt := by simpa using h.lt
 bel := h.bel.setCell (by show w.heap.size ≤ g; have := h.le; omega) _
 box := by rw [Below.heap_setCell _ _ _ _ (by show w.heap.size ≠ g; have := h.le; omega)]; exact h.box
 val := fill_step h.len hk h.val
theorem box_after {w w1 : World} {bv : Value} {t : Nat} (h1 : Below (w.alloc (.cells #[bv] t)).heap.size (w.alloc (.cells #[bv] t)) w1) : w1.heap[w.heap.size]? = some (.cells #[bv] t (0, 0)) := by
 rw [h1.block w.heap.size (by simp)]; simpa using heap_alloc_new w (.cells #[bv] t)
theorem sorted_row {wr w : World} {l : List S} {g cap n : Nat} {os : Array Obj} {d : Array (Fin l.length)} [Inhabited (Fin l.length)] {ys : List Int} (hd : d.toList = ordF l) (hy : ys.length = l.length)
 (hR : Kd.R (Kd.int .i64) 3 wr w.heap.size (fun _ => True) (.slice (some ⟨g, 0, none⟩) l.length cap) ys) :
 Kd.R (Kd.int .i64) 3 (grow (putRow (fun x : Fin l.length => Value.int .i64 (x.val : Int)) (Sort.ahead wr n) g 0 d) os) w.heap.size (fun _ => True) (.slice (some ⟨g, 0, none⟩) l.length cap) (orderL l) := by
 have hlen : (orderL l).length = l.length := by
  unfold orderL ordF
  rw [List.length_map, List.length_mergeSort, List.length_finRange]
 have hp : putRow (fun x : Fin l.length => Value.int .i64 (x.val : Int)) (Sort.ahead wr n) g 0 d = putRow (Value.int .i64) (Sort.ahead wr n) g 0 (orderL l).toArray := by
  unfold putRow
  congr 1
  funext c
  rw [putCells_fin]
  congr 1
  apply Array.ext'
  rw [Array.toList_map, hd]; rfl
 rw [hp]
 have ho := Kd.own_of_R hR
 rw [hy] at ho
 rcases ho.2 with ⟨h0, _⟩ | ⟨g', cap', cur, hv, hb, hh, h1, h2, h3, h4⟩
 ·cases h0
 ·cases hv
  have := ownsRow_sortedI (w := wr) (n := n) (os := os) (ss := orderL l) (ts := orderL l) rfl hb hh (by rw [hlen]; exact h1) h2 h3
  rw [hlen] at this
  exact Kd.R_of_own (by rw [hlen]; exact this) (fun _ _ => trivial)
theorem FillAt.start {w w1 w2 : World} {m g cap : Nat} {bv : Value} {xs : List Int} (hb1 : Below (w.alloc (.cells #[bv] 22)).heap.size (w.alloc (.cells #[bv] 22)) w1) (hb2 : Below w1.heap.size w1 w2)
 (hR : Kd.R (Kd.int .i64) 3 w2 w1.heap.size (fun _ => True) (.slice (some ⟨g, 0, none⟩) m cap) xs) (hg : w1.heap.size ≤ g) (hS : g < w2.heap.size) (hl : xs.length = m) : FillAt w2 w m g cap 0 bv xs := by
 have h1 : w.heap.size + 1 ≤ w1.heap.size := by simpa using hb1.size
 refine ⟨hl, Kd.R_lower hR (by omega), by omega, hS, ?_, ?_, fun j hj => by omega⟩
 ·exact (((Below.refl w.heap.size w).alloc (Nat.le_refl _) _).trans (hb1.mono (by simp))).trans (hb2.mono (by omega))
 ·rw [hb2.block w.heap.size (by omega)]; exact box_after hb1
theorem FillAt.vals {wr w : World} {m g cap : Nat} {bv : Value} {ys : List Int} (h : FillAt wr w m g cap m bv ys) {j : Nat} (hj : j < m) : wr.cell? ⟨g, j, none⟩ = some (.int .i64 j) ∧ wr.frozen? ⟨g, j, none⟩ = false := by
 obtain ⟨h1, h2⟩ : wr.cell? ⟨g, j, none⟩ = some (.int .i64 (ys[j]?.getD 0)) ∧ wr.frozen? ⟨g, j, none⟩ = false := by
  have hx := h.len
  have := Kd.R_celln (0 : Int) h.row (j : Int) (by omega) (by omega)
  simpa [rdOf, List.getD_eq_getElem?_getD] using this
 have := h.val j hj
 rw [rd, Int.toNat_natCast, List.getD_eq_getElem?_getD] at this
 rw [this] at h1
 exact ⟨h1, h2⟩
set_option maxHeartbeats 1000000 in
theorem sort_call {wr w : World} {A : Option Addr} {c g cap : Nat} {l : List S} {ys : List Int} (hl : Kd.C k32 w A l.length l) (hf : Fin2 l) (h1 : 1 ≤ l.length) (h20 : l.length ≤ 1048576) (h : FillAt wr w l.length g cap l.length (.slice A l.length c) ys) :
 Calls Tryz.prog 46 #[.slice (some ⟨g, 0, none⟩) l.length cap, .func (.func 47) #[] #[.pointer (some ⟨w.heap.size, 0, none⟩)]] wr fun e w' => e = .returned (.tuple #[]) ∧ Kd.R (Kd.int .i64) 3 w' w.heap.size (fun _ => True) (.slice (some ⟨g, 0, none⟩) l.length cap) (orderL l) ∧ Below w.heap.size w w' := by
 have eg : ∀ args w, (callFunc 47 args).run Tryz.prog w = .ok (.enter 47 args) w := enters_of Tryz.func47 (by kernel_rfl) rfl
 haveI : Inhabited (Fin l.length) := ⟨⟨0, h1⟩⟩
 have hsz : (List.finRange l.length).toArray.size = l.length := by simp
 have hgw : w.heap.size ≤ wr.heap.size := h.bel.size
 have hcmp : CmpLays1 Tryz.prog 47 #[.pointer (some ⟨w.heap.size, 0, none⟩)] (fun x : Fin l.length => Value.int .i64 (x.val : Int)) (fun a b : Fin l.length => cfN l a.val b.val) g 0 (List.finRange l.length).toArray.size wr := by
  intro mm os dk _ x y
  have hB : Below (w.heap.size + 1) wr (grow (putRow (fun x : Fin l.length => Value.int .i64 (x.val : Int)) (Sort.ahead wr mm) g 0 dk) os) := sw_below h.le (by have := h.lt; have := h.le; omega)
  have hbox := (blk_cell ((hB.block w.heap.size (by omega)).trans h.box) 0).trans (show _ = some (Value.slice A l.length c) from rfl)
  have hC := Kd.C_below hl (h.bel.trans (hB.mono (by omega)))
  exact (order_closure A c l w.heap.size x.val y.val x.isLt y.isLt hf _ hbox hC).mono fun e w' ⟨he, hg⟩ => ⟨he, hg.out⟩
 have hH : Go.Sort.Holds (fun x : Fin l.length => Value.int .i64 (x.val : Int)) wr g 0 (List.finRange l.length).toArray := by
  intro j hj
  have hj' : j < l.length := by rw [hsz] at hj; exact hj
  obtain ⟨c1, c2⟩ := h.vals hj'
  rw [Nat.zero_add, getElem!_pos _ j hj]
  refine ⟨?_, c2⟩
  rw [c1]; simp
 have hS := Any.slices_SortFunc_total Srt.sortL (fun x : Fin l.length => Value.int .i64 (x.val : Int)) (fun _ => rfl) (fun a b : Fin l.length => cfN l a.val b.val) (swo l) 47 #[.pointer (some ⟨w.heap.size, 0, none⟩)] g 0 cap (List.finRange l.length).toArray wr eg hcmp hH h.lt (by rw [hsz]; omega) (swo_tot l)
 rw [hsz] at hS
 change Calls Tryz.prog 46 _ _ _ at hS
 refine hS.mono fun e w' ⟨he, n, os, hw⟩ => ⟨he, ?_, ?_⟩
 ·rw [hw]
  exact sorted_row (ys := ys) (by simp [ordF]) h.len h.row
 ·rw [hw]
  have hB : Below (w.heap.size + 1) wr _ := sw_below (enc := fun x : Fin l.length => Value.int .i64 (x.val : Int)) (n := n) (d := ((List.finRange l.length).toArray.toList.mergeSort fun x y => !(ltOf fun a b : Fin l.length => cfN l a.val b.val) y x).toArray) (os := os) h.le (by have := h.lt; have := h.le; omega)
  exact h.bel.trans (hB.mono (by omega))
set_option maxRecDepth 100000 in
set_option maxHeartbeats 2000000 in
theorem order_any (A : Option Addr) (c : Nat) (l : List S) (w : World) (hl : Kd.C k32 w A l.length l) (hc : l.length ≤ c) (hw : Wd l) (hf : Fin2 l) (hg : (allF l).2 = 0) (h1 : 1 ≤ l.length) (h20 : l.length ≤ 1048576) :
 Calls Tryz.prog 14 #[.slice A l.length c] w fun e w' => ∃ v : Value, e = .returned v ∧ Kd.R (Kd.int .i64) 3 w' w.heap.size (fun _ => True) v (orderL l) ∧ Below w.heap.size w w' := by
 have hmf : ∀ (fn : Fn) (first cap : Array Value) (w : World), (Instr.makeFunc fn first cap).run Tryz.prog w = .ok (.func fn first cap) w := fun _ _ _ _ => rfl
 have eg : ∀ args w, (callFunc 47 args).run Tryz.prog w = .ok (.enter 47 args) w := enters_of Tryz.func47 (by kernel_rfl) rfl
 have hgood : ∀ w, Kd.C k32 w A l.length l → Calls Tryz.prog 45 #[.slice A l.length c] w fun e w' => e = .returned (.bool true) ∧ Below w.heap.size w w' := fun w h => by
  have := good_calls A c l w h hc hw
  rw [hg] at this; exact this
 have hm := hl.2.1
 have hl8 : ((l.length : Nat) : Int).toNat * 8 ≤ 281474976710656 := by omega
 go_enter Tryz.func14, Tryz.ntmps14
 go_wp2_with (first | (go_at_call 45; (with_reducible refine (hgood _ (Kd.C_below hl ((Below.refl _ _).alloc (Nat.le_refl _) _))).mono ?_); rintro u w1 ⟨rfl, hb1⟩; have hbx1 := (blk_cell (box_after hb1) 0).trans (show _ = some (Value.slice A l.length c) from rfl)) | ((with_reducible refine gate_dst (N := 10) rfl ?_); refine Kd.R_make (Kd.int .i64) _ 3 rfl (N := 10) rfl 26 _ _ rfl (l.length : Int) rfl rfl Tryz.underlying26 (.int .i64 0) 8 infoI rfl (by decide) (by omega) (0 : Int) (ok := fun _ => True) (okp := fun _ => True) rfl (fun _ hk => hk) trivial (by omega) hl8 (Below.refl _ _) (Nat.le_refl _) ?_; intro v1 w2 ho1 hb2 hg1 hnew1; clear hg1 hnew1; obtain ⟨g, cap, xs, hxl, rfl, hR, hgB, hS, hFr⟩ := opened ho1 (by omega); clear ho1; have hXL := Lib.hid hxl; clear hxl))
 generalize hbv : Value.slice A l.length c = bv at *
 have HF := FillAt.start hb1 hb2 hR hgB hS hXL.out
 clear hR hS hFr hXL hgB hbx1
 go_loopw [4, 13] (fun _ i wr => ∃ (k : Nat) (ys : List Int), k ≤ l.length ∧ i = .int .i64 k ∧ FillAt wr w l.length g cap k bv ys) (fun _ i _ => l.length - (intOf i).toNat)
 case atStart => exact ⟨0, xs, Nat.zero_le _, rfl, HF⟩
 case round =>
  obtain ⟨k, ys, hk, rfl, HF⟩ := hrel
  by_cases hlt : k < l.length
  ·obtain ⟨hcc, hff⟩ := HF.cell hlt
   have d1 : decide ((k : Int) < (l.length : Int)) = true := by simp; omega
   have d2 : decide (k < l.length) = true := by simp; omega
   go_wp2
   go_roundw
   case rel => exact ⟨k + 1, ys.set k k, by omega, by go_num, HF.step hlt⟩
   case measure => simp [intOf]; omega
  ·obtain rfl : k = l.length := by omega
   have d1 : decide ((l.length : Int) < (l.length : Int)) = false := by simp
   have hSo := sort_call hl hf h1 h20 (hbv ▸ HF)
   clear hb1 hb2 hgood
   go_wp2_with (go_at_call 46; (with_reducible refine hSo.mono ?_); rintro u w3 ⟨rfl, hR3, hB3⟩)
   go_ret
   exact ⟨_, rfl, hR3, hB3⟩
end Go.Proofs.YtioahkblhekgpaaGreatDoor.Adm
