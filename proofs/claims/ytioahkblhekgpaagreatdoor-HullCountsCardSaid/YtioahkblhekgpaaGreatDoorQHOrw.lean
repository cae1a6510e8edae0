/- What the proof needs of Orw: only what is used is left (wip/tools/prune.py). Conditions stand in each sentence. -/
import Derived.RegionTactic
import Derived.Lib.Hide
import Derived.Test.YtioahkblhekgpaaGreatDoorQHOrd
set_option linter.unusedVariables false
set_option linter.unusedSimpArgs false
namespace Go.Proofs.YtioahkblhekgpaaGreatDoor.E
end Go.Proofs.YtioahkblhekgpaaGreatDoor.E
namespace Go.Proofs.YtioahkblhekgpaaGreatDoor.FltP
end Go.Proofs.YtioahkblhekgpaaGreatDoor.FltP
namespace Go.Proofs.YtioahkblhekgpaaGreatDoor.O
end Go.Proofs.YtioahkblhekgpaaGreatDoor.O
namespace Go.Proofs.YtioahkblhekgpaaGreatDoor.R
end Go.Proofs.YtioahkblhekgpaaGreatDoor.R
namespace Go.Proofs.YtioahkblhekgpaaGreatDoorW.PrintLast
end Go.Proofs.YtioahkblhekgpaaGreatDoorW.PrintLast
namespace Go.Proofs.YtioahkblhekgpaaGreatDoorW.PrintMore
end Go.Proofs.YtioahkblhekgpaaGreatDoorW.PrintMore
namespace Go.Proofs.YtioahkblhekgpaaGreatDoorW.PrintWords
end Go.Proofs.YtioahkblhekgpaaGreatDoorW.PrintWords
namespace Go.Proofs.YtioahkblhekgpaaGreatDoor.Adm
open Go.Sort (grow putRow)
open Go.RowKit Go.Proofs.YtioahkblhekgpaaGreatDoor.FltP Go.Proofs.YtioahkblhekgpaaGreatDoor.R Go.Proofs.YtioahkblhekgpaaGreatDoor.E Go.Proofs.YtioahkblhekgpaaGreatDoor.O Go.Proofs.YtioahkblhekgpaaGreatDoorW.PrintWords Go.Proofs.YtioahkblhekgpaaGreatDoorW.PrintLast Go.Proofs.YtioahkblhekgpaaGreatDoorW.PrintMore
theorem infoI : (Tryz.prog.info? 3).map (fun i => (i.zero, i.size, i.bytes)) = some (some (.int .i64 0), 1, 8) := by kernel_rfl
theorem fill_step {n k : Nat} {xs : List Int} (hl : xs.length = n) (hk : k < n) (h : ∀ j : Nat, j < k → rd xs (j : Int) = (j : Int)) : ∀ j : Nat, j < k + 1 → rd (xs.set k (k : Int)) (j : Int) = (j : Int) := by
  intro j hj
  by_cases e : j = k
  · subst e; simp [rd, List.getD_eq_getElem?_getD, hl, hk]
  · have := h j (by omega)
    simp [rd, List.getD_eq_getElem?_getD] at this ⊢
    rw [List.getElem?_set_ne (by omega)]; exact this
theorem opened {W : World} {B m : Nat} {v : Value} (h : Kd.R (Kd.int .i64) 3 W B (fun _ => True) v (List.replicate (m : Int).toNat (0 : Int))) (hm : 1 ≤ m) :
    ∃ (g cap : Nat) (xs : List Int), xs.length = m ∧ v = .slice (some ⟨g, 0, none⟩) m cap ∧ Kd.R (Kd.int .i64) 3 W B (fun _ => True) (.slice (some ⟨g, 0, none⟩) m cap) xs ∧ B ≤ g ∧ g < W.heap.size ∧ True := by
  obtain ⟨g, cap, rfl, h1, h2, _⟩ := Kd.R_form h (by simp; omega)
  have e : (List.replicate (m : Int).toNat (0 : Int)).length = m := by simp
  rw [e] at h
  exact ⟨g, cap, _, e, by rw [e], h, h1, h2, trivial⟩
structure FillAt (wr w : World) (m g cap k : Nat) (bv : Value) (ys : List Int) : Prop where
  len : ys.length = m
  row : Kd.R (Kd.int .i64) 3 wr w.heap.size (fun _ => True) (.slice (some ⟨g, 0, none⟩) m cap) ys
  le : w.heap.size + 1 ≤ g
  lt : g < wr.heap.size
  bel : Below w.heap.size w wr
  box : wr.heap[w.heap.size]? = some (.cells #[bv] 22 (0, 0))
  val : ∀ j : Nat, j < k → rd ys (j : Int) = (j : Int)
theorem FillAt.cell {wr w : World} {m g cap k : Nat} {bv : Value} {ys : List Int} (h : FillAt wr w m g cap k bv ys) (hk : k < m) : wr.cell? ⟨g, k, none⟩ = some (.int .i64 (ys[k]?.getD 0)) ∧ wr.frozen? ⟨g, k, none⟩ = false := by
  have := Kd.R_celln (0 : Int) h.row (k : Int) (by omega) (by omega)
  simpa [rdOf, List.getD_eq_getElem?_getD] using this
theorem FillAt.step {wr w : World} {m g cap k : Nat} {bv : Value} {ys : List Int} (h : FillAt wr w m g cap k bv ys) (hk : k < m) : FillAt (wr.setCell ⟨g, k, none⟩ (.int .i64 k)) w m g cap (k + 1) bv (ys.set k k) where
  len := by simp [h.len]
  row := by have := Kd.R_putn h.row (k : Int) (k : Int); rw [Int.toNat_natCast] at this; exact this
  le := h.le
  lt := by simpa using h.lt
  bel := h.bel.setCell (by show w.heap.size ≤ g; have := h.le; omega) _
  box := by rw [Below.heap_setCell _ _ _ _ (by show w.heap.size ≠ g; have := h.le; omega)]; exact h.box
  val := fill_step h.len hk h.val
theorem box_after {w w1 : World} {bv : Value} {t : Nat} (h1 : Below (w.alloc (.cells #[bv] t)).heap.size (w.alloc (.cells #[bv] t)) w1) : w1.heap[w.heap.size]? = some (.cells #[bv] t (0, 0)) := by
  rw [h1.block w.heap.size (by simp)]; simpa using heap_alloc_new w (.cells #[bv] t)
theorem sorted_row {wr w : World} {l : List S} {g cap n : Nat} {os : Array Obj} {d : Array (Fin l.length)} [Inhabited (Fin l.length)] {ys : List Int} (hd : d.toList = ordF l) (hy : ys.length = l.length)
    (hR : Kd.R (Kd.int .i64) 3 wr w.heap.size (fun _ => True) (.slice (some ⟨g, 0, none⟩) l.length cap) ys) :
    Kd.R (Kd.int .i64) 3 (grow (putRow (fun x : Fin l.length => Value.int .i64 (x.val : Int)) (Sort.ahead wr n) g 0 d) os) w.heap.size (fun _ => True) (.slice (some ⟨g, 0, none⟩) l.length cap) (orderL l) := by
  have hlen : (orderL l).length = l.length := by
    unfold orderL ordF
    rw [List.length_map, List.length_mergeSort, List.length_finRange]
  have hp : putRow (fun x : Fin l.length => Value.int .i64 (x.val : Int)) (Sort.ahead wr n) g 0 d = putRow (Value.int .i64) (Sort.ahead wr n) g 0 (orderL l).toArray := by
    unfold putRow
    congr 1
    funext c
    rw [putCells_fin]
    congr 1
    apply Array.ext'
    rw [Array.toList_map, hd]; rfl
  rw [hp]
  have ho := Kd.own_of_R hR
  rw [hy] at ho
  rcases ho.2 with ⟨h0, _⟩ | ⟨g', cap', cur, hv, hb, hh, h1, h2, h3, h4⟩
  · cases h0
  · cases hv
    have := ownsRow_sortedI (w := wr) (n := n) (os := os) (ss := orderL l) (ts := orderL l) rfl hb hh (by rw [hlen]; exact h1) h2 h3
    rw [hlen] at this
    exact Kd.R_of_own (by rw [hlen]; exact this) (fun _ _ => trivial)
theorem FillAt.start {w w1 w2 : World} {m g cap : Nat} {bv : Value} {xs : List Int} (hb1 : Below (w.alloc (.cells #[bv] 22)).heap.size (w.alloc (.cells #[bv] 22)) w1) (hb2 : Below w1.heap.size w1 w2)
    (hR : Kd.R (Kd.int .i64) 3 w2 w1.heap.size (fun _ => True) (.slice (some ⟨g, 0, none⟩) m cap) xs) (hg : w1.heap.size ≤ g) (hS : g < w2.heap.size) (hl : xs.length = m) : FillAt w2 w m g cap 0 bv xs := by
  have h1 : w.heap.size + 1 ≤ w1.heap.size := by simpa using hb1.size
  refine ⟨hl, Kd.R_lower hR (by omega), by omega, hS, ?_, ?_, fun j hj => by omega⟩
  · exact (((Below.refl w.heap.size w).alloc (Nat.le_refl _) _).trans (hb1.mono (by simp))).trans (hb2.mono (by omega))
  · rw [hb2.block w.heap.size (by omega)]; exact box_after hb1
theorem FillAt.vals {wr w : World} {m g cap : Nat} {bv : Value} {ys : List Int} (h : FillAt wr w m g cap m bv ys) {j : Nat} (hj : j < m) : wr.cell? ⟨g, j, none⟩ = some (.int .i64 j) ∧ wr.frozen? ⟨g, j, none⟩ = false := by
  obtain ⟨h1, h2⟩ : wr.cell? ⟨g, j, none⟩ = some (.int .i64 (ys[j]?.getD 0)) ∧ wr.frozen? ⟨g, j, none⟩ = false := by
    have hx := h.len
    have := Kd.R_celln (0 : Int) h.row (j : Int) (by omega) (by omega)
    simpa [rdOf, List.getD_eq_getElem?_getD] using this
  have := h.val j hj
  rw [rd, Int.toNat_natCast, List.getD_eq_getElem?_getD] at this
  rw [this] at h1
  exact ⟨h1, h2⟩
set_option maxHeartbeats 1000000 in
theorem sort_call {wr w : World} {A : Option Addr} {c g cap : Nat} {l : List S} {ys : List Int} (hl : Kd.C k32 w A l.length l) (hf : Fin2 l) (h1 : 1 ≤ l.length) (h20 : l.length ≤ 1048576) (h : FillAt wr w l.length g cap l.length (.slice A l.length c) ys) :
    Calls Tryz.prog 46 #[.slice (some ⟨g, 0, none⟩) l.length cap, .func (.func 47) #[] #[.pointer (some ⟨w.heap.size, 0, none⟩)]] wr fun e w' => e = .returned (.tuple #[]) ∧ Kd.R (Kd.int .i64) 3 w' w.heap.size (fun _ => True) (.slice (some ⟨g, 0, none⟩) l.length cap) (orderL l) ∧ Below w.heap.size w w' := by
  have eg : ∀ args w, (callFunc 47 args).run Tryz.prog w = .ok (.enter 47 args) w := enters_of Tryz.func47 (by kernel_rfl) rfl
  haveI : Inhabited (Fin l.length) := ⟨⟨0, h1⟩⟩
  have hsz : (List.finRange l.length).toArray.size = l.length := by simp
  have hgw : w.heap.size ≤ wr.heap.size := h.bel.size
  have hcmp : CmpLays1 Tryz.prog 47 #[.pointer (some ⟨w.heap.size, 0, none⟩)] (fun x : Fin l.length => Value.int .i64 (x.val : Int)) (fun a b : Fin l.length => cfN l a.val b.val) g 0 (List.finRange l.length).toArray.size wr := by
    intro mm os dk _ x y
    have hB : Below (w.heap.size + 1) wr (grow (putRow (fun x : Fin l.length => Value.int .i64 (x.val : Int)) (Sort.ahead wr mm) g 0 dk) os) := sw_below h.le (by have := h.lt; have := h.le; omega)
    have hbox := (blk_cell ((hB.block w.heap.size (by omega)).trans h.box) 0).trans (show _ = some (Value.slice A l.length c) from rfl)
    have hC := Kd.C_below hl (h.bel.trans (hB.mono (by omega)))
    exact (order_closure A c l w.heap.size x.val y.val x.isLt y.isLt hf _ hbox hC).mono fun e w' ⟨he, hg⟩ => ⟨he, hg.out⟩
  have hH : Go.Sort.Holds (fun x : Fin l.length => Value.int .i64 (x.val : Int)) wr g 0 (List.finRange l.length).toArray := by
    intro j hj
    have hj' : j < l.length := by rw [hsz] at hj; exact hj
    obtain ⟨c1, c2⟩ := h.vals hj'
    rw [Nat.zero_add, getElem!_pos _ j hj]
    refine ⟨?_, c2⟩
    rw [c1]; simp
  have hS := Any.slices_SortFunc_total Srt.sortL (fun x : Fin l.length => Value.int .i64 (x.val : Int)) (fun _ => rfl) (fun a b : Fin l.length => cfN l a.val b.val) (swo l) 47 #[.pointer (some ⟨w.heap.size, 0, none⟩)] g 0 cap (List.finRange l.length).toArray wr eg hcmp hH h.lt (by rw [hsz]; omega) (swo_tot l)
  rw [hsz] at hS
  change Calls Tryz.prog 46 _ _ _ at hS
  refine hS.mono fun e w' ⟨he, n, os, hw⟩ => ⟨he, ?_, ?_⟩
  · rw [hw]
    exact sorted_row (ys := ys) (by simp [ordF]) h.len h.row
  · rw [hw]
    have hB : Below (w.heap.size + 1) wr _ := sw_below (enc := fun x : Fin l.length => Value.int .i64 (x.val : Int)) (n := n) (d := ((List.finRange l.length).toArray.toList.mergeSort fun x y => !(ltOf fun a b : Fin l.length => cfN l a.val b.val) y x).toArray) (os := os) h.le (by have := h.lt; have := h.le; omega)
    exact h.bel.trans (hB.mono (by omega))
set_option maxRecDepth 100000 in
set_option maxHeartbeats 2000000 in
theorem order_any (A : Option Addr) (c : Nat) (l : List S) (w : World) (hl : Kd.C k32 w A l.length l) (hc : l.length ≤ c) (hw : Wd l) (hf : Fin2 l) (hg : (allF l).2 = 0) (h1 : 1 ≤ l.length) (h20 : l.length ≤ 1048576) :
    Calls Tryz.prog 14 #[.slice A l.length c] w fun e w' => ∃ v : Value, e = .returned v ∧ Kd.R (Kd.int .i64) 3 w' w.heap.size (fun _ => True) v (orderL l) ∧ Below w.heap.size w w' := by
  have hmf : ∀ (fn : Fn) (first cap : Array Value) (w : World), (Instr.makeFunc fn first cap).run Tryz.prog w = .ok (.func fn first cap) w := fun _ _ _ _ => rfl
  have eg : ∀ args w, (callFunc 47 args).run Tryz.prog w = .ok (.enter 47 args) w := enters_of Tryz.func47 (by kernel_rfl) rfl
  have hgood : ∀ w, Kd.C k32 w A l.length l → Calls Tryz.prog 45 #[.slice A l.length c] w fun e w' => e = .returned (.bool true) ∧ Below w.heap.size w w' := fun w h => by
    have := good_calls A c l w h hc hw
    rw [hg] at this; exact this
  have hm := hl.2.1
  have hl8 : ((l.length : Nat) : Int).toNat * 8 ≤ 281474976710656 := by omega
  go_enter Tryz.func14, Tryz.ntmps14
  go_wp2_with (first | (go_at_call 45; (with_reducible refine (hgood _ (Kd.C_below hl ((Below.refl _ _).alloc (Nat.le_refl _) _))).mono ?_); rintro u w1 ⟨rfl, hb1⟩; have hbx1 := (blk_cell (box_after hb1) 0).trans (show _ = some (Value.slice A l.length c) from rfl)) | ((with_reducible refine gate_dst (N := 10) rfl ?_); refine Kd.R_make (Kd.int .i64) _ 3 rfl (N := 10) rfl 26 _ _ rfl (l.length : Int) rfl rfl Tryz.underlying26 (.int .i64 0) 8 infoI rfl (by decide) (by omega) (0 : Int) (ok := fun _ => True) (okp := fun _ => True) rfl (fun _ hk => hk) trivial (by omega) hl8 (Below.refl _ _) (Nat.le_refl _) ?_; intro v1 w2 ho1 hb2 hg1 hnew1; clear hg1 hnew1; obtain ⟨g, cap, xs, hxl, rfl, hR, hgB, hS, hFr⟩ := opened ho1 (by omega); clear ho1; have hXL := Lib.hid hxl; clear hxl))
  generalize hbv : Value.slice A l.length c = bv at *
  have HF := FillAt.start hb1 hb2 hR hgB hS hXL.out
  clear hR hS hFr hXL hgB hbx1
  go_loopw [4, 13] (fun _ i wr => ∃ (k : Nat) (ys : List Int), k ≤ l.length ∧ i = .int .i64 k ∧ FillAt wr w l.length g cap k bv ys) (fun _ i _ => l.length - (intOf i).toNat)
  case atStart => exact ⟨0, xs, Nat.zero_le _, rfl, HF⟩
  case round =>
    obtain ⟨k, ys, hk, rfl, HF⟩ := hrel
    by_cases hlt : k < l.length
    · obtain ⟨hcc, hff⟩ := HF.cell hlt
      have d1 : decide ((k : Int) < (l.length : Int)) = true := by simp; omega
      have d2 : decide (k < l.length) = true := by simp; omega
      go_wp2
      go_roundw
      case rel => exact ⟨k + 1, ys.set k k, by omega, by go_num, HF.step hlt⟩
      case measure => simp [intOf]; omega
    · obtain rfl : k = l.length := by omega
      have d1 : decide ((l.length : Int) < (l.length : Int)) = false := by simp
      have hSo := sort_call hl hf h1 h20 (hbv ▸ HF)
      clear hb1 hb2 hgood
      go_wp2_with (go_at_call 46; (with_reducible refine hSo.mono ?_); rintro u w3 ⟨rfl, hR3, hB3⟩)
      go_ret
      exact ⟨_, rfl, hR3, hB3⟩
end Go.Proofs.YtioahkblhekgpaaGreatDoor.Adm
