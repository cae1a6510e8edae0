/- What the proof needs of Ord: only what is used is left (wip/tools/prune.py). Conditions stand in each sentence. -/
import Derived.Sort.OwnSortedInts
import Derived.Lib.OwnBridge
import Derived.Test.YtioahkblhekgpaaGreatDoorQHAdm
import Derived.Test.YtioahkblhekgpaaGreatDoorQHHld
import Derived.Test.YtioahkblhekgpaaGreatDoorQHSrt
import Derived.Test.YtioahkblhekgpaaGreatDoorQHGeo
set_option linter.unusedVariables false
set_option linter.unusedSimpArgs false
namespace Go.Proofs.YtioahkblhekgpaaGreatDoor.E
end Go.Proofs.YtioahkblhekgpaaGreatDoor.E
namespace Go.Proofs.YtioahkblhekgpaaGreatDoor.FltP
end Go.Proofs.YtioahkblhekgpaaGreatDoor.FltP
namespace Go.Proofs.YtioahkblhekgpaaGreatDoor.O
end Go.Proofs.YtioahkblhekgpaaGreatDoor.O
namespace Go.Proofs.YtioahkblhekgpaaGreatDoor.R
end Go.Proofs.YtioahkblhekgpaaGreatDoor.R
namespace Go.Proofs.YtioahkblhekgpaaGreatDoorW.PrintLast
end Go.Proofs.YtioahkblhekgpaaGreatDoorW.PrintLast
namespace Go.Proofs.YtioahkblhekgpaaGreatDoorW.PrintMore
end Go.Proofs.YtioahkblhekgpaaGreatDoorW.PrintMore
namespace Go.Proofs.YtioahkblhekgpaaGreatDoorW.PrintWords
end Go.Proofs.YtioahkblhekgpaaGreatDoorW.PrintWords
namespace Go.Proofs.YtioahkblhekgpaaGreatDoor.Adm
open Go.RowKit Go.Sort Go.Proofs.YtioahkblhekgpaaGreatDoor.FltP Go.Proofs.YtioahkblhekgpaaGreatDoor.R Go.Proofs.YtioahkblhekgpaaGreatDoor.E Go.Proofs.YtioahkblhekgpaaGreatDoor.O Go.Proofs.YtioahkblhekgpaaGreatDoorW.PrintWords Go.Proofs.YtioahkblhekgpaaGreatDoorW.PrintLast Go.Proofs.YtioahkblhekgpaaGreatDoorW.PrintMore
def Fin2 (l : List S) : Prop := ∀ x ∈ l, Fini x.f0 ∧ Fini x.f1
def holdAt (l : List S) (a b : Nat) : Int := hold (rd_T32 l (a : Int)).f0 (rd_T32 l (a : Int)).f1 (rd_T32 l (b : Int)).f0 (rd_T32 l (b : Int)).f1
def cfN (l : List S) (a b : Nat) : Int := if holdAt l a b = 0 then (a : Int) - b else holdAt l a b
def Rd (w0 w : World) (B : Nat) (v : Value) (p q : Addr) (x y : S) : Prop := Gr w0 w ∧ w.cell? ⟨B, 0, none⟩ = some v ∧ w.cell? p = some (.float .f64 x.f0) ∧ w.cell? ⟨p.block, p.off + 1, none⟩ = some (.float .f64 x.f1) ∧ w.cell? q = some (.float .f64 y.f0) ∧ w.cell? ⟨q.block, q.off + 1, none⟩ = some (.float .f64 y.f1)
theorem Rd.next {w0 w w' : World} {B : Nat} {v : Value} {p q : Addr} {x y : S} (hg : Gr w w') (h : Rd w0 w B v p q x y) : Rd w0 w' B v p q x y := ⟨h.1.trans hg, hg.cell h.2.1, hg.cell h.2.2.1, hg.cell h.2.2.2.1, hg.cell h.2.2.2.2.1, hg.cell h.2.2.2.2.2⟩
set_option maxRecDepth 100000 in
set_option maxHeartbeats 1000000 in
theorem order_closure (A : Option Addr) (c : Nat) (l : List S) (B a b : Nat) (ha : a < l.length) (hb : b < l.length) (hf : Fin2 l) (W : World) (hbox : W.cell? ⟨B, 0, none⟩ = some (.slice A l.length c)) (hl : Kd.C k32 W A l.length l) :
    Calls Tryz.prog 47 #[.int .i64 a, .int .i64 b, .pointer (some ⟨B, 0, none⟩)] W fun e w' => e = .returned (.int .i64 (cfN l a b)) ∧ Gr W w' := by
  have hu32 := Tryz.underlying32
  have hm := hl.2.1
  have fa := hf _ (rd_at ha)
  have fb := hf _ (rd_at hb)
  have hh := hold_ev fa.1 fa.2 fb.1 fb.2
  obtain ⟨K1, k1⟩ := hh
  have hcf : cfN l a b = if holdAt l a b = 0 then (a : Int) - b else holdAt l a b := rfl
  obtain ⟨K2, k2⟩ := or_ev (holdAt l a b) ((a : Int) - b)
  rw [hcf]
  have h1 : admit_hold.f (K1 + K2) (rd_T32 l (a : Int)).f0 (rd_T32 l (a : Int)).f1 (rd_T32 l (b : Int)).f0 (rd_T32 l (b : Int)).f1 = some (holdAt l a b) := k1 _ (Nat.le_add_right _ _)
  have h2 : cmp_Or_int.f (K1 + K2) [holdAt l a b, (a : Int) - b] = _ := k2 _ (Nat.le_add_left _ _)
  clear hcf k1 k2
  generalize (if holdAt l a b = 0 then (a : Int) - b else holdAt l a b) = r at h2 ⊢
  generalize holdAt l a b = t1 at h1 h2
  have d1 : decide (a < l.length) = true := by simp; omega
  have d2 : decide (b < l.length) = true := by simp; omega
  have d1' : decide ((a : Int) < (l.length : Int)) = true := by simp; omega
  have d2' : decide ((b : Int) < (l.length : Int)) = true := by simp; omega
  have e1 : decide ((0 : Int) ≤ a) = true := by simp
  have e2 : decide ((0 : Int) ≤ b) = true := by simp
  have hs : IntKind.i64.wrap ((a : Int) - b) = (a : Int) - b := by clear h2; simp only [IntKind.wrap]; simp [IntKind.signed, IntKind.bits]; omega
  rw [← hs] at h2
  clear hs
  obtain ⟨ad, rfl, hx0, hx1⟩ := at_T32 hl a (by omega) (by omega)
  obtain ⟨bd, hbd, hy0, hy1⟩ := at_T32 hl b (by omega) (by omega)
  injection hbd with hbd
  subst hbd
  rw [Int.toNat_natCast] at hx0 hx1 hy0 hy1
  generalize rd_T32 l (a : Int) = x at *
  generalize rd_T32 l (b : Int) = y at *
  go_enter Tryz.func47, Tryz.ntmps47
  go_wp2
  have hS : Rd W W B (.slice (some ad) l.length c) (ad.add (a * 2)) (ad.add (b * 2)) x y := ⟨Gr.refl _, hbox, hx0, hx1, hy0, hy1⟩
  go_region_held (fun w' => Gr W w' ∧ w'.cell? ⟨B, 0, none⟩ = some (.slice (some ad) l.length c) ∧ w'.cell? (ad.add (a * 2)) = some (.float .f64 x.f0) ∧ w'.cell? ⟨(ad.add (a * 2)).block, (ad.add (a * 2)).off + 1, none⟩ = some (.float .f64 x.f1) ∧ w'.cell? (ad.add (b * 2)) = some (.float .f64 y.f0) ∧ w'.cell? ⟨(ad.add (b * 2)).block, (ad.add (b * 2)).off + 1, none⟩ = some (.float .f64 y.f1))
    (first | exact hS | exact hS.next (Gr.drew (Gr.refl _)) | exact Rd.next (by assumption) (by assumption) | exact Rd.next (Gr.of0 (by assumption)) (by assumption) | exact Rd.next ((Gr.refl _).alloc _) (by assumption))
    (first | (go_at_call 49; (with_reducible refine (hold_grow _ _ _ _ _ _ _ h1).mono ?_); rintro u w2 ⟨rfl, hd2⟩) | (go_at_call 48; refine (or_two h2 _ rfl).mono ?_; rintro u w4 ⟨rfl, hd4⟩))
  go_wp2
  go_ret
  exact ⟨rfl, (Gr.refl _).drew.trans (hd2.trans (((Gr.refl _).alloc _).trans (Gr.of0 hd4)))⟩
theorem sw_below {α : Type} [Inhabited α] {enc : α → Value} {wr : World} {B g n : Nat} {d : Array α} {os : Array Obj} (h : B ≤ g) (hB : B ≤ wr.heap.size) : Below B wr (grow (putRow enc (Sort.ahead wr n) g 0 d) os) := by
  refine ⟨rfl, rfl, rfl, by simp, fun k hk => ?_⟩
  rw [heap_grow_old _ _ (by simp; omega)]
  have : g ≠ k := by omega
  simp [putRow, mapBlock, Sort.ahead, Array.getElem?_modify, this]
theorem putCells_fin {m : Nat} [Inhabited (Fin m)] (d : Array (Fin m)) (c : Array Value) : putCells (fun x : Fin m => Value.int .i64 (x.val : Int)) 0 d c = putCells (Value.int .i64) 0 (d.map fun x => (x.val : Int)) c := by
  unfold putCells
  apply Array.ext_getElem?
  intro i
  simp only [Array.getElem?_mapIdx, Array.size_map]
  cases c[i]? with
  | none => rfl
  | some v =>
    simp only [Option.map_some, Nat.zero_le, true_and, Nat.zero_add, Nat.sub_zero]
    by_cases h : i < d.size
    · rw [if_pos h, if_pos h, getElem!_pos d i h, getElem!_pos (d.map fun x => (x.val : Int)) i (by simpa using h), Array.getElem_map]
    · rw [if_neg h, if_neg h]
def ordF (l : List S) : List (Fin l.length) := (List.finRange l.length).mergeSort fun x y => !(ltOf fun a b : Fin l.length => cfN l a.val b.val) y x
def orderL (l : List S) : List Int := (ordF l).map fun x => (x.val : Int)
def orderN (l : List S) : List Nat := (ordF l).map fun x => x.val
theorem orderL_N (l : List S) : orderL l = (orderN l).map fun (n : Nat) => (n : Int) := by unfold orderL orderN; rw [List.map_map]; rfl
def PT (l : List S) (i : Nat) : Geo.Pt := (fval (rd_T32 l (i : Int)).f0, fval (rd_T32 l (i : Int)).f1)
theorem sgn3_lt {a b : Int} : (sgn3 a b < 0 ↔ a < b) ∧ (sgn3 a b = 0 ↔ a = b) ∧ (0 < sgn3 a b ↔ b < a) := by unfold sgn3; split <;> (try split) <;> omega
theorem holdAt_iff (l : List S) (a b : Nat) : (holdAt l a b < 0 ↔ Geo.Ahead (PT l a) (PT l b)) ∧ (holdAt l a b = 0 ↔ PT l a = PT l b) := by
  unfold holdAt hold PT Geo.Ahead Geo.Pos Geo.sub
  generalize fval (rd_T32 l (a : Int)).f0 = x
  generalize fval (rd_T32 l (a : Int)).f1 = y
  generalize fval (rd_T32 l (b : Int)).f0 = x'
  generalize fval (rd_T32 l (b : Int)).f1 = y'
  have h1 := sgn3_lt (a := x) (b := x')
  have h2 := sgn3_lt (a := y) (b := y')
  simp only [Prod.mk.injEq]
  split <;> omega
theorem cfN_lt (l : List S) (a b : Nat) : cfN l a b < 0 ↔ Geo.Lt (PT l) a b := by
  obtain ⟨h1, h2⟩ := holdAt_iff l a b
  unfold cfN Geo.Lt
  by_cases h : holdAt l a b = 0
  · rw [if_pos h]
    have := h2.mp h
    constructor
    · exact fun hlt => .inr ⟨this, by omega⟩
    · rintro (k | k)
      · rw [this] at k; exact absurd k (Geo.Ahead.irrefl _)
      · omega
  · rw [if_neg h]
    constructor
    · exact fun k => .inl (h1.mp k)
    · rintro (k | k)
      · exact h1.mpr k
      · exact absurd (h2.mpr k.1) h
theorem lt_dec (l : List S) (a b : Fin l.length) : (ltOf fun a b : Fin l.length => cfN l a.val b.val) a b = decide (Geo.Lt (PT l) a.val b.val) := by
  unfold ltOf
  exact decide_eq_decide.mpr (cfN_lt l a.val b.val)
theorem swo (l : List S) : SWO (ltOf fun a b : Fin l.length => cfN l a.val b.val) where
  irrefl x := by rw [lt_dec]; exact decide_eq_false (Geo.Lt.irrefl _)
  trans x y z h1 h2 := by
    rw [lt_dec] at *
    exact decide_eq_true (Geo.Lt.trans (of_decide_eq_true h1) (of_decide_eq_true h2))
  ntrans x y z h1 h2 := by
    rw [lt_dec] at *
    have n1 := of_decide_eq_false h1
    have n2 := of_decide_eq_false h2
    refine decide_eq_false fun h => ?_
    rcases Geo.lt_total (P := PT l) x.val y.val with k | k | k
    · exact n1 k
    · rw [k] at h; exact n2 h
    · rcases Geo.lt_total (P := PT l) y.val z.val with j | j | j
      · exact n2 j
      · rw [← j] at h; exact n1 h
      · exact Geo.Lt.irrefl _ (h.trans (j.trans k))
theorem swo_tot (l : List S) (x y : Fin l.length) (h1 : (ltOf fun a b : Fin l.length => cfN l a.val b.val) x y = false) (h2 : (ltOf fun a b : Fin l.length => cfN l a.val b.val) y x = false) : x = y := by
  rw [lt_dec] at h1 h2
  have n1 := of_decide_eq_false h1
  have n2 := of_decide_eq_false h2
  rcases Geo.lt_total (P := PT l) x.val y.val with k | k | k
  · exact absurd k n1
  · exact Fin.ext k
  · exact absurd k n2
theorem orderN_sorted (l : List S) : Geo.Sorted (PT l) l.length (orderN l) := by
  have hp : (ordF l).Perm (List.finRange l.length) := List.mergeSort_perm _ _
  have hs : (ordF l).Pairwise (fun a b => (!(ltOf fun a b : Fin l.length => cfN l a.val b.val) b a) = true) := by
    refine List.pairwise_mergeSort (fun a b c h1 h2 => ?_) (fun a b => ?_) _
    · simp only [Bool.not_eq_true'] at *
      exact (swo l).ntrans _ _ _ h2 h1
    · simp only [Bool.or_eq_true, Bool.not_eq_true']
      cases h : (ltOf fun a b : Fin l.length => cfN l a.val b.val) b a
      · exact .inl rfl
      · right
        rw [lt_dec] at h ⊢
        exact decide_eq_false fun k => Geo.Lt.irrefl _ (k.trans (of_decide_eq_true h))
  have hn : (ordF l).Nodup := hp.symm.nodup (List.nodup_finRange _)
  constructor
  · unfold orderN
    refine List.Pairwise.map _ (fun a b h => ?_) (List.Pairwise.and hs hn)
    obtain ⟨h1, h2⟩ := h
    simp only [Bool.not_eq_true'] at h1
    rw [lt_dec] at h1
    rcases Geo.lt_total (P := PT l) a.val b.val with k | k | k
    · exact k
    · exact absurd (Fin.ext k) h2
    · exact absurd k (of_decide_eq_false h1)
  · intro x
    unfold orderN
    constructor
    · intro h
      obtain ⟨y, _, rfl⟩ := List.mem_map.mp h
      exact y.isLt
    · intro h
      exact List.mem_map.mpr ⟨⟨x, h⟩, hp.mem_iff.mpr (List.mem_finRange _), rfl⟩
end Go.Proofs.YtioahkblhekgpaaGreatDoor.Adm
