/- Lemmas of Exp. Conditions stand in each. -/
import Derived.LoopTactic
import Derived.RegionTactic
import Derived.BigRegion
import Derived.Lib.Hide
import Derived.Test.YtaoichlepfiliaaGreatDoorQXE0
import Derived.Test.YtaoichlepfiliaaGreatDoorQXE1
import Derived.Test.YtaoichlepfiliaaGreatDoorQXE2
import Derived.Test.YtaoichlepfiliaaGreatDoorQXE3
set_option linter.unusedSimpArgs false
set_option linter.unusedVariables false
namespace Go.Proofs.YtaoichlepfiliaaGreatDoor.Exp
open Go.RowKit Go.Proofs.YtaoichlepfiliaaGreatDoor.R Go.Proofs.YtaoichlepfiliaaGreatDoor.E Go.Proofs.YtaoichlepfiliaaGreatDoorW.PrintWords Go.Proofs.YtaoichlepfiliaaGreatDoorW.PrintLast
structure Held (w0 w : World) (kB fB iB eB : Nat) (A B : Option Addr) (ca cb : Nat) (e f : List Nat) (i k : Nat) : Prop where
 c0 : Kd.C Kd.f64 w0 A e.length e
 d0 : Kd.C Kd.f64 w0 B f.length f
 le : e.length ≤ ca
 lf : f.length ≤ cb
 b0 : Below w0.heap.size w0 w
 bk : w.heap[kB]? = some (.cells #[.int .i64 k] 3 (0, 0))
 bf : w.heap[fB]? = some (.cells #[.slice B f.length cb] 150 (0, 0))
 bi : w.heap[iB]? = some (.cells #[.int .i64 i] 3 (0, 0))
 be : w.heap[eB]? = some (.cells #[.slice A e.length ca] 150 (0, 0))
 ne1 : eB ≠ iB
 ne2 : fB ≠ kB
 ne5 : eB ≠ kB
 ne6 : fB ≠ iB
 ne7 : iB ≠ kB
 li : w0.heap.size ≤ iB
 lk : w0.heap.size ≤ kB
section
variable {w0 w : World} {kB fB iB eB : Nat} {A B : Option Addr} {ca cb : Nat} {e f : List Nat} {i k : Nat}
theorem Held.ce (h : Held w0 w kB fB iB eB A B ca cb e f i k) : Kd.C Kd.f64 w A e.length e := Kd.C_below h.c0 h.b0
theorem Held.cf (h : Held w0 w kB fB iB eB A B ca cb e f i k) : Kd.C Kd.f64 w B f.length f := Kd.C_below h.d0 h.b0
theorem Held.ne3 (h : Held w0 w kB fB iB eB A B ca cb e f i k) (ad : Addr) (ha : A = some ad) (hp : 0 < e.length) : ad.block ≠ iB := by
 subst ha; have := Kd.C_lt h.c0 hp (by decide); have := h.li; omega
theorem Held.ne4 (h : Held w0 w kB fB iB eB A B ca cb e f i k) (ad : Addr) (ha : B = some ad) (hp : 0 < f.length) : ad.block ≠ kB := by
 subst ha; have := Kd.C_lt h.d0 hp (by decide); have := h.lk; omega
theorem Held.ck (h : Held w0 w kB fB iB eB A B ca cb e f i k) : w.cell? ⟨kB, 0, none⟩ = some (.int .i64 k) := (blk_cell h.bk 0).trans rfl
theorem Held.fk (h : Held w0 w kB fB iB eB A B ca cb e f i k) : w.frozen? ⟨kB, 0, none⟩ = false := blk_frozen h.bk 0
theorem Held.ci (h : Held w0 w kB fB iB eB A B ca cb e f i k) : w.cell? ⟨iB, 0, none⟩ = some (.int .i64 i) := (blk_cell h.bi 0).trans rfl
theorem Held.fi (h : Held w0 w kB fB iB eB A B ca cb e f i k) : w.frozen? ⟨iB, 0, none⟩ = false := blk_frozen h.bi 0
theorem Held.cce (h : Held w0 w kB fB iB eB A B ca cb e f i k) : w.cell? ⟨eB, 0, none⟩ = some (.slice A e.length ca) := (blk_cell h.be 0).trans rfl
theorem Held.ccf (h : Held w0 w kB fB iB eB A B ca cb e f i k) : w.cell? ⟨fB, 0, none⟩ = some (.slice B f.length cb) := (blk_cell h.bf 0).trans rfl
theorem Held.moveI (h : Held w0 w kB fB iB eB A B ca cb e f i k) (n : Nat) : Held w0 ((w.drewN n).setCell ⟨iB, 0, none⟩ (.int .i64 ((i : Int) + 1))) kB fB iB eB A B ca cb e f (i + 1) k where
 c0 := h.c0
 d0 := h.d0
 le := h.le
 lf := h.lf
 b0 := (pw_below_drewN h.b0 n).setCell (by exact h.li) _
 bk := by rw [Below.heap_setCell _ _ _ _ (by exact h.ne7.symm)]; exact h.bk
 bf := by rw [Below.heap_setCell _ _ _ _ (by exact h.ne6)]; exact h.bf
 bi := by simpa using blk_set (w := w.drewN n) (g := iB) h.bi 0 (.int .i64 ((i : Int) + 1))
 be := by rw [Below.heap_setCell _ _ _ _ (by exact h.ne1)]; exact h.be
 ne1 := h.ne1
 ne2 := h.ne2
 ne5 := h.ne5
 ne6 := h.ne6
 ne7 := h.ne7
 li := h.li
 lk := h.lk
theorem Held.moveK (h : Held w0 w kB fB iB eB A B ca cb e f i k) (n : Nat) : Held w0 ((w.drewN n).setCell ⟨kB, 0, none⟩ (.int .i64 ((k : Int) + 1))) kB fB iB eB A B ca cb e f i (k + 1) where
 c0 := h.c0
 d0 := h.d0
 le := h.le
 lf := h.lf
 b0 := (pw_below_drewN h.b0 n).setCell (by exact h.lk) _
 bi := by rw [Below.heap_setCell _ _ _ _ (by exact h.ne7)]; exact h.bi
 bf := by rw [Below.heap_setCell _ _ _ _ (by exact h.ne2)]; exact h.bf
 bk := by simpa using blk_set (w := w.drewN n) (g := kB) h.bk 0 (.int .i64 ((k : Int) + 1))
 be := by rw [Below.heap_setCell _ _ _ _ (by exact h.ne5)]; exact h.be
 ne1 := h.ne1
 ne2 := h.ne2
 ne5 := h.ne5
 ne6 := h.ne6
 ne7 := h.ne7
 li := h.li
 lk := h.lk
theorem Held.below {w1 : World} (h : Held w0 w kB fB iB eB A B ca cb e f i k) (hb : Below w.heap.size w w1) : Held w0 w1 kB fB iB eB A B ca cb e f i k := by
 have g : ∀ {b : Nat} {o : Obj}, w.heap[b]? = some o → w1.heap[b]? = some o := fun {b o} hh => (hb.block b (by
  rcases Nat.lt_or_ge b w.heap.size with hlt | hge
  ·exact hlt
  ·rw [Array.getElem?_eq_none hge] at hh; cases hh)).trans hh
 exact ⟨h.c0, h.d0, h.le, h.lf, h.b0.trans (hb.mono h.b0.size), g h.bk, g h.bf, g h.bi, g h.be, h.ne1, h.ne2, h.ne5, h.ne6, h.ne7, h.li, h.lk⟩
end
theorem add_blk (a : Addr) (n : Nat) : (a.add n).block = a.block := by unfold Addr.add; split <;> rfl
theorem far_cell {w : World} {p q : Addr} {x v : Value} {n : Nat} (h : w.cell? q = some v) (hne : q.block ≠ p.block) : ((w.drewN n).setCell p x).cell? q = some v := by
 rw [World.cell?_of_block (w := w) (w' := (w.drewN n).setCell p x) (by rw [Below.heap_setCell _ _ _ _ hne]; rfl)]; exact h
theorem quiet_d0 {P : Program} {f : FuncId} {args : Array Value} {w : World} {n : Nat} {v : Value}
 (h : Calls P f args (w.drewN n) fun e w' => e = .returned v ∧ Drawn0 (w.drewN n) w') : Calls P f args (w.drewN n) fun e w'' => e = .returned v ∧ ∃ m, w'' = w.drewN m :=
 Calls.quiet_of (h.mono fun _ _ ⟨he, hm⟩ => ⟨he, hm.out⟩)
def ltAbs (x y : Nat) : Option Bool := (math_Abs.f x).bind fun a => (math_Abs.f y).bind fun b => some (FloatKind.f64.format.order a b == some .lt)
set_option maxRecDepth 100000 in
set_option maxHeartbeats 1000000 in
theorem next_end (w0 w : World) (kB fB iB eB : Nat) (A B : Option Addr) (ca cb : Nat) (e f : List Nat) (i k : Nat) (h : Held w0 w kB fB iB eB A B ca cb e f i k) (hk : k = f.length) (hi : i < e.length) :
 Calls Tryz.prog 190 #[.pointer (some ⟨kB, 0, none⟩), .pointer (some ⟨fB, 0, none⟩), .pointer (some ⟨iB, 0, none⟩), .pointer (some ⟨eB, 0, none⟩)] w
  fun x w' => x = .returned (.float .f64 (rdOf (0 : Nat) e i)) ∧ ∃ n, w' = (w.drewN n).setCell ⟨iB, 0, none⟩ (.int .i64 ((i : Int) + 1)) := by
 have hck := h.ck
 have hci := h.ci
 have hfi := h.fi
 have hfk := h.fk
 have hce := h.cce
 have hcf := h.ccf
 have hmax := h.ce.2.1
 have hmaxf := h.cf.2.1
 obtain ⟨ad, rfl, hx⟩ := Kd.at_f64 h.ce i (by omega) (by omega)
 rw [Int.toNat_natCast] at hx
 have d2 : decide ((0 : Int) ≤ i) = true := by simp
 have n3 : decide (i < e.length) = true := by simp; omega
 have d3 : decide ((i : Int) < e.length) = true := by simp; omega
 have z1 : ∀ n, ((w.drewN n).setCell ⟨iB, 0, none⟩ (.int .i64 ((i : Int) + 1))).cell? ⟨eB, 0, none⟩ = _ := fun n => far_cell hce h.ne1
 have z2 : ∀ n, ((w.drewN n).setCell ⟨iB, 0, none⟩ (.int .i64 ((i : Int) + 1))).cell? (ad.add i) = _ := fun n => far_cell hx (show (ad.add i).block ≠ iB from by rw [add_blk]; exact h.ne3 ad rfl (by omega))
 subst hk
 have d1 : decide ((f.length : Int) = (f.length : Int)) = true := by simp
 go_enter Tryz.func190, Tryz.ntmps190
 go_wp2
 go_quiet (fail)
 go_wp2
 go_ret
 exact ⟨rfl, _, rfl⟩
set_option maxRecDepth 100000 in
set_option maxHeartbeats 1000000 in
theorem next_less (w0 w : World) (kB fB iB eB : Nat) (A B : Option Addr) (ca cb : Nat) (e f : List Nat) (i k : Nat) (h : Held w0 w kB fB iB eB A B ca cb e f i k) (hk : k < f.length) (hi : i < e.length) (hl : ltAbs (rdOf (0 : Nat) e i) (rdOf (0 : Nat) f k) = some true) :
 Calls Tryz.prog 190 #[.pointer (some ⟨kB, 0, none⟩), .pointer (some ⟨fB, 0, none⟩), .pointer (some ⟨iB, 0, none⟩), .pointer (some ⟨eB, 0, none⟩)] w
  fun x w' => x = .returned (.float .f64 (rdOf (0 : Nat) e i)) ∧ ∃ n, w' = (w.drewN n).setCell ⟨iB, 0, none⟩ (.int .i64 ((i : Int) + 1)) := by
 have hck := h.ck
 have hci := h.ci
 have hfi := h.fi
 have hfk := h.fk
 have hce := h.cce
 have hcf := h.ccf
 have hmax := h.ce.2.1
 have hmaxf := h.cf.2.1
 obtain ⟨ad, rfl, hx⟩ := Kd.at_f64 h.ce i (by omega) (by omega)
 rw [Int.toNat_natCast] at hx
 have d2 : decide ((0 : Int) ≤ i) = true := by simp
 have n3 : decide (i < e.length) = true := by simp; omega
 have d3 : decide ((i : Int) < e.length) = true := by simp; omega
 have z1 : ∀ n, ((w.drewN n).setCell ⟨iB, 0, none⟩ (.int .i64 ((i : Int) + 1))).cell? ⟨eB, 0, none⟩ = _ := fun n => far_cell hce h.ne1
 have z2 : ∀ n, ((w.drewN n).setCell ⟨iB, 0, none⟩ (.int .i64 ((i : Int) + 1))).cell? (ad.add i) = _ := fun n => far_cell hx (show (ad.add i).block ≠ iB from by rw [add_blk]; exact h.ne3 ad rfl (by omega))
 obtain ⟨bd, rfl, hy⟩ := Kd.at_f64 h.cf k (by omega) (by omega)
 rw [Int.toNat_natCast] at hy
 have d4 : decide ((0 : Int) ≤ k) = true := by simp
 have n5 : decide (k < f.length) = true := by simp; omega
 have d5 : decide ((k : Int) < f.length) = true := by simp; omega
 have y1 : ∀ n, ((w.drewN n).setCell ⟨kB, 0, none⟩ (.int .i64 ((k : Int) + 1))).cell? ⟨fB, 0, none⟩ = _ := fun n => far_cell hcf h.ne2
 have y2 : ∀ n, ((w.drewN n).setCell ⟨kB, 0, none⟩ (.int .i64 ((k : Int) + 1))).cell? (bd.add k) = _ := fun n => far_cell hy (show (bd.add k).block ≠ kB from by rw [add_blk]; exact h.ne4 bd rfl (by omega))
 have d1 : ((k : Int) == (f.length : Int)) = false := by rw [beq_eq_false_iff_ne]; omega
 obtain ⟨a, ha, hl⟩ := Option.bind_eq_some_iff.mp hl
 obtain ⟨b, hb, hl⟩ := Option.bind_eq_some_iff.mp hl
 injection hl with hl
 go_enter Tryz.func190, Tryz.ntmps190
 go_wp2
 go_quiet (first | (go_at_call 114; first | (with_reducible exact quiet_d0 (math_Abs.calls _ a _ ha)) | (with_reducible exact quiet_d0 (math_Abs.calls _ b _ hb))))
 go_wp2
 go_ret
 exact ⟨rfl, _, rfl⟩
set_option maxRecDepth 100000 in
set_option maxHeartbeats 1000000 in
theorem next_more (w0 w : World) (kB fB iB eB : Nat) (A B : Option Addr) (ca cb : Nat) (e f : List Nat) (i k : Nat) (h : Held w0 w kB fB iB eB A B ca cb e f i k) (hk : k < f.length) (hi : i < e.length) (hl : ltAbs (rdOf (0 : Nat) e i) (rdOf (0 : Nat) f k) = some false) :
 Calls Tryz.prog 190 #[.pointer (some ⟨kB, 0, none⟩), .pointer (some ⟨fB, 0, none⟩), .pointer (some ⟨iB, 0, none⟩), .pointer (some ⟨eB, 0, none⟩)] w
  fun x w' => x = .returned (.float .f64 (rdOf (0 : Nat) f k)) ∧ ∃ n, w' = (w.drewN n).setCell ⟨kB, 0, none⟩ (.int .i64 ((k : Int) + 1)) := by
 have hck := h.ck
 have hci := h.ci
 have hfi := h.fi
 have hfk := h.fk
 have hce := h.cce
 have hcf := h.ccf
 have hmax := h.ce.2.1
 have hmaxf := h.cf.2.1
 obtain ⟨ad, rfl, hx⟩ := Kd.at_f64 h.ce i (by omega) (by omega)
 rw [Int.toNat_natCast] at hx
 have d2 : decide ((0 : Int) ≤ i) = true := by simp
 have n3 : decide (i < e.length) = true := by simp; omega
 have d3 : decide ((i : Int) < e.length) = true := by simp; omega
 have z1 : ∀ n, ((w.drewN n).setCell ⟨iB, 0, none⟩ (.int .i64 ((i : Int) + 1))).cell? ⟨eB, 0, none⟩ = _ := fun n => far_cell hce h.ne1
 have z2 : ∀ n, ((w.drewN n).setCell ⟨iB, 0, none⟩ (.int .i64 ((i : Int) + 1))).cell? (ad.add i) = _ := fun n => far_cell hx (show (ad.add i).block ≠ iB from by rw [add_blk]; exact h.ne3 ad rfl (by omega))
 obtain ⟨bd, rfl, hy⟩ := Kd.at_f64 h.cf k (by omega) (by omega)
 rw [Int.toNat_natCast] at hy
 have d4 : decide ((0 : Int) ≤ k) = true := by simp
 have n5 : decide (k < f.length) = true := by simp; omega
 have d5 : decide ((k : Int) < f.length) = true := by simp; omega
 have y1 : ∀ n, ((w.drewN n).setCell ⟨kB, 0, none⟩ (.int .i64 ((k : Int) + 1))).cell? ⟨fB, 0, none⟩ = _ := fun n => far_cell hcf h.ne2
 have y2 : ∀ n, ((w.drewN n).setCell ⟨kB, 0, none⟩ (.int .i64 ((k : Int) + 1))).cell? (bd.add k) = _ := fun n => far_cell hy (show (bd.add k).block ≠ kB from by rw [add_blk]; exact h.ne4 bd rfl (by omega))
 have d1 : ((k : Int) == (f.length : Int)) = false := by rw [beq_eq_false_iff_ne]; omega
 obtain ⟨a, ha, hl⟩ := Option.bind_eq_some_iff.mp hl
 obtain ⟨b, hb, hl⟩ := Option.bind_eq_some_iff.mp hl
 injection hl with hl
 go_enter Tryz.func190, Tryz.ntmps190
 go_wp2
 go_quiet (first | (go_at_call 114; first | (with_reducible exact quiet_d0 (math_Abs.calls _ a _ ha)) | (with_reducible exact quiet_d0 (math_Abs.calls _ b _ hb))))
 go_wp2
 go_ret
 exact ⟨rfl, _, rfl⟩
set_option maxRecDepth 100000 in
set_option maxHeartbeats 1000000 in
theorem next_none (w0 w : World) (kB fB iB eB : Nat) (A B : Option Addr) (ca cb : Nat) (e f : List Nat) (i k : Nat) (h : Held w0 w kB fB iB eB A B ca cb e f i k) (hk : k < f.length) (hi : e.length ≤ i) :
 Calls Tryz.prog 190 #[.pointer (some ⟨kB, 0, none⟩), .pointer (some ⟨fB, 0, none⟩), .pointer (some ⟨iB, 0, none⟩), .pointer (some ⟨eB, 0, none⟩)] w
  fun x w' => x = .returned (.float .f64 (rdOf (0 : Nat) f k)) ∧ ∃ n, w' = (w.drewN n).setCell ⟨kB, 0, none⟩ (.int .i64 ((k : Int) + 1)) := by
 have hck := h.ck
 have hci := h.ci
 have hfi := h.fi
 have hfk := h.fk
 have hce := h.cce
 have hcf := h.ccf
 have hmax := h.ce.2.1
 have hmaxf := h.cf.2.1
 obtain ⟨bd, rfl, hy⟩ := Kd.at_f64 h.cf k (by omega) (by omega)
 rw [Int.toNat_natCast] at hy
 have d4 : decide ((0 : Int) ≤ k) = true := by simp
 have n5 : decide (k < f.length) = true := by simp; omega
 have d5 : decide ((k : Int) < f.length) = true := by simp; omega
 have y1 : ∀ n, ((w.drewN n).setCell ⟨kB, 0, none⟩ (.int .i64 ((k : Int) + 1))).cell? ⟨fB, 0, none⟩ = _ := fun n => far_cell hcf h.ne2
 have y2 : ∀ n, ((w.drewN n).setCell ⟨kB, 0, none⟩ (.int .i64 ((k : Int) + 1))).cell? (bd.add k) = _ := fun n => far_cell hy (show (bd.add k).block ≠ kB from by rw [add_blk]; exact h.ne4 bd rfl (by omega))
 have d1 : ((k : Int) == (f.length : Int)) = false := by rw [beq_eq_false_iff_ne]; omega
 have d3 : decide ((i : Int) < e.length) = false := by simp; omega
 have n3 : decide (i < e.length) = false := by simp; omega
 go_enter Tryz.func190, Tryz.ntmps190
 go_wp2
 go_quiet (fail)
 go_wp2
 go_ret
 exact ⟨rfl, _, rfl⟩
def plusAt (q : Nat) (e f : List Nat) : Nat → Nat → Nat → List Nat → Option (List Nat)
 | 0, _, _, out => some out
 | n + 1, i, k, out =>
  if k < f.length then
   if i < e.length then (ltAbs (rdOf (0 : Nat) e i) (rdOf (0 : Nat) f k)).bind fun t => if t = true then (expand_grow.f q out (rdOf (0 : Nat) e i)).bind (plusAt q e f n (i + 1) k) else (expand_grow.f q out (rdOf (0 : Nat) f k)).bind (plusAt q e f n i (k + 1))
   else (expand_grow.f q out (rdOf (0 : Nat) f k)).bind (plusAt q e f n i (k + 1))
  else if k = f.length ∧ i < e.length then (expand_grow.f q out (rdOf (0 : Nat) e i)).bind (plusAt q e f n (i + 1) k) else none
theorem next_any {q n : Nat} {w0 w : World} {kB fB iB eB : Nat} {A B : Option Addr} {ca cb : Nat} {e f out fin : List Nat} {i k : Nat} (h : Held w0 w kB fB iB eB A B ca cb e f i k) (hp : plusAt q e f (n + 1) i k out = some fin) :
 ∃ (x i' k' : Nat) (o : List Nat), expand_grow.f q out x = some o ∧ plusAt q e f n i' k' o = some fin ∧
 Calls Tryz.prog 190 #[.pointer (some ⟨kB, 0, none⟩), .pointer (some ⟨fB, 0, none⟩), .pointer (some ⟨iB, 0, none⟩), .pointer (some ⟨eB, 0, none⟩)] w
  fun y w' => y = .returned (.float .f64 x) ∧ Held w0 w' kB fB iB eB A B ca cb e f i' k' ∧ (∀ (base : Nat) (v : Value), Kd.R Kd.f64 69 w base (fun _ => True) v out → Kd.R Kd.f64 69 w' base (fun _ => True) v out) := by
 have takeI : Calls Tryz.prog 190 #[.pointer (some ⟨kB, 0, none⟩), .pointer (some ⟨fB, 0, none⟩), .pointer (some ⟨iB, 0, none⟩), .pointer (some ⟨eB, 0, none⟩)] w
  (fun x w' => x = .returned (.float .f64 (rdOf (0 : Nat) e i)) ∧ ∃ n, w' = (w.drewN n).setCell ⟨iB, 0, none⟩ (.int .i64 ((i : Int) + 1))) →
  Calls Tryz.prog 190 #[.pointer (some ⟨kB, 0, none⟩), .pointer (some ⟨fB, 0, none⟩), .pointer (some ⟨iB, 0, none⟩), .pointer (some ⟨eB, 0, none⟩)] w
  fun y w' => y = .returned (.float .f64 (rdOf (0 : Nat) e i)) ∧ Held w0 w' kB fB iB eB A B ca cb e f (i + 1) k ∧ (∀ (base : Nat) (v : Value), Kd.R Kd.f64 69 w base (fun _ => True) v out → Kd.R Kd.f64 69 w' base (fun _ => True) v out) := fun hc => hc.mono (by
  rintro y w' ⟨hy, n, rfl⟩
  exact ⟨hy, h.moveI n, fun base v hR => Kd.R_set (Kd.R_drewN hR n) h.bi (by decide) 0 _⟩)
 have takeK : Calls Tryz.prog 190 #[.pointer (some ⟨kB, 0, none⟩), .pointer (some ⟨fB, 0, none⟩), .pointer (some ⟨iB, 0, none⟩), .pointer (some ⟨eB, 0, none⟩)] w
  (fun x w' => x = .returned (.float .f64 (rdOf (0 : Nat) f k)) ∧ ∃ n, w' = (w.drewN n).setCell ⟨kB, 0, none⟩ (.int .i64 ((k : Int) + 1))) →
  Calls Tryz.prog 190 #[.pointer (some ⟨kB, 0, none⟩), .pointer (some ⟨fB, 0, none⟩), .pointer (some ⟨iB, 0, none⟩), .pointer (some ⟨eB, 0, none⟩)] w
  fun y w' => y = .returned (.float .f64 (rdOf (0 : Nat) f k)) ∧ Held w0 w' kB fB iB eB A B ca cb e f i (k + 1) ∧ (∀ (base : Nat) (v : Value), Kd.R Kd.f64 69 w base (fun _ => True) v out → Kd.R Kd.f64 69 w' base (fun _ => True) v out) := fun hc => hc.mono (by
  rintro y w' ⟨hy, n, rfl⟩
  exact ⟨hy, h.moveK n, fun base v hR => Kd.R_set (Kd.R_drewN hR n) h.bk (by decide) 0 _⟩)
 unfold plusAt at hp
 by_cases hk : k < f.length
 ·rw [if_pos hk] at hp
  by_cases hi : i < e.length
  ·rw [if_pos hi] at hp
   obtain ⟨t, ht, hp⟩ := Option.bind_eq_some_iff.mp hp
   by_cases c : t = true
   ·subst c
    rw [if_pos rfl] at hp
    obtain ⟨o, ho, hp⟩ := Option.bind_eq_some_iff.mp hp
    exact ⟨_, _, _, o, ho, hp, takeI (next_less w0 w kB fB iB eB A B ca cb e f i k h hk hi ht)⟩
   ·replace c := Bool.eq_false_iff.mpr c
    subst c
    rw [if_neg (by decide)] at hp
    obtain ⟨o, ho, hp⟩ := Option.bind_eq_some_iff.mp hp
    exact ⟨_, _, _, o, ho, hp, takeK (next_more w0 w kB fB iB eB A B ca cb e f i k h hk hi ht)⟩
  ·rw [if_neg hi] at hp
   obtain ⟨o, ho, hp⟩ := Option.bind_eq_some_iff.mp hp
   exact ⟨_, _, _, o, ho, hp, takeK (next_none w0 w kB fB iB eB A B ca cb e f i k h hk (by omega))⟩
 ·rw [if_neg hk] at hp
  by_cases c : k = f.length ∧ i < e.length
  ·rw [if_pos c] at hp
   obtain ⟨o, ho, hp⟩ := Option.bind_eq_some_iff.mp hp
   exact ⟨_, _, _, o, ho, hp, takeI (next_end w0 w kB fB iB eB A B ca cb e f i k h c.1 c.2)⟩
  ·rw [if_neg c] at hp; cases hp
theorem apart_calls (q : Nat) (A : Option Addr) (c : Nat) (l : List Nat) (w : World) (hl : Kd.C Kd.f64 w A l.length l) (hc : l.length ≤ c) (h : expand_all.f q l 1 9218868437227405312 = some true) :
 Calls Tryz.prog 188 #[.slice A l.length c] w fun e w' => e = .returned (.slice A l.length c) ∧ Drawn0 w w' := by
 go_enter Tryz.func188, Tryz.ntmps188
 go_wp2_with (first | (go_at_call 202; refine (math_Inf.calls 1 _ _ rfl).mono ?_; rintro e w' ⟨rfl, ⟨nd, rfl⟩⟩) | (go_at_call 184; refine (expand_all.calls q A c l 1 _ true _ (Kd.C_drewN hl _) hc h).mono ?_; rintro e w' ⟨rfl, ⟨nd, rfl⟩⟩))
 go_ret
 exact ⟨rfl, by repeat (first | exact Drawn0.refl _ | apply Drawn0.step)⟩
def closed (q : Nat) (out : List Nat) : Option (List Nat) := (expand_neat.f q out).bind fun r => (expand_all.f q r 1 9218868437227405312).bind fun t => if t = true then some r else none
def expand_plus.f (q : Nat) (e f : List Nat) : Option (List Nat) := (plusAt q e f (e.length + f.length) 0 0 []).bind (closed q)
structure PlusAt (q : Nat) (w0 w : World) (kB fB iB eB : Nat) (A B : Option Addr) (ca cb : Nat) (e f : List Nat) (n : Nat) (v : Value) (fin : List Nat) : Prop where
 out : ∃ (i k : Nat) (o : List Nat), Held w0 w kB fB iB eB A B ca cb e f i k ∧ plusAt q e f n i k o = some fin ∧ Kd.R Kd.f64 69 w w0.heap.size (fun _ => True) v o
theorem Held.start {w : World} {A B : Option Addr} {ca cb : Nat} {e f : List Nat} (he : Kd.C Kd.f64 w A e.length e) (hca : e.length ≤ ca) (hf : Kd.C Kd.f64 w B f.length f) (hcb : f.length ≤ cb) :
 Held w ((((w.alloc (.cells #[.slice A e.length ca] 150)).alloc (.cells #[.slice B f.length cb] 150)).alloc (.cells #[.int .i64 0] 3)).alloc (.cells #[.int .i64 0] 3)) (w.heap.size + 1 + 1 + 1) (w.heap.size + 1) (w.heap.size + 1 + 1) w.heap.size A B ca cb e f 0 0 where
 c0 := he
 d0 := hf
 le := hca
 lf := hcb
 b0 := ((((Below.refl _ _).alloc (Nat.le_refl _) _).alloc (by simp) _).alloc (by simp; omega) _).alloc (by simp; omega) _
 bk := by simpa using heap_alloc_new (((w.alloc (.cells #[.slice A e.length ca] 150)).alloc (.cells #[.slice B f.length cb] 150)).alloc (.cells #[.int .i64 0] 3)) (.cells #[.int .i64 0] 3)
 bi := by rw [Below.heap_alloc _ _ _ (by simp)]; simpa using heap_alloc_new ((w.alloc (.cells #[.slice A e.length ca] 150)).alloc (.cells #[.slice B f.length cb] 150)) (.cells #[.int .i64 0] 3)
 bf := by rw [Below.heap_alloc _ _ _ (by simp), Below.heap_alloc _ _ _ (by simp)]; simpa using heap_alloc_new (w.alloc (.cells #[.slice A e.length ca] 150)) (.cells #[.slice B f.length cb] 150)
 be := by rw [Below.heap_alloc _ _ _ (by simp; omega), Below.heap_alloc _ _ _ (by simp; omega), Below.heap_alloc _ _ _ (by simp)]; simpa using heap_alloc_new w (.cells #[.slice A e.length ca] 150)
 ne1 := by omega
 ne2 := by omega
 ne5 := by omega
 ne6 := by omega
 ne7 := by omega
 li := by omega
 lk := by omega
set_option maxRecDepth 100000 in
set_option maxHeartbeats 1000000 in
theorem expand_plus.calls (q : Nat) (A : Option Addr) (ca : Nat) (e : List Nat) (B : Option Addr) (cb : Nat) (f : List Nat) (r : List Nat) (w : World) (he : Kd.C Kd.f64 w A e.length e) (hca : e.length ≤ ca) (hf : Kd.C Kd.f64 w B f.length f) (hcb : f.length ≤ cb)
 (hsmall : e.length + f.length < 9223372036854775807) (h : expand_plus.f q e f = some r) :
 Calls Tryz.prog 155 #[.slice A e.length ca, .slice B f.length cb] w fun x w' => ∃ v0_ : Value, x = .returned v0_ ∧ Kd.R Kd.f64 69 w' w.heap.size (fun _ => True) v0_ r ∧ Below w.heap.size w w' := by
 have hmf : ∀ (fn : Fn) (first cap : Array Value) (w : World), (Instr.makeFunc fn first cap).run Tryz.prog w = .ok (.func fn first cap) w := fun _ _ _ _ => rfl
 obtain ⟨fin, h1, h2⟩ := Option.bind_eq_some_iff.mp h
 obtain ⟨r', h3, h4⟩ := Option.bind_eq_some_iff.mp h2
 obtain ⟨t, h5, h6⟩ := Option.bind_eq_some_iff.mp h4
 by_cases ct : t = true
 ·subst ct
  rw [if_pos rfl] at h6
  injection h6 with h6
  subst h6
  clear h h2 h4
  go_enter Tryz.func155, Tryz.ntmps155
  have hme := he.2.1
  have hmf' := hf.2.1
  go_wp2_with fail
  go_loopw [8, 15] (fun v x wr => ∃ (n m : Nat), x = .int .i64 n ∧ m + n = e.length + f.length ∧ PlusAt q w wr (w.heap.size + 1 + 1 + 1) (w.heap.size + 1) (w.heap.size + 1 + 1) w.heap.size A B ca cb e f m v fin) (fun _ x _ => e.length + f.length - (intOf x).toNat)
  case atStart => exact ⟨0, _, rfl, rfl, ⟨0, 0, [], Held.start he hca hf hcb, h1, Kd.R_nil _ _ _ _ _⟩⟩
  case round =>
   obtain ⟨n, m, rfl, hnm, ⟨i, k, o, hH, hp, hR⟩⟩ := hrel
   obtain ⟨A', c', rfl, hle, hC⟩ := Kd.R_reads hR
   cases m with
   | succ m =>
    have hlt : decide ((n : Int) < (e.length : Int) + (f.length : Int)) = true := by simp; omega
    obtain ⟨x, i', k', o', ho, hp', hc⟩ := next_any hH hp
    go_wp2_with (first | (go_at_call 190; refine hc.mono ?_; rintro y w1 ⟨rfl, hH1, hR1⟩) | (go_at_call 187; refine (expand_grow.calls q A' c' o x o' _ (Kd.R_reads' (hR1 _ _ hR)).2.2 hle ho).mono ?_; rintro y w2 ⟨v2, rfl, hR2, hb2⟩))
    go_roundw
    case rel => exact ⟨n + 1, m, by go_num, by omega, ⟨i', k', o', hH1.below hb2, hp', Kd.R_lower hR2 hH1.b0.size⟩⟩
    case measure => simp [intOf]; omega
   | zero =>
    have hlt : decide ((n : Int) < (e.length : Int) + (f.length : Int)) = false := by simp; omega
    simp only [plusAt, Option.some.injEq] at hp
    subst hp
    go_wp2_with (first | (go_at_call 189; refine (expand_neat.calls q A' c' o r' _ hC hle h3).mono ?_; rintro y w1 ⟨v1, rfl, hR1, hb1⟩; obtain ⟨A1, c1, rfl, hle1, hC1⟩ := Kd.R_reads hR1) | (go_at_call 188; refine (apart_calls q A1 c1 r' _ hC1 hle1 h5).mono ?_; rintro y w2 ⟨rfl, ⟨nd, rfl⟩⟩))
    go_ret
    exact ⟨_, rfl, Kd.R_drewN (Kd.R_lower hR1 hH.b0.size) _, pw_below_drewN (hH.b0.trans (hb1.mono hH.b0.size)) _⟩
 ·rw [if_neg ct] at h6; cases h6
theorem drop_at {xs : List Nat} {n : Nat} (h : n < xs.length) : xs.drop n = rdOf (0 : Nat) xs n :: xs.drop (n + 1) := by
 rw [List.drop_eq_getElem_cons h]; simp [rdOf, List.getD_eq_getElem?_getD, List.getElem?_eq_getElem h]
def scaleL (q b : Nat) : List Nat → List Nat → Option (List Nat)
 | [], out => some out
 | x :: xs, out => (Eft.eft_Prod.f x b).bind fun pq => (expand_grow.f q out pq.2).bind fun o => (expand_grow.f q o pq.1).bind (scaleL q b xs)
structure RowAt (w0 w : World) (v : Value) (o : List Nat) : Prop where
 row : Kd.R Kd.f64 69 w w0.heap.size (fun _ => True) v o
 bel : Below w0.heap.size w0 w
set_option maxRecDepth 100000 in
set_option maxHeartbeats 1000000 in
theorem scale_calls (q : Nat) (A : Option Addr) (ca : Nat) (e : List Nat) (b : Nat) (r fin : List Nat) (w : World) (he : Kd.C Kd.f64 w A e.length e) (hca : e.length ≤ ca) (hs : expand_Safe.f q e = some true)
 (hb : (FloatKind.f64.format.order b 0 == some .eq) = false) (hw : expand_within.f b 2580562586483294208 6633802251116740608 = some true) (h1 : scaleL q b e [] = some fin) (h2 : closed q fin = some r) :
 Calls Tryz.prog 154 #[.slice A e.length ca, .float .f64 b] w fun x w' => ∃ v0_ : Value, x = .returned (.tuple #[v0_, .bool true]) ∧ Kd.R Kd.f64 69 w' w.heap.size (fun _ => True) v0_ r ∧ Below w.heap.size w w' := by
 obtain ⟨r', h3, h4⟩ := Option.bind_eq_some_iff.mp h2
 obtain ⟨t, h5, h6⟩ := Option.bind_eq_some_iff.mp h4
 by_cases ct : t = true
 ·subst ct
  rw [if_pos rfl] at h6
  injection h6 with h6
  subst h6
  clear h2 h4
  have hb' : (FloatKind.f64.format.order b 0 != some .eq) = true := by unfold bne; rw [hb]; rfl
  have hme := he.2.1
  go_enter Tryz.func154, Tryz.ntmps154
  go_wp2_with (first | (go_at_call 153; refine (expand_Safe.calls q A ca e true _ (by first | exact he | exact Kd.C_drewN he _) hca hs).mono ?_; rintro y w' ⟨rfl, ⟨nd, rfl⟩⟩) | (go_at_call 185; refine (expand_within.calls b _ _ true _ hw).mono ?_; rintro y w' ⟨rfl, ⟨nd, rfl⟩⟩))
  go_loopw [6, 29] (fun v x wr => ∃ (n : Nat) (o : List Nat), x = .int .i64 n ∧ n ≤ e.length ∧ RowAt w wr v o ∧ scaleL q b (e.drop n) o = some fin) (fun _ x _ => e.length - (intOf x).toNat)
  case atStart => exact ⟨0, [], rfl, Nat.zero_le _, ⟨Kd.R_nil _ _ _ _ _, pw_below_drewN (Below.refl _ _) _⟩, h1⟩
  case round =>
   obtain ⟨n, o, rfl, hn, ⟨hR, hB⟩, hp⟩ := hrel
   obtain ⟨A', c', rfl, hle, hC⟩ := Kd.R_reads hR
   by_cases hlt : n < e.length
   ·have d1 : decide ((n : Int) < (e.length : Int)) = true := by simp; omega
    have d2 : decide (n < e.length) = true := by simp; omega
    have d3 : decide ((0 : Int) ≤ n) = true := by simp
    rw [drop_at hlt] at hp
    obtain ⟨⟨p1, p2⟩, hp1, hp⟩ := Option.bind_eq_some_iff.mp hp
    obtain ⟨o1, hp2, hp⟩ := Option.bind_eq_some_iff.mp hp
    obtain ⟨o2, hp3, hp⟩ := Option.bind_eq_some_iff.mp hp
    obtain ⟨ad, rfl, hx⟩ := Kd.at_f64 (Kd.C_below he hB) n (by omega) (by omega)
    rw [Int.toNat_natCast] at hx
    go_wp2_with (first | (go_at_call 186; (with_reducible refine (Eft.eft_Prod.calls (rdOf (0 : Nat) e n) b p1 p2 _ hp1).mono ?_); rintro y w1 ⟨rfl, hb1⟩) | (go_at_call 187; first | ((with_reducible refine (expand_grow.calls q A' c' o p2 o1 _ (Kd.C_below hC hb1) hle hp2).mono ?_); rintro y w2 ⟨v2, rfl, hR2, hb2⟩; obtain ⟨A2, c2, rfl, hle2, hC2⟩ := Kd.R_reads hR2) | ((with_reducible refine (expand_grow.calls q A2 c2 o1 p1 o2 _ hC2 hle2 hp3).mono ?_); rintro y w3 ⟨v3, rfl, hR3, hb3⟩)))
    have hB1 := hB.trans (hb1.mono hB.size)
    have hB2 := hB1.trans (hb2.mono hB1.size)
    have hB3 := hB2.trans (hb3.mono hB2.size)
    go_roundw
    case rel => exact ⟨n + 1, o2, by go_num, by omega, ⟨Kd.R_lower hR3 hB2.size, hB3⟩, hp⟩
    case measure => simp [intOf]; omega
   ·have d1 : decide ((n : Int) < (e.length : Int)) = false := by simp; omega
    have d2 : decide (n < e.length) = false := by simp; omega
    rw [List.drop_eq_nil_of_le (by omega)] at hp
    simp only [scaleL, Option.some.injEq] at hp
    subst hp
    go_wp2_with (first | (go_at_call 189; refine (expand_neat.calls q A' c' o r' _ hC hle h3).mono ?_; rintro y w1 ⟨v1, rfl, hR1, hb1⟩; obtain ⟨A1, c1, rfl, hle1, hC1⟩ := Kd.R_reads hR1) | (go_at_call 188; refine (apart_calls q A1 c1 r' _ hC1 hle1 h5).mono ?_; rintro y w2 ⟨rfl, ⟨nd, rfl⟩⟩))
    go_ret2
    exact ⟨_, rfl, Kd.R_drewN (Kd.R_lower hR1 hB.size) _, pw_below_drewN (hB.trans (hb1.mono hB.size)) _⟩
 ·rw [if_neg ct] at h6; cases h6
def expand_Scale.f (q : Nat) (e : List Nat) (b : Nat) : Option (List Nat) := if (FloatKind.f64.format.order b 0 == some .eq) = false ∧ expand_within.f b 2580562586483294208 6633802251116740608 = some true then (scaleL q b e []).bind (closed q) else none
def mulL (q : Nat) (e : List Nat) : List Nat → List Nat → Option (List Nat)
 | [], out => some out
 | b :: bs, out => (expand_Scale.f q e b).bind fun p => if out.length + p.length < 9223372036854775807 then (expand_plus.f q out p).bind (mulL q e bs) else none
set_option maxRecDepth 100000 in
set_option maxHeartbeats 1000000 in
theorem mul_calls (q : Nat) (A : Option Addr) (ca : Nat) (e : List Nat) (B : Option Addr) (cb : Nat) (f : List Nat) (r : List Nat) (w : World) (he : Kd.C Kd.f64 w A e.length e) (hca : e.length ≤ ca) (hf : Kd.C Kd.f64 w B f.length f) (hcb : f.length ≤ cb)
 (hs : expand_Safe.f q e = some true) (ht : expand_Safe.f q f = some true) (h : mulL q e f [] = some r) :
 Calls Tryz.prog 119 #[.slice A e.length ca, .slice B f.length cb] w fun x w' => ∃ v0_ : Value, x = .returned (.tuple #[v0_, .bool true]) ∧ Kd.R Kd.f64 69 w' w.heap.size (fun _ => True) v0_ r ∧ Below w.heap.size w w' := by
 have hme := hf.2.1
 go_enter Tryz.func119, Tryz.ntmps119
 go_wp2_with (go_at_call 153; first | ((with_reducible refine (expand_Safe.calls q A ca e true _ (by first | exact he | exact Kd.C_drewN he _) hca hs).mono ?_); rintro y w' ⟨rfl, ⟨nd, rfl⟩⟩) | ((with_reducible refine (expand_Safe.calls q B cb f true _ (by first | exact hf | exact Kd.C_drewN hf _) hcb ht).mono ?_); rintro y w' ⟨rfl, ⟨nd, rfl⟩⟩))
 go_loopw [6, 21] (fun v x wr => ∃ (n : Nat) (o : List Nat), x = .int .i64 n ∧ n ≤ f.length ∧ RowAt w wr v o ∧ mulL q e (f.drop n) o = some r) (fun _ x _ => f.length - (intOf x).toNat)
 case atStart => exact ⟨0, [], rfl, Nat.zero_le _, ⟨Kd.R_nil _ _ _ _ _, by repeat (first | exact Below.refl _ _ | apply pw_below_drewN)⟩, h⟩
 case round =>
  obtain ⟨n, o, rfl, hn, ⟨hR, hB⟩, hp⟩ := hrel
  obtain ⟨A', c', rfl, hle, hC⟩ := Kd.R_reads hR
  by_cases hlt : n < f.length
  ·have d1 : decide ((n : Int) < (f.length : Int)) = true := by simp; omega
   have d2 : decide (n < f.length) = true := by simp; omega
   have d3 : decide ((0 : Int) ≤ n) = true := by simp
   rw [drop_at hlt] at hp
   obtain ⟨p, hp1, hp⟩ := Option.bind_eq_some_iff.mp hp
   by_cases hsm : o.length + p.length < 9223372036854775807
   ·rw [if_pos hsm] at hp
    obtain ⟨o1, hp2, hp⟩ := Option.bind_eq_some_iff.mp hp
    unfold expand_Scale.f at hp1
    by_cases hc1 : (FloatKind.f64.format.order (rdOf (0 : Nat) f n) 0 == some .eq) = false ∧ expand_within.f (rdOf (0 : Nat) f n) 2580562586483294208 6633802251116740608 = some true
    ·rw [if_pos hc1] at hp1
     obtain ⟨fin, hp3, hp4⟩ := Option.bind_eq_some_iff.mp hp1
     obtain ⟨ad, hBe, hx⟩ := Kd.at_f64 (Kd.C_below hf hB) n (by omega) (by omega)
     rw [Int.toNat_natCast] at hx
     have HSC := fun w1 hc => scale_calls q A ca e (rdOf (0 : Nat) f n) p fin w1 hc hca hs hc1.1 hc1.2 hp3 hp4
     clear hp1 hp3 hp4 hc1
     subst hBe
     go_wp2_with (first | (go_at_call 154; (with_reducible refine (HSC _ (Kd.C_below he hB)).mono ?_); rintro y w1 ⟨v1, rfl, hR1, hb1⟩; obtain ⟨A1, c1, rfl, hle1, hC1⟩ := Kd.R_reads hR1) | (go_at_call 155; (with_reducible refine (expand_plus.calls q A' c' o A1 c1 p o1 _ (Kd.C_below hC hb1) hle hC1 hle1 hsm hp2).mono ?_); rintro y w2 ⟨v2, rfl, hR2, hb2⟩))
     have hB1 := hB.trans (hb1.mono hB.size)
     have hB2 := hB1.trans (hb2.mono hB1.size)
     go_roundw
     case rel => exact ⟨n + 1, o1, by go_num, by omega, ⟨Kd.R_lower hR2 hB1.size, hB2⟩, hp⟩
     case measure => simp [intOf]; omega
    ·rw [if_neg hc1] at hp1; cases hp1
   ·rw [if_neg hsm] at hp; cases hp
  ·have d1 : decide ((n : Int) < (f.length : Int)) = false := by simp; omega
   have d2 : decide (n < f.length) = false := by simp; omega
   rw [List.drop_eq_nil_of_le (by omega)] at hp
   simp only [mulL, Option.some.injEq] at hp
   subst hp
   go_wp2
   go_ret2
   exact ⟨_, rfl, hR, hB⟩
def expand_Cmp.f (q : Nat) (e f : List Nat) : Option Int := (expand_Neg.f q f).bind fun g => if e.length + g.length < 9223372036854775807 then (expand_plus.f q e g).bind (expand_Sign.f q) else none
set_option maxRecDepth 100000 in
set_option maxHeartbeats 1000000 in
theorem cmp_calls (q : Nat) (A : Option Addr) (ca : Nat) (e : List Nat) (B : Option Addr) (cb : Nat) (f : List Nat) (r : Int) (w : World) (he : Kd.C Kd.f64 w A e.length e) (hca : e.length ≤ ca) (hf : Kd.C Kd.f64 w B f.length f) (hcb : f.length ≤ cb)
 (hs : expand_Check.f q e = some true) (ht : expand_Check.f q f = some true) (h : expand_Cmp.f q e f = some r) :
 Calls Tryz.prog 120 #[.slice A e.length ca, .slice B f.length cb] w fun x w' => x = .returned (.int .i64 r) ∧ Below w.heap.size w w' := by
 obtain ⟨g, h1, h2⟩ := Option.bind_eq_some_iff.mp h
 by_cases hsm : e.length + g.length < 9223372036854775807
 ·rw [if_pos hsm] at h2
  obtain ⟨s, h3, h4⟩ := Option.bind_eq_some_iff.mp h2
  clear h2 h
  go_enter Tryz.func120, Tryz.ntmps120
  go_wp2_with (first | (go_at_call 156; first | ((with_reducible refine (expand_Check.calls q A ca e true _ (by first | exact he | exact Kd.C_drewN he _) hca hs).mono ?_); rintro y w' ⟨rfl, ⟨nd, rfl⟩⟩) | ((with_reducible refine (expand_Check.calls q B cb f true _ (by first | exact hf | exact Kd.C_drewN hf _) hcb ht).mono ?_); rintro y w' ⟨rfl, ⟨ne, rfl⟩⟩)) | (go_at_call 158; (with_reducible refine (expand_Neg.calls q B cb f g _ (by first | exact hf | exact Kd.C_drewN hf _ | exact Kd.C_drewN (Kd.C_drewN hf _) _) hcb h1).mono ?_); rintro y w1 ⟨v1, rfl, hR1, hb1⟩; obtain ⟨A1, c1, rfl, hle1, hC1⟩ := Kd.R_reads hR1) | (go_at_call 155; (with_reducible refine (expand_plus.calls q A ca e A1 c1 g s _ (Kd.C_below (by first | exact he | exact Kd.C_drewN he _ | exact Kd.C_drewN (Kd.C_drewN he _) _) hb1) hca hC1 hle1 hsm h3).mono ?_); rintro y w2 ⟨v2, rfl, hR2, hb2⟩; obtain ⟨A2, c2, rfl, hle2, hC2⟩ := Kd.R_reads hR2) | (go_at_call 157; (with_reducible refine (expand_Sign.calls q A2 c2 s r _ hC2 hle2 h4).mono ?_); rintro y w3 ⟨rfl, hd3⟩))
  go_ret
  have hB1 : Below w.heap.size w w1 := (pw_below_drewN (Below.refl w.heap.size w) (nd + ne)).trans hb1
  have hB2 := hB1.trans (hb2.mono hB1.size)
  exact ⟨rfl, hB2.trans (hd3.below.mono hB2.size)⟩
 ·rw [if_neg hsm] at h2; cases h2
end Go.Proofs.YtaoichlepfiliaaGreatDoor.Exp
