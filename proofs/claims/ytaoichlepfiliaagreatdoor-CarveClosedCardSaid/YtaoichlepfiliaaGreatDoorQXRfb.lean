/- Lemmas of Rfb. Conditions stand in each. -/
import Derived.Test.YtaoichlepfiliaaGreatDoorQXMdH
import Derived.Test.YtaoichlepfiliaaGreatDoorQXMda
import Derived.Test.YtaoichlepfiliaaGreatDoorQXMdb
import Derived.Test.YtaoichlepfiliaaGreatDoorQXMce
set_option linter.unusedSimpArgs false
set_option linter.unusedVariables false
section
namespace Go.Proofs.YtaoichlepfiliaaGreatDoor.Msh
open Go.RowKit Go.Sort Go.ChangeMaps Go.MapKept Go.Proofs.YtaoichlepfiliaaGreatDoor.Mp Go.Proofs.YtaoichlepfiliaaGreatDoor.Adm Go.Proofs.YtaoichlepfiliaaGreatDoor.Kfl Go.Proofs.YtaoichlepfiliaaGreatDoor.R Go.Proofs.YtaoichlepfiliaaGreatDoor.E Go.Proofs.YtaoichlepfiliaaGreatDoorW.PrintWords Go.Proofs.YtaoichlepfiliaaGreatDoorW.PrintLast
structure RefIn (w : World) (xb : Nat) (A : Option Addr) (c : Nat) (vT vF : Value) (l : List S) (T F : List Tr) (X : Nat → Prop) : Prop where
 blk : w.heap[xb]? = some (.cells #[.slice A l.length c, vT, vF] 43 (0, 0))
 pts : Kd.R k71 71 w 0 X (.slice A l.length c) l
 tri : kTr.R 53 w 0 X vT T
 seg : kTr.R 78 w 0 X vF F
 mine : X xb
 old : ∀ k, X k → k < w.heap.size
 good : (∀ x ∈ l, gp x = true) ∧ l.length ≤ 1048576
def RefAt (w : World) (xb : Nat) (l : List S) (T F : List Tr) (X : Nat → Prop) : Prop := ∃ A c vT vF, RefIn w xb A c vT vF l T F X
section
variable {w w' : World} {xb : Nat} {l : List S} {T F : List Tr} {X : Nat → Prop}
theorem RefAt.move (h : RefAt w xb l T F X) (hs : w.heap.size ≤ w'.heap.size) (hm : ∀ k, X k → w'.heap[k]? = w.heap[k]?) : RefAt w' xb l T F X := by
 obtain ⟨A, c, vT, vF, h⟩ := h
 exact ⟨A, c, vT, vF, (hm xb h.mine).trans h.blk, Kd.R_move h.pts hm, Kd.R_move h.tri hm, Kd.R_move h.seg hm, h.mine, fun k hk => Nat.lt_of_lt_of_le (h.old k hk) hs, h.good⟩
theorem RefAt.old (h : RefAt w xb l T F X) : ∀ k, X k → k < w.heap.size := by
 obtain ⟨A, c, vT, vF, h⟩ := h
 exact h.old
theorem RefAt.below (h : RefAt w xb l T F X) (hb : Below w.heap.size w w') : RefAt w' xb l T F X := h.move hb.size (fun k hk => hb.block k (h.old k hk))
theorem RefAt.fr {M : Nat → Prop} (h : RefAt w xb l T F X) (hb : Fr M w w') (hd : ∀ k, X k → ¬ M k) : RefAt w' xb l T F X := h.move hb.size (fun k hk => hb.block k (h.old k hk) (hd k hk))
theorem rhas_call (h : RefAt w xb l T F X) (i : Int) : Calls Tryz.prog 69 #[ptr xb, .int .i64 i] w fun e w' => e = .returned (.bool (hasN l i)) ∧ w = w' := by
 obtain ⟨A, c, vT, vF, h⟩ := h
 have h0 : w.cell? ⟨xb, 0, none⟩ = some (.slice A l.length c) := by rw [blk_cell h.blk]; rfl
 clear h
 unfold hasN
 by_cases g0 : 0 ≤ i
 ·have e0 : decide (0 ≤ i) = true := decide_eq_true g0
  have e1 : decide (0 ≤ i ∧ i < l.length) = decide (i < (l.length : Int)) := by simp [g0]
  rw [e1]
  go_enter Tryz.func69, Tryz.ntmps69
  go_wp2
  go_ret
  exact ⟨rfl, rfl⟩
 ·have e0 : decide (0 ≤ i) = false := decide_eq_false g0
  have e1 : decide (0 ≤ i ∧ i < l.length) = false := by simp; omega
  rw [e1]
  go_enter Tryz.func69, Tryz.ntmps69
  go_wp2
  go_ret
  exact ⟨rfl, rfl⟩
end
theorem behind_at {T : List Tr} {a b c : Int} {i : Nat} (hi : i < T.length) (h0 : (T.take i).findSome? (third a b) = none) (h : third a b T[i] = some c) : behind T a b = some c := by
 have e : T = T.take i ++ T[i] :: T.drop (i + 1) := by rw [← List.drop_eq_getElem_cons hi, List.take_append_drop]
 have e2 : behind T a b = (T.take i ++ T[i] :: T.drop (i + 1)).findSome? (third a b) := congrArg (fun L => List.findSome? (third a b) L) e
 rw [e2, List.findSome?_append, h0, List.findSome?_cons, h]
 rfl
theorem behind_on {T : List Tr} {a b : Int} {i : Nat} (hi : i < T.length) (h0 : (T.take i).findSome? (third a b) = none) (h : third a b T[i] = none) : (T.take (i + 1)).findSome? (third a b) = none := by
 rw [List.take_succ_eq_append_getElem hi, List.findSome?_append, h0, List.findSome?_cons, h]
 rfl
theorem third_0 {a b x y z : Int} (h : x = a ∧ y = b) : third a b (x, y, z) = some z := by unfold third; rw [if_pos h]
theorem third_1 {a b x y z : Int} (h : ¬ (x = a ∧ y = b)) (h1 : y = a ∧ z = b) : third a b (x, y, z) = some x := by unfold third; rw [if_neg h, if_pos h1]
theorem third_2 {a b x y z : Int} (h : ¬ (x = a ∧ y = b)) (h1 : ¬ (y = a ∧ z = b)) (h2 : z = a ∧ x = b) : third a b (x, y, z) = some y := by unfold third; rw [if_neg h, if_neg h1, if_pos h2]
theorem third_3 {a b x y z : Int} (h : ¬ (x = a ∧ y = b)) (h1 : ¬ (y = a ∧ z = b)) (h2 : ¬ (z = a ∧ x = b)) : third a b (x, y, z) = none := by unfold third; rw [if_neg h, if_neg h1, if_neg h2]
section
variable {w w' : World} {xb : Nat} {l : List S} {T F : List Tr} {X : Nat → Prop}
set_option maxRecDepth 100000 in
set_option maxHeartbeats 8000000 in
theorem rapex_call (h : RefAt w xb l T F X) (hz : T.length ≤ 1000000) (a b : Int) : Calls Tryz.prog 71 #[ptr xb, .int .i64 a, .int .i64 b] w fun e w' => e = .returned (.tuple #[.int .i64 ((behind T a b).getD 0), .bool (behind T a b).isSome]) ∧ w = w' := by
 obtain ⟨A, c, vT, vF, h⟩ := h
 obtain ⟨A2, c2, rfl, -, hC⟩ := Kd.R_reads h.tri
 have h0 : w.cell? ⟨xb, 1, none⟩ = some (.slice A2 T.length c2) := by rw [blk_cell h.blk]; rfl
 clear h
 go_enter Tryz.func71, Tryz.ntmps71
 go_wp2
 go_loopw [8] (fun v8 wr => ∃ i : Nat, v8 = .int .i64 i ∧ i ≤ T.length ∧ w = wr ∧ Aside0 ((T.take i).findSome? (third a b) = none)) (fun v8 _ => T.length - (intOf v8).toNat)
 case atStart => exact ⟨0, rfl, Nat.zero_le _, rfl, ⟨by simp⟩⟩
 case round =>
  obtain ⟨i, rfl, hi, rfl, HF⟩ := hrel
  by_cases hlt : i < T.length
  ·obtain ⟨ad, rfl, x0, x1, x2⟩ := at_tr hC hlt hlt
   have d1 : decide ((i : Int) < (T.length : Int)) = true := by simp; omega
   have d2 : decide (i < T.length) = true := decide_eq_true hlt
   have i1 : IntKind.i64.wrap ((i : Int) + 1) = (i : Int) + 1 := wrapN (by omega) (by omega)
   have HON := Aside0.mk (fun (h : third a b T[i] = none) => behind_on hlt HF.out h)
   have HAT := Aside0.mk (fun (c : Int) (h : third a b T[i] = some c) => behind_at hlt HF.out h)
   clear HF
   generalize T[i] = t at *
   obtain ⟨x, y, z⟩ := t
   simp only at x0 x1 x2
   go_wp2
   go_loopw [9] (fun v9 wr => ∃ k : Nat, k ≤ 3 ∧ v9 = .int .i64 k ∧ w = wr ∧ Aside0 ((0 < k → ¬ (x = a ∧ y = b)) ∧ (1 < k → ¬ (y = a ∧ z = b)) ∧ (2 < k → ¬ (z = a ∧ x = b)))) (fun v9 _ => 3 - (intOf v9).toNat)
   case atStart => exact ⟨0, by omega, rfl, rfl, ⟨by omega, by omega, by omega⟩⟩
   case round =>
    obtain ⟨k, hk, rfl, rfl, HK⟩ := hrel
    rcases (show k = 0 ∨ k = 1 ∨ k = 2 ∨ k = 3 by omega) with rfl | rfl | rfl | rfl
    ·have j1 : IntKind.i64.wrap 1 = 1 := by decide
     have j2 : IntKind.i64.wrap 2 = 2 := by decide
     have j3 : IntKind.i64.wrap 3 = 3 := by decide
     have j4 : IntKind.i64.wrap 4 = 4 := by decide
     by_cases e1 : x = a
     ·have c1 : decide (x = a) = true := decide_eq_true e1
      have c2 : (x == a) = true := by simpa using e1
      by_cases e2 : y = b
      ·have c3 : decide (y = b) = true := decide_eq_true e2
       have c4 : (y == b) = true := by simpa using e2
       have HQ := Aside0.mk (And.intro e1 e2)
       clear e1 e2
       go_wp2
       go_ret2
       rw [HAT.out _ (third_0 (HQ.out))]
       exact ⟨rfl, rfl⟩
      ·have c3 : decide (y = b) = false := decide_eq_false e2
       have c4 : (y == b) = false := by simpa using e2
       have HQ : Aside0 (¬ (x = a ∧ y = b)) := ⟨fun h => e2 h.2⟩
       clear e1 e2
       go_wp2
       go_roundw
       case rel => exact ⟨1, by omega, rfl, trivial, ⟨fun _ => HQ.out, fun h => by omega, fun h => by omega⟩⟩
       case measure => simp [intOf]
     ·have c1 : decide (x = a) = false := decide_eq_false e1
      have c2 : (x == a) = false := by simpa using e1
      have HQ : Aside0 (¬ (x = a ∧ y = b)) := ⟨fun h => e1 h.1⟩
      clear e1
      go_wp2
      go_roundw
      case rel => exact ⟨1, by omega, rfl, trivial, ⟨fun _ => HQ.out, fun h => by omega, fun h => by omega⟩⟩
      case measure => simp [intOf]
    ·have j1 : IntKind.i64.wrap 1 = 1 := by decide
     have j2 : IntKind.i64.wrap 2 = 2 := by decide
     have j3 : IntKind.i64.wrap 3 = 3 := by decide
     have j4 : IntKind.i64.wrap 4 = 4 := by decide
     by_cases e1 : y = a
     ·have c1 : decide (y = a) = true := decide_eq_true e1
      have c2 : (y == a) = true := by simpa using e1
      by_cases e2 : z = b
      ·have c3 : decide (z = b) = true := decide_eq_true e2
       have c4 : (z == b) = true := by simpa using e2
       have HQ := Aside0.mk (And.intro e1 e2)
       clear e1 e2
       go_wp2
       go_ret2
       rw [HAT.out _ (third_1 (HK.out.1 (by omega)) HQ.out)]
       exact ⟨rfl, rfl⟩
      ·have c3 : decide (z = b) = false := decide_eq_false e2
       have c4 : (z == b) = false := by simpa using e2
       have HQ : Aside0 (¬ (y = a ∧ z = b)) := ⟨fun h => e2 h.2⟩
       clear e1 e2
       go_wp2
       go_roundw
       case rel => exact ⟨2, by omega, rfl, trivial, ⟨fun _ => HK.out.1 (by omega), fun _ => HQ.out, fun h => by omega⟩⟩
       case measure => simp [intOf]
     ·have c1 : decide (y = a) = false := decide_eq_false e1
      have c2 : (y == a) = false := by simpa using e1
      have HQ : Aside0 (¬ (y = a ∧ z = b)) := ⟨fun h => e1 h.1⟩
      clear e1
      go_wp2
      go_roundw
      case rel => exact ⟨2, by omega, rfl, trivial, ⟨fun _ => HK.out.1 (by omega), fun _ => HQ.out, fun h => by omega⟩⟩
      case measure => simp [intOf]
    ·have j1 : IntKind.i64.wrap 1 = 1 := by decide
     have j2 : IntKind.i64.wrap 2 = 2 := by decide
     have j3 : IntKind.i64.wrap 3 = 3 := by decide
     have j4 : IntKind.i64.wrap 4 = 4 := by decide
     by_cases e1 : z = a
     ·have c1 : decide (z = a) = true := decide_eq_true e1
      have c2 : (z == a) = true := by simpa using e1
      by_cases e2 : x = b
      ·have c3 : decide (x = b) = true := decide_eq_true e2
       have c4 : (x == b) = true := by simpa using e2
       have HQ := Aside0.mk (And.intro e1 e2)
       clear e1 e2
       go_wp2
       go_ret2
       rw [HAT.out _ (third_2 (HK.out.1 (by omega)) (HK.out.2.1 (by omega)) HQ.out)]
       exact ⟨rfl, rfl⟩
      ·have c3 : decide (x = b) = false := decide_eq_false e2
       have c4 : (x == b) = false := by simpa using e2
       have HQ : Aside0 (¬ (z = a ∧ x = b)) := ⟨fun h => e2 h.2⟩
       clear e1 e2
       go_wp2
       go_roundw
       case rel => exact ⟨3, by omega, rfl, trivial, ⟨fun _ => HK.out.1 (by omega), fun _ => HK.out.2.1 (by omega), fun _ => HQ.out⟩⟩
       case measure => simp [intOf]
     ·have c1 : decide (z = a) = false := decide_eq_false e1
      have c2 : (z == a) = false := by simpa using e1
      have HQ : Aside0 (¬ (z = a ∧ x = b)) := ⟨fun h => e1 h.1⟩
      clear e1
      go_wp2
      go_roundw
      case rel => exact ⟨3, by omega, rfl, trivial, ⟨fun _ => HK.out.1 (by omega), fun _ => HK.out.2.1 (by omega), fun _ => HQ.out⟩⟩
      case measure => simp [intOf]
    ·have HT := Aside0.mk (HON.out (third_3 (HK.out.1 (by omega)) (HK.out.2.1 (by omega)) (HK.out.2.2 (by omega))))
     go_wp2
     go_roundw
     case rel => exact ⟨i + 1, by simp, by omega, trivial, HT⟩
     case measure => simp [intOf]; omega
  ·have d1 : decide ((i : Int) < (T.length : Int)) = false := by simp; omega
   have d2 : decide (i < T.length) = false := decide_eq_false hlt
   have e : behind T a b = none := by have := HF.out; rwa [List.take_of_length_le (by omega)] at this
   have HQ := Aside0.mk e
   clear e
   go_wp2
   go_ret2
   rw [HQ.out]
   exact ⟨rfl, rfl⟩
end
theorem cut_hi {ts e : TypeId} {z : Value} {size bytes : Nat} (ht : Tryz.prog.underlying ts = some (.slice e)) (hinfo : (Tryz.prog.info? e).map (fun i => (i.zero, i.size, i.bytes)) = some (some z, size, bytes)) (A : Option Addr) (n c j : Nat) (h : j ≤ n) (hc : n ≤ c) : ∀ W : World, (Instr.slice ts (.slice A n c) none (some (.int .i64 (j : Int))) none).run Tryz.prog W = .ok (.slice A j c) W := by
 intro W
 obtain ⟨i0, hi, hz0, hz1, hz2⟩ := info_parts hinfo
 have hel : Tryz.prog.elem ts = e := by simp [Program.elem, ht]
 have hu : Tryz.prog.underlying ts = some (.slice (Tryz.prog.elem ts)) := by rw [hel]; exact ht
 rw [run_slice_h W ts A n c hu .i64 j (by omega) (by omega), hel]
 have ha : A.map (fun x => x.add 0) = A := by cases A <;> simp [Addr.add]
 simp [sizeOf, typeInfo, hi, sliced, Result.andThen, ha]
theorem cut_lo {ts e : TypeId} {z : Value} {size bytes : Nat} (ht : Tryz.prog.underlying ts = some (.slice e)) (hinfo : (Tryz.prog.info? e).map (fun i => (i.zero, i.size, i.bytes)) = some (some z, size, bytes)) (A : Option Addr) (n c j : Nat) (h : j ≤ n) (hc : n ≤ c) : ∀ W : World, (Instr.slice ts (.slice A n c) (some (.int .i64 (j : Int))) none none).run Tryz.prog W = .ok (.slice (if c = j then A else A.map (·.add (j * size))) (n - j) (c - j)) W := by
 intro W
 obtain ⟨i0, hi, hz0, hz1, hz2⟩ := info_parts hinfo
 have hel : Tryz.prog.elem ts = e := by simp [Program.elem, ht]
 have hu : Tryz.prog.underlying ts = some (.slice (Tryz.prog.elem ts)) := by rw [hel]; exact ht
 rw [run_slice_l W ts A n c hu .i64 j (by omega) (by omega), hel]
 simp [sizeOf, typeInfo, hi, hz1, sliced, Result.andThen]
theorem cut_parts {α : Type} {d : Kd α} {w : World} {A : Option Addr} {c j : Nat} {xs : List α} (h : Kd.C d w A xs.length xs) (hj : j ≤ xs.length) (hc : xs.length ≤ c) :
 Kd.C d w A j (xs.take j) ∧ ∃ A2, A2 = (if c = j then A else A.map (·.add (j * d.sz))) ∧ Kd.C d w A2 (xs.length - j) (xs.drop j) := by
 have h1 := Kd.C_take (m := j) h hj
 have h2 := Kd.C_drop (m := j) (c := c) h hj hc
 rw [List.length_take, Nat.min_eq_left hj] at h1
 rw [List.length_drop] at h2
 exact ⟨h1, _, rfl, h2⟩
section
variable {ops : Array Oper} {rest : List Oper} {o : Oper} {a : Act} {Q : Exit → Act → World → Prop}
theorem wp_addB {α : Type} {d : Kd α} {enc : α → List Value} (F : Flat d enc) {W w0 : World} {base : Nat} (hgd : o.guard = none) (s x : Operand) (t e : TypeId) (z : Value) (bytes : Nat)
 (ho : o.op = .call { callee := .builtin .append, args := #[s, x], argTypes := #[t, t] }) (ht : Tryz.prog.underlying t = some (.slice e)) (hinfo : (Tryz.prog.info? e).map (fun i => (i.zero, i.size, i.bytes)) = some (some z, d.sz, bytes)) (hz : z.cells.size = d.sz) (hs0 : 0 < d.sz) (hb0 : 0 < bytes)
 {v : Value} {xs : List α} (p : α) {cs : Array Value} (hs : a.eval s = v) (hx : a.eval x = .slice (some ⟨W.heap.size, 0, none⟩) 1 1) (hcs : cs = (enc p).toArray) (HO : d.R e W base anyB v xs) (HB : Below base w0 W) (hbase : base ≤ W.heap.size) (hl : (xs.length + 1) * bytes ≤ 140737488355328)
 (h : ∀ v1 w1, d.R e w1 base anyB v1 (xs ++ [p]) → Below base w0 w1 → wpList Tryz.prog ops Q rest (a.put o.dst v1) w1) : wpList Tryz.prog ops Q (o :: rest) a (W.alloc (.cells cs e)) :=
 wp_add1 F hgd s x t e z bytes ho ht hinfo hz hs0 hb0 p hs hx hcs HO hbase hl fun v1 w1 h1 h2 => h v1 w1 h1 (HB.trans (grown_below h2 (fun q hq => ((LRow.of_own (t := true) (F.row.mp HO).2).lt q hq).1) hbase))
end
end Go.Proofs.YtaoichlepfiliaaGreatDoor.Msh
end
