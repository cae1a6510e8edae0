/- Lemmas of Rfc. Conditions stand in each. -/
import Derived.Test.YtaoichlepfiliaaGreatDoorQWMdC
import Derived.Test.YtaoichlepfiliaaGreatDoorQWMda
import Derived.Test.YtaoichlepfiliaaGreatDoorQWMdb
import Derived.Test.YtaoichlepfiliaaGreatDoorQWMce
import Derived.Test.YtaoichlepfiliaaGreatDoorQWAdm
import Derived.Test.YtaoichlepfiliaaGreatDoorQWMcj
set_option linter.unusedSimpArgs false
set_option linter.unusedVariables false
section
namespace Go.Proofs.YtaoichlepfiliaaGreatDoor.Msh
open Go.RowKit Go.Sort Go.ChangeMaps Go.MapKept Go.Proofs.YtaoichlepfiliaaGreatDoor.Mp Go.Proofs.YtaoichlepfiliaaGreatDoor.Adm Go.Proofs.YtaoichlepfiliaaGreatDoor.Kfl Go.Proofs.YtaoichlepfiliaaGreatDoor.R Go.Proofs.YtaoichlepfiliaaGreatDoor.E Go.Proofs.YtaoichlepfiliaaGreatDoorW.PrintWords Go.Proofs.YtaoichlepfiliaaGreatDoorW.PrintLast
theorem cut_hi {ts e : TypeId} {z : Value} {size bytes : Nat} (ht : Tryz.prog.underlying ts = some (.slice e)) (hinfo : (Tryz.prog.info? e).map (fun i => (i.zero, i.size, i.bytes)) = some (some z, size, bytes)) (A : Option Addr) (n c j : Nat) (h : j ≤ n) (hc : n ≤ c) : ∀ W : World, (Instr.slice ts (.slice A n c) none (some (.int .i64 (j : Int))) none).run Tryz.prog W = .ok (.slice A j c) W := by
 intro W
 obtain ⟨i0, hi, hz0, hz1, hz2⟩ := info_parts hinfo
 have hel : Tryz.prog.elem ts = e := by simp [Program.elem, ht]
 have hu : Tryz.prog.underlying ts = some (.slice (Tryz.prog.elem ts)) := by rw [hel]; exact ht
 rw [run_slice_h W ts A n c hu .i64 j (by omega) (by omega), hel]
 have ha : A.map (fun x => x.add 0) = A := by cases A <;> simp [Addr.add]
 simp [sizeOf, typeInfo, hi, sliced, Result.andThen, ha]
theorem cut_lo {ts e : TypeId} {z : Value} {size bytes : Nat} (ht : Tryz.prog.underlying ts = some (.slice e)) (hinfo : (Tryz.prog.info? e).map (fun i => (i.zero, i.size, i.bytes)) = some (some z, size, bytes)) (A : Option Addr) (n c j : Nat) (h : j ≤ n) (hc : n ≤ c) : ∀ W : World, (Instr.slice ts (.slice A n c) (some (.int .i64 (j : Int))) none none).run Tryz.prog W = .ok (.slice (if c = j then A else A.map (·.add (j * size))) (n - j) (c - j)) W := by
 intro W
 obtain ⟨i0, hi, hz0, hz1, hz2⟩ := info_parts hinfo
 have hel : Tryz.prog.elem ts = e := by simp [Program.elem, ht]
 have hu : Tryz.prog.underlying ts = some (.slice (Tryz.prog.elem ts)) := by rw [hel]; exact ht
 rw [run_slice_l W ts A n c hu .i64 j (by omega) (by omega), hel]
 simp [sizeOf, typeInfo, hi, hz1, sliced, Result.andThen]
theorem cut_parts {α : Type} {d : Kd α} {w : World} {A : Option Addr} {c j : Nat} {xs : List α} (h : Kd.C d w A xs.length xs) (hj : j ≤ xs.length) (hc : xs.length ≤ c) :
 Kd.C d w A j (xs.take j) ∧ ∃ A2, A2 = (if c = j then A else A.map (·.add (j * d.sz))) ∧ Kd.C d w A2 (xs.length - j) (xs.drop j) := by
 have h1 := Kd.C_take (m := j) h hj
 have h2 := Kd.C_drop (m := j) (c := c) h hj hc
 rw [List.length_take, Nat.min_eq_left hj] at h1
 rw [List.length_drop] at h2
 exact ⟨h1, _, rfl, h2⟩
set_option maxRecDepth 100000 in
set_option maxHeartbeats 4000000 in
theorem rown_call (t : Tr) (w : World) : Calls Tryz.prog 24 #[encT t] w fun e w' => e = .returned (encT (own t)) ∧ Gr w w' := by
 unfold encT
 have HS : Aside0 (Turn w ((w.alloc (.cells #[.int .i64 t.1, .int .i64 t.2.1, .int .i64 t.2.2] 53)).alloc (.cells #[.int .i64 0, .int .i64 0, .int .i64 0] 53)) t 0) := ⟨by omega, by omega, blk_alloc (blk_new _ _) _, by have := blk_new (w.alloc (.cells #[.int .i64 t.1, .int .i64 t.2.1, .int .i64 t.2.2] 53)) (.cells #[.int .i64 0, .int .i64 0, .int .i64 0] 53); simpa using this, ((Gr.refl w).alloc _).alloc _⟩
 go_enter Tryz.func24, Tryz.ntmps24
 go_wp2
 go_loopw [] (fun wr => ∃ k : Nat, Aside0 (Turn w wr t k)) (fun wr => left3 wr.heap[w.heap.size]?)
 case atStart => exact ⟨0, HS⟩
 case round =>
  clear HS
  obtain ⟨k, HT⟩ := hrel
  have x0 := (blk_cell HT.out.one 0).trans (show _ = some (Value.int .i64 (rotN t k).1) from rfl)
  have x1 := (blk_cell HT.out.one 1).trans (show _ = some (Value.int .i64 (rotN t k).2.1) from rfl)
  have x2 := (blk_cell HT.out.one 2).trans (show _ = some (Value.int .i64 (rotN t k).2.2) from rfl)
  have y0 := blk_frozen HT.out.one 0
  have y1 := blk_frozen HT.out.one 1
  have y2 := blk_frozen HT.out.one 2
  have hset : ∀ (h2 : k + 1 ≤ 2) (hn : ¬ Lo (rotN t k)), Turn w (((wr.setCell ⟨w.heap.size, 0, none⟩ (.int .i64 (rotN t k).2.1)).setCell ⟨w.heap.size, 1, none⟩ (.int .i64 (rotN t k).2.2)).setCell ⟨w.heap.size, 2, none⟩ (.int .i64 (rotN t k).1)) t (k + 1) := fun h2 hn => by
   have b1 := blk_set HT.out.one 0 (.int .i64 (rotN t k).2.1)
   have b2 := blk_set b1 1 (.int .i64 (rotN t k).2.2)
   have b3 := blk_set b2 2 (.int .i64 (rotN t k).1)
   refine ⟨h2, fun j hj => ?_, b3, ?_, gr_set (gr_set (gr_set HT.out.gr (Nat.le_refl _) _) (Nat.le_refl _) _) (Nat.le_refl _) _⟩
   ·rcases Nat.lt_or_eq_of_le (Nat.le_of_lt_succ hj) with q | q
    ·exact HT.out.no j q
    ·rw [q]; exact hn
   ·have hne : w.heap.size + 1 ≠ w.heap.size := by omega
    rw [Below.heap_setCell _ _ _ _ hne, Below.heap_setCell _ _ _ _ hne, Below.heap_setCell _ _ _ _ hne]
    exact HT.out.two
  have HSet := Aside0.mk hset
  clear hset
  by_cases q1 : (rotN t k).2.1 < (rotN t k).1
  ·have hn : ¬ Lo (rotN t k) := by unfold Lo; omega
   have d1 : decide ((rotN t k).2.1 < (rotN t k).1) = true := decide_eq_true q1
   have HN := Aside0.mk (And.intro hn (own_two HT.out.le HT.out.no hn))
   clear hn q1
   generalize hu : rotN t k = u at *
   have HU := Aside0.mk hu
   clear hu
   go_wp2
   have HT2 := HSet.out HN.out.2 HN.out.1
   exact ⟨⟨k + 1, ⟨HT2⟩⟩, HT.out.falls HT2 (by rw [HU.out]; exact HN.out.1)⟩
  ·have d1 : decide ((rotN t k).2.1 < (rotN t k).1) = false := decide_eq_false q1
   by_cases q2 : (rotN t k).2.2 < (rotN t k).1
   ·have hn : ¬ Lo (rotN t k) := by unfold Lo; omega
    have d2 : decide ((rotN t k).2.2 < (rotN t k).1) = true := decide_eq_true q2
    have HN := Aside0.mk (And.intro hn (own_two HT.out.le HT.out.no hn))
    clear hn q1 q2
    generalize hu : rotN t k = u at *
    have HU := Aside0.mk hu
    clear hu
    go_wp2
    have HT2 := HSet.out HN.out.2 HN.out.1
    exact ⟨⟨k + 1, ⟨HT2⟩⟩, HT.out.falls HT2 (by rw [HU.out]; exact HN.out.1)⟩
   ·have hy : Lo (rotN t k) := by unfold Lo; omega
    have d2 : decide ((rotN t k).2.2 < (rotN t k).1) = false := decide_eq_false q2
    have HO := Aside0.mk (own_at HT.out.le HT.out.no hy)
    have z0 := blk_cell HT.out.two 0
    have z1 := blk_cell HT.out.two 1
    have z2 := blk_cell HT.out.two 2
    have z3 := blk_frozen HT.out.two 0
    have z4 := blk_frozen HT.out.two 1
    have z5 := blk_frozen HT.out.two 2
    clear HSet hy q1 q2
    generalize hu : rotN t k = u at *
    have HU := Aside0.mk hu
    clear hu
    go_wp2
    refine bodyPost_ret (v := .agg #[.int .i64 u.1, .int .i64 u.2.1, .int .i64 u.2.2]) ?_ rfl ⟨by rw [HO.out], gr_set (gr_set (gr_set HT.out.gr (Nat.le_succ _) _) (Nat.le_succ _) _) (Nat.le_succ _) _⟩
    have b3 := blk_set (blk_set (blk_set HT.out.two 0 (.int .i64 u.1)) 1 (.int .i64 u.2.1)) 2 (.int .i64 u.2.2)
    have q0 := (blk_cell b3 0).trans (show _ = some (Value.int .i64 u.1) from rfl)
    have q1 := (blk_cell b3 1).trans (show _ = some (Value.int .i64 u.2.1) from rfl)
    have q2 := (blk_cell b3 2).trans (show _ = some (Value.int .i64 u.2.2) from rfl)
    clear b3 z0 z1 z2 z3 z4 z5 x0 x1 x2 y0 y1 y2
    generalize (((wr.setCell ⟨w.heap.size + 1, 0, none⟩ (.int .i64 u.1)).setCell ⟨w.heap.size + 1, 1, none⟩ (.int .i64 u.2.1)).setCell ⟨w.heap.size + 1, 2, none⟩ (.int .i64 u.2.2)) = W9 at *
    simp [results, Tryz.results24, go_sem, q0, q1, q2]
theorem blk_two (w : World) (o p : Obj) : ((w.alloc o).alloc p).heap[w.heap.size + 1]? = some p := by
 have := blk_new (w.alloc o) p
 simpa using this
theorem lt3_0 {s t : Tr} (h : s.1 ≠ t.1) : lt3 s t ↔ s.1 < t.1 := by unfold lt3; omega
theorem lt3_1 {s t : Tr} (h0 : s.1 = t.1) (h : s.2.1 ≠ t.2.1) : lt3 s t ↔ s.2.1 < t.2.1 := by unfold lt3; omega
theorem lt3_2 {s t : Tr} (h0 : s.1 = t.1) (h1 : s.2.1 = t.2.1) (h : s.2.2 ≠ t.2.2) : lt3 s t ↔ s.2.2 < t.2.2 := by unfold lt3; omega
set_option maxRecDepth 100000 in
set_option maxHeartbeats 8000000 in
theorem rless_call (s t : Tr) (w : World) : Calls Tryz.prog 21 #[encT s, encT t] w fun e w' => e = .returned (.bool (decide (lt3 s t))) ∧ Below w.heap.size w w' := by
 unfold encT
 obtain ⟨r, hr⟩ : ∃ r : Bool, r = decide (lt3 s t) := ⟨_, rfl⟩
 rw [← hr]
 have HL : Aside0 ((s.1 ≠ t.1 → r = decide (s.1 < t.1)) ∧ (s.1 = t.1 → s.2.1 ≠ t.2.1 → r = decide (s.2.1 < t.2.1)) ∧ (s.1 = t.1 → s.2.1 = t.2.1 → s.2.2 ≠ t.2.2 → r = decide (s.2.2 < t.2.2)) ∧ (s.1 = t.1 → s.2.1 = t.2.1 → s.2.2 = t.2.2 → r = false)) := by
  subst hr
  refine ⟨fun h => ?_, fun h h1 => ?_, fun h h1 h2 => ?_, fun h h1 h2 => ?_⟩
  ·exact decide_eq_decide.mpr (lt3_0 h)
  ·exact decide_eq_decide.mpr (lt3_1 h h1)
  ·exact decide_eq_decide.mpr (lt3_2 h h1 h2)
  ·exact decide_eq_false (by unfold lt3; omega)
 clear hr
 obtain ⟨W2, hW2⟩ : ∃ W2, W2 = (w.alloc (.cells #[.int .i64 s.1, .int .i64 s.2.1, .int .i64 s.2.2] 53)).alloc (.cells #[.int .i64 t.1, .int .i64 t.2.1, .int .i64 t.2.2] 53) := ⟨_, rfl⟩
 have hB2 : Below w.heap.size w W2 := by rw [hW2]; exact below_alloc (below_alloc (Below.refl _ _) _) _
 have hb1 : W2.heap[w.heap.size]? = some (.cells #[.int .i64 s.1, .int .i64 s.2.1, .int .i64 s.2.2] 53 (0, 0)) := by rw [hW2]; exact blk_alloc (blk_new _ _) _
 have hb2 : W2.heap[w.heap.size + 1]? = some (.cells #[.int .i64 t.1, .int .i64 t.2.1, .int .i64 t.2.2] 53 (0, 0)) := by rw [hW2]; exact blk_two _ _ _
 go_enter Tryz.func21, Tryz.ntmps21
 go_wp2
 rw [← hW2]
 clear hW2
 have x0 := (blk_cell hb1 0).trans (show _ = some (Value.int .i64 s.1) from rfl)
 have x1 := (blk_cell hb1 1).trans (show _ = some (Value.int .i64 s.2.1) from rfl)
 have x2 := (blk_cell hb1 2).trans (show _ = some (Value.int .i64 s.2.2) from rfl)
 have y0 := (blk_cell hb2 0).trans (show _ = some (Value.int .i64 t.1) from rfl)
 have y1 := (blk_cell hb2 1).trans (show _ = some (Value.int .i64 t.2.1) from rfl)
 have y2 := (blk_cell hb2 2).trans (show _ = some (Value.int .i64 t.2.2) from rfl)
 clear hb1 hb2
 have HB := Aside0.mk hB2
 clear hB2
 generalize s.1 = a at *
 generalize s.2.1 = b at *
 generalize s.2.2 = c at *
 generalize t.1 = x at *
 generalize t.2.1 = y at *
 generalize t.2.2 = z at *
 go_loopw [5] (fun v5 wr => ∃ k : Nat, k ≤ 3 ∧ v5 = .int .i64 k ∧ Aside0 (Below W2.heap.size W2 wr) ∧ Aside0 ((0 < k → a = x) ∧ (1 < k → b = y) ∧ (2 < k → c = z))) (fun v5 _ => 3 - (intOf v5).toNat)
 case atStart => exact ⟨0, by omega, rfl, ⟨Below.refl _ _⟩, ⟨by omega, by omega, by omega⟩⟩
 case round =>
  obtain ⟨k, hk, rfl, HG, HK⟩ := hrel
  replace x0 := bcell HG.out x0
  replace x1 := bcell HG.out x1
  replace x2 := bcell HG.out x2
  replace y0 := bcell HG.out y0
  replace y1 := bcell HG.out y1
  replace y2 := bcell HG.out y2
  have j1 : IntKind.i64.wrap 1 = 1 := by decide
  have j2 : IntKind.i64.wrap 2 = 2 := by decide
  have j3 : IntKind.i64.wrap 3 = 3 := by decide
  rcases (show k = 0 ∨ k = 1 ∨ k = 2 ∨ k = 3 by omega) with rfl | rfl | rfl | rfl
  ·by_cases e : a = x
   ·have c1 : decide (a = x) = true := decide_eq_true e
    have c2 : (a != x) = false := by simpa using e
    have c3 : (a == x) = true := by simpa using e
    have HQ := Aside0.mk e
    clear e
    go_wp2
    go_quiet (fail)
    go_wp2
    go_roundw
    case rel => exact ⟨1, by omega, rfl, ⟨pw_below_drewN HG.out _⟩, ⟨fun _ => HQ.out, fun h => by omega, fun h => by omega⟩⟩
    case measure => simp [intOf]
   ·have c1 : decide (a = x) = false := decide_eq_false e
    have c2 : (a != x) = true := by simpa using e
    have c3 : (a == x) = false := by simpa using e
    have HQ := Aside0.mk e
    clear e
    go_wp2
    go_quiet (fail)
    go_wp2
    go_quiet (fail)
    go_wp2
    go_ret
    refine ⟨by rw [HL.out.1 HQ.out]; rfl, HB.out.trans (Below.mono ?_ HB.out.size)⟩
    exact pw_below_drewN (pw_below_drewN HG.out _) _
  ·by_cases e : b = y
   ·have c1 : decide (b = y) = true := decide_eq_true e
    have c2 : (b != y) = false := by simpa using e
    have c3 : (b == y) = true := by simpa using e
    have HQ := Aside0.mk e
    clear e
    go_wp2
    go_quiet (fail)
    go_wp2
    go_roundw
    case rel => exact ⟨2, by omega, rfl, ⟨pw_below_drewN HG.out _⟩, ⟨fun _ => HK.out.1 (by omega), fun _ => HQ.out, fun h => by omega⟩⟩
    case measure => simp [intOf]
   ·have c1 : decide (b = y) = false := decide_eq_false e
    have c2 : (b != y) = true := by simpa using e
    have c3 : (b == y) = false := by simpa using e
    have HQ := Aside0.mk e
    clear e
    go_wp2
    go_quiet (fail)
    go_wp2
    go_quiet (fail)
    go_wp2
    go_ret
    refine ⟨by rw [HL.out.2.1 (HK.out.1 (by omega)) HQ.out]; rfl, HB.out.trans (Below.mono ?_ HB.out.size)⟩
    exact pw_below_drewN (pw_below_drewN HG.out _) _
  ·by_cases e : c = z
   ·have c1 : decide (c = z) = true := decide_eq_true e
    have c2 : (c != z) = false := by simpa using e
    have c3 : (c == z) = true := by simpa using e
    have HQ := Aside0.mk e
    clear e
    go_wp2
    go_quiet (fail)
    go_wp2
    go_roundw
    case rel => exact ⟨3, by omega, rfl, ⟨pw_below_drewN HG.out _⟩, ⟨fun _ => HK.out.1 (by omega), fun _ => HK.out.2.1 (by omega), fun _ => HQ.out⟩⟩
    case measure => simp [intOf]
   ·have c1 : decide (c = z) = false := decide_eq_false e
    have c2 : (c != z) = true := by simpa using e
    have c3 : (c == z) = false := by simpa using e
    have HQ := Aside0.mk e
    clear e
    go_wp2
    go_quiet (fail)
    go_wp2
    go_quiet (fail)
    go_wp2
    go_ret
    refine ⟨by rw [HL.out.2.2.1 (HK.out.1 (by omega)) (HK.out.2.1 (by omega)) HQ.out]; rfl, HB.out.trans (Below.mono ?_ HB.out.size)⟩
    exact pw_below_drewN (pw_below_drewN HG.out _) _
  ·have HQ := Aside0.mk (HL.out.2.2.2 (HK.out.1 (by omega)) (HK.out.2.1 (by omega)) (HK.out.2.2 (by omega)))
   go_wp2
   go_ret
   rw [HQ.out]
   exact ⟨rfl, HB.out.trans (HG.out.mono HB.out.size)⟩
section
variable {ops : Array Oper} {rest : List Oper} {o : Oper} {a : Act} {Q : Exit → Act → World → Prop}
theorem wp_addB {α : Type} {d : Kd α} {enc : α → List Value} (F : Flat d enc) {W w0 : World} {base : Nat} (hgd : o.guard = none) (s x : Operand) (t e : TypeId) (z : Value) (bytes : Nat)
 (ho : o.op = .call { callee := .builtin .append, args := #[s, x], argTypes := #[t, t] }) (ht : Tryz.prog.underlying t = some (.slice e)) (hinfo : (Tryz.prog.info? e).map (fun i => (i.zero, i.size, i.bytes)) = some (some z, d.sz, bytes)) (hz : z.cells.size = d.sz) (hs0 : 0 < d.sz) (hb0 : 0 < bytes)
 {v : Value} {xs : List α} (p : α) {cs : Array Value} (hs : a.eval s = v) (hx : a.eval x = .slice (some ⟨W.heap.size, 0, none⟩) 1 1) (hcs : cs = (enc p).toArray) (HO : d.R e W base anyB v xs) (HB : Below base w0 W) (hbase : base ≤ W.heap.size) (hl : (xs.length + 1) * bytes ≤ 140737488355328)
 (h : ∀ v1 w1, d.R e w1 base anyB v1 (xs ++ [p]) → Below base w0 w1 → wpList Tryz.prog ops Q rest (a.put o.dst v1) w1) : wpList Tryz.prog ops Q (o :: rest) a (W.alloc (.cells cs e)) :=
 wp_add1 F hgd s x t e z bytes ho ht hinfo hz hs0 hb0 p hs hx hcs HO hbase hl fun v1 w1 h1 h2 => h v1 w1 h1 (HB.trans (grown_below h2 (fun q hq => ((LRow.of_own (t := true) (F.row.mp HO).2).lt q hq).1) hbase))
end
theorem six_below {w w1 : World} {p1 p2 p3 p4 p5 p6 : Addr} {v1 v2 v3 v4 v5 v6 : Value} (hb : Below w.heap.size w w1) (h : w.cell? p1 = some v1 ∧ w.cell? p2 = some v2 ∧ w.cell? p3 = some v3 ∧ w.cell? p4 = some v4 ∧ w.cell? p5 = some v5 ∧ w.cell? p6 = some v6) :
 w1.cell? p1 = some v1 ∧ w1.cell? p2 = some v2 ∧ w1.cell? p3 = some v3 ∧ w1.cell? p4 = some v4 ∧ w1.cell? p5 = some v5 ∧ w1.cell? p6 = some v6 := ⟨bcell hb h.1, bcell hb h.2.1, bcell hb h.2.2.1, bcell hb h.2.2.2.1, bcell hb h.2.2.2.2.1, bcell hb h.2.2.2.2.2⟩
theorem tris_take {T : List Tr} {i : Nat} (h : i < T.length) : tris (T.take (i + 1)) = put (own T[i]) (tris (T.take i)) := by rw [List.take_succ_eq_append_getElem h, tris_add]
set_option maxRecDepth 100000 in
set_option maxHeartbeats 16000000 in
theorem rsorted_call (A : Option Addr) (c : Nat) (Ts : List Tr) (w : World) (hC : Kd.C kTr w A Ts.length Ts) (hz : Ts.length ≤ 1000000) : Calls Tryz.prog 17 #[.slice A Ts.length c] w fun e w' => ∃ v, e = .returned v ∧ kTr.R 53 w' w.heap.size anyB v (tris Ts) ∧ Below w.heap.size w w' := by
 go_enter Tryz.func17, Tryz.ntmps17
 go_wp2
 go_loopw [3, 4] (fun v3 v4 wr => ∃ i : Nat, v4 = .int .i64 i ∧ i ≤ Ts.length ∧ kTr.R 53 wr w.heap.size anyB v3 (tris (Ts.take i)) ∧ Below w.heap.size w wr) (fun _ v4 _ => Ts.length - (intOf v4).toNat)
 case atStart => exact ⟨0, rfl, Nat.zero_le _, Kd.R_nil _ _ _ _ _, Below.refl _ _⟩
 case round =>
  obtain ⟨i, rfl, hi, hR, hB⟩ := hrel
  by_cases hlt : i < Ts.length
  ·obtain ⟨ad, rfl, x0, x1, x2⟩ := at_tr hC hlt hlt
   replace x0 := bcell hB x0
   replace x1 := bcell hB x1
   replace x2 := bcell hB x2
   have d1 : decide ((i : Int) < (Ts.length : Int)) = true := by simp; omega
   have d2 : decide (i < Ts.length) = true := decide_eq_true hlt
   have i1 : IntKind.i64.wrap ((i : Int) + 1) = (i : Int) + 1 := wrapN (by omega) (by omega)
   have HTK := Aside0.mk (tris_take hlt)
   have hlen : (tris (Ts.take i)).length = i := by rw [tris_length, List.length_take]; omega
   have hwk := tris_wk (Ts.take i)
   have hown := fun W => rown_call Ts[i] W
   unfold encT at hown
   generalize own Ts[i] = o at *
   generalize Ts[i].1 = t0 at *
   generalize Ts[i].2.1 = t1 at *
   generalize Ts[i].2.2 = t2 at *
   generalize tris (Ts.take i) = out at *
   obtain ⟨A3, c3, rfl⟩ := Kd.R_slice hR
   rw [hlen] at hR ⊢
   have HLN := Aside0.mk hlen
   have HWK := Aside0.mk hwk
   clear hlen hwk
   go_wp2_with (go_at_call 24; (with_reducible refine (hown _).mono ?_); rintro u_ w5 ⟨rfl, hg5⟩)
   obtain ⟨W6, hW6⟩ : ∃ W6, W6 = w5.alloc (.cells #[.int .i64 o.1, .int .i64 o.2.1, .int .i64 o.2.2] 53) := ⟨_, rfl⟩
   have hG6 : Gr wr W6 := by rw [hW6]; exact hg5.alloc _
   have hbx : W6.heap[w5.heap.size]? = some (.cells #[.int .i64 o.1, .int .i64 o.2.1, .int .i64 o.2.2] 53 (0, 0)) := by rw [hW6]; exact blk_new _ _
   rw [← hW6]
   clear hW6
   have hB6 : Below w.heap.size w W6 := hB.trans (hG6.below.mono hB.size)
   have hR6 := Kd.R_below hR hG6.below
   have hC6 := Kd.C_below hC hB6
   clear hR hB hg5 hG6 x0 x1 x2 hown
   generalize w5.heap.size = B5 at *
   go_loopw [6] (fun v6 wr => ∃ j : Nat, j ≤ i ∧ v6 = .int .i64 j ∧ Below W6.heap.size W6 wr ∧ Aside0 (∀ x ∈ out.drop j, lt3 o x)) (fun v6 _ => (intOf v6).toNat)
   case atStart => exact ⟨i, Nat.le_refl _, rfl, Below.refl _ _, ⟨fun x hx => by rw [List.drop_eq_nil_of_le (by rw [HLN.out]; exact Nat.le_refl _)] at hx; cases hx⟩⟩
   case round =>
    obtain ⟨j, hj, rfl, hB2, HQ⟩ := hrel
    have hB4 := hB6.trans (hB2.mono hB6.size)
    have hR2 := Kd.R_below hR6 hB2
    obtain ⟨-, hic, hCo⟩ := Kd.R_reads' hR2
    rw [HLN.out] at hCo
    have hCo' : Kd.C kTr wr A3 out.length out := by rw [HLN.out]; exact hCo
    obtain ⟨hP1, A2, hA2, hP2⟩ := cut_parts (j := j) hCo' (by rw [HLN.out]; exact hj) (by rw [HLN.out]; exact hic)
    have hs1 := cut_hi Tryz.underlying23 infoTr A3 i c3 j hj hic
    have hs2 := cut_lo Tryz.underlying23 infoTr A3 i c3 j hj hic
    rw [show kTr.sz = 3 from rfl] at hA2
    rw [← hA2] at hs2
    rw [HLN.out] at hP2
    have i3 : IntKind.i64.wrap ((j : Int) - 1) = (j : Int) - 1 := wrapN (by omega) (by omega)
    have HLT : Aside0 ((out.take j).length ≤ 1000000) := ⟨by rw [List.length_take, HLN.out]; omega⟩
    have b0 := bcell hB2 ((blk_cell hbx 0).trans (show _ = some (Value.int .i64 o.1) from rfl))
    have b1 := bcell hB2 ((blk_cell hbx 1).trans (show _ = some (Value.int .i64 o.2.1) from rfl))
    have b2 := bcell hB2 ((blk_cell hbx 2).trans (show _ = some (Value.int .i64 o.2.2) from rfl))
    clear hA2
    rcases Nat.eq_zero_or_pos j with hj0 | hj0
    ·have HEX := Aside0.mk (put_back (k := j) HWK.out (by rw [HLN.out]; exact hj) HQ.out (fun h => absurd h (by omega)))
     have d5 : decide ((0 : Int) < (j : Int)) = false := by simp; omega
     have d6 : decide (0 < j) = false := by simp; omega
     clear HQ hj0
     go_upto_region 7 with (fail)
     go_quiet (fail)
     have hB7 := pw_below_drewN hB4 nq
     have q1 := Kd.C_below hP1 (pw_below_drewN (Below.refl wr.heap.size wr) nq)
     have q2 := Kd.C_below hP2 (pw_below_drewN (Below.refl wr.heap.size wr) nq)
     replace b0 := bcell (pw_below_drewN (Below.refl wr.heap.size wr) nq) b0
     replace b1 := bcell (pw_below_drewN (Below.refl wr.heap.size wr) nq) b1
     replace b2 := bcell (pw_below_drewN (Below.refl wr.heap.size wr) nq) b2
     generalize wr.drewN nq = W7 at *
     clear hB4 hR2 hR6 hCo hCo' hB2 hP1 hP2
     go_wp2_with (first
      | (refine Kd.R_append_rows kTr (w0 := W7) W7.heap.size (by rfl) (.tmp 34) (.tmp 37) 23 53 (.agg #[.int .i64 0, .int .i64 0, .int .i64 0]) 24 rfl Tryz.underlying23 infoTr rfl (by decide) (by omega) (.slice none 0 0) [] (out.take j) _ _ _ (fun _ => True) (fun _ => False) rfl rfl ?aO ?aR (fun _ _ h => h) (fun _ h => h.elim) (fun _ _ => trivial) ?aB ?aS ?aL ?_
         (case aO => exact Kd.R_nil ..)
         (case aR => exact q1)
         (case aB => exact Below.refl _ _)
         (case aS => exact Nat.le_refl _)
         (case aL => simp only [List.length_nil]; have := HLT.out; omega)
         intro v1 w1 hR1 hB1 hg1 hat1; clear hg1 hat1; rw [List.nil_append] at hR1; have k0 := bcell hB1 b0; have k1 := bcell hB1 b1; have k2 := bcell hB1 b2)
      | (refine wp_addB flatT (w0 := W7) (base := W7.heap.size) rfl (.tmp 39) (.tmp 41) 23 53 (.agg #[.int .i64 0, .int .i64 0, .int .i64 0]) 24 rfl Tryz.underlying23 infoTr rfl (by decide) (by decide) o rfl (by simp [Act.eval]) rfl hR1 hB1 hB1.size ?aL ?_
         (case aL => have := HLT.out; omega)
         intro v2 w2 hR2 hB2; have q3 := Kd.C_below q2 hB2; clear hB1 hR1)
      | (refine Kd.R_append_rows kTr (w0 := W7) W7.heap.size (by rfl) (.tmp 43) (.tmp 46) 23 53 (.agg #[.int .i64 0, .int .i64 0, .int .i64 0]) 24 rfl Tryz.underlying23 infoTr rfl (by decide) (by omega) v2 (out.take j ++ [o]) (out.drop j) _ _ _ (fun _ => True) (fun _ => False) rfl rfl ?aO ?aR (fun _ _ h => h) (fun _ h => h.elim) (fun _ _ => trivial) ?aB ?aS ?aL ?_
         (case aO => exact hR2)
         (case aR => exact q3)
         (case aB => exact hB2)
         (case aS => exact hB2.size)
         (case aL => have := HLT.out; simp only [List.length_append, List.length_singleton]; omega)
         intro v3 w3 hR3 hB3 hg3 hat3; clear hg3 hat3))
     have hT : out.take j ++ [o] ++ out.drop j = tris (Ts.take (i + 1)) := by rw [HTK.out, HEX.out, List.append_assoc]; rfl
     rw [hT] at hR3
     go_roundw
     case rel => exact ⟨i + 1, by go_num, by omega, Kd.R_lower hR3 hB7.size, hB7.trans (hB3.mono hB7.size)⟩
     case measure => simp [intOf]; omega
    ·obtain ⟨p, hp⟩ : ∃ p, p = j - 1 := ⟨_, rfl⟩
     have i4 : IntKind.i64.wrap ((j : Int) - 1) = (p : Int) := by rw [i3]; omega
     clear i3
     have hpi : p < i := by omega
     have hpo : p < out.length := by rw [HLN.out]; exact hpi
     obtain ⟨ao, rfl, y0, y1, y2⟩ := at_tr hCo hpi hpo
     have HP := Aside0.mk hp
     have HIN : Aside0 ((lt3 o out[p] → ∀ x ∈ out.drop p, lt3 o x) ∧ (¬ lt3 o out[p] → put o out = out.take j ++ o :: out.drop j)) := ⟨fun h x hx => by
      rw [List.drop_eq_getElem_cons hpo] at hx
      rcases List.mem_cons.mp hx with k | k
      ·rw [k]; exact h
      ·rw [show p + 1 = j by omega] at k; exact HQ.out x k, fun h => put_back HWK.out (by omega) HQ.out (fun _ => by simpa [← hp] using h)⟩
     have hless := fun W => rless_call o out[p] W
     unfold encT at hless
     clear hp HQ
     have d5 : decide ((0 : Int) < (j : Int)) = true := by simp; omega
     have d6 : decide (0 < j) = true := by simp; omega
     have e3 : decide ((p : Int) < (i : Int)) = true := by simp; omega
     have e4 : decide (p < i) = true := by simp; omega
     generalize out[p] = y at *
     clear hpo
     have hX : wr.cell? ⟨B5, 0, none⟩ = some (.int .i64 o.1) ∧ wr.cell? ⟨B5, 1, none⟩ = some (.int .i64 o.2.1) ∧ wr.cell? ⟨B5, 2, none⟩ = some (.int .i64 o.2.2) ∧ wr.cell? (ao.add (p * 3)) = some (.int .i64 y.1) ∧ wr.cell? ⟨(ao.add (p * 3)).block, (ao.add (p * 3)).off + 1, none⟩ = some (.int .i64 y.2.1) ∧ wr.cell? ⟨(ao.add (p * 3)).block, (ao.add (p * 3)).off + 2, none⟩ = some (.int .i64 y.2.2) := ⟨b0, b1, b2, y0, y1, y2⟩
     have hb0 := Below.refl wr.heap.size wr
     clear y0 y1 y2
     by_cases hs : lt3 o y
     ·have HN := Aside0.mk (HIN.out.1 hs)
      rw [decide_eq_true hs] at hless
      clear hs HIN b0 b1 b2 hP1 hP2 hs1 hs2 hR2 hR6 hCo'
      go_upto_region 7 with (fail)
      go_region_held3 (fun W' => W'.cell? ⟨B5, 0, none⟩ = some (.int .i64 o.1) ∧ W'.cell? ⟨B5, 1, none⟩ = some (.int .i64 o.2.1) ∧ W'.cell? ⟨B5, 2, none⟩ = some (.int .i64 o.2.2) ∧ W'.cell? (ao.add (p * 3)) = some (.int .i64 y.1) ∧ W'.cell? ⟨(ao.add (p * 3)).block, (ao.add (p * 3)).off + 1, none⟩ = some (.int .i64 y.2.1) ∧ W'.cell? ⟨(ao.add (p * 3)).block, (ao.add (p * 3)).off + 2, none⟩ = some (.int .i64 y.2.2))
       (first | exact hX | (refine six_below ?_ hX; (with_reducible (repeat (first | assumption | apply below_drew1 | apply below_alloc | apply pw_below_drewN)))))
       (first | (go_at_call 21; (with_reducible refine (hless _).mono ?_); rintro u w7 ⟨rfl, hb7⟩; have hB8 := below_step (w := wr) (by (with_reducible (repeat (first | exact hb0 | apply below_drew1 | apply below_alloc | apply pw_below_drewN)))) hb7; clear hb7))
      all_goals
       go_wp2
       exact ⟨⟨p, by omega, by go_num, hB2.trans (hB8.mono hB2.size), HN⟩, by have := HP.out; simp [intOf]; omega⟩
     ·have HEX := Aside0.mk (HIN.out.2 hs)
      rw [decide_eq_false hs] at hless
      clear hs HIN
      go_upto_region 7 with (fail)
      go_region_held3 (fun W' => W'.cell? ⟨B5, 0, none⟩ = some (.int .i64 o.1) ∧ W'.cell? ⟨B5, 1, none⟩ = some (.int .i64 o.2.1) ∧ W'.cell? ⟨B5, 2, none⟩ = some (.int .i64 o.2.2) ∧ W'.cell? (ao.add (p * 3)) = some (.int .i64 y.1) ∧ W'.cell? ⟨(ao.add (p * 3)).block, (ao.add (p * 3)).off + 1, none⟩ = some (.int .i64 y.2.1) ∧ W'.cell? ⟨(ao.add (p * 3)).block, (ao.add (p * 3)).off + 2, none⟩ = some (.int .i64 y.2.2))
       (first | exact hX | (refine six_below ?_ hX; (with_reducible (repeat (first | assumption | apply below_drew1 | apply below_alloc | apply pw_below_drewN)))))
       (first | (go_at_call 21; (with_reducible refine (hless _).mono ?_); rintro u w7 ⟨rfl, hb7⟩; have hB8 := below_step (w := wr) (by (with_reducible (repeat (first | exact hb0 | apply below_drew1 | apply below_alloc | apply pw_below_drewN)))) hb7; clear hb7))
      all_goals
       have hB7 := hB4.trans (hB8.mono hB4.size)
       have q1 := Kd.C_below hP1 hB8
       have q2 := Kd.C_below hP2 hB8
       replace b0 := bcell hB8 b0
       replace b1 := bcell hB8 b1
       replace b2 := bcell hB8 b2
       obtain ⟨W7, hW7⟩ : ∃ W7 : World, W7 = w7 := ⟨w7, rfl⟩
       subst hW7
       clear hB4 hX hb0 hR2 hR6 hCo hCo' hB2 hP1 hP2
       go_wp2_with (first
      | (refine Kd.R_append_rows kTr (w0 := W7) W7.heap.size (by rfl) (.tmp 34) (.tmp 37) 23 53 (.agg #[.int .i64 0, .int .i64 0, .int .i64 0]) 24 rfl Tryz.underlying23 infoTr rfl (by decide) (by omega) (.slice none 0 0) [] (out.take j) _ _ _ (fun _ => True) (fun _ => False) rfl rfl ?aO ?aR (fun _ _ h => h) (fun _ h => h.elim) (fun _ _ => trivial) ?aB ?aS ?aL ?_
         (case aO => exact Kd.R_nil ..)
         (case aR => exact q1)
         (case aB => exact Below.refl _ _)
         (case aS => exact Nat.le_refl _)
         (case aL => simp only [List.length_nil]; have := HLT.out; omega)
         intro v1 w1 hR1 hB1 hg1 hat1; clear hg1 hat1; rw [List.nil_append] at hR1; have k0 := bcell hB1 b0; have k1 := bcell hB1 b1; have k2 := bcell hB1 b2)
      | (refine wp_addB flatT (w0 := W7) (base := W7.heap.size) rfl (.tmp 39) (.tmp 41) 23 53 (.agg #[.int .i64 0, .int .i64 0, .int .i64 0]) 24 rfl Tryz.underlying23 infoTr rfl (by decide) (by decide) o rfl (by simp [Act.eval]) rfl hR1 hB1 hB1.size ?aL ?_
         (case aL => have := HLT.out; omega)
         intro v2 w2 hR2 hB2; have q3 := Kd.C_below q2 hB2; clear hB1 hR1)
      | (refine Kd.R_append_rows kTr (w0 := W7) W7.heap.size (by rfl) (.tmp 43) (.tmp 46) 23 53 (.agg #[.int .i64 0, .int .i64 0, .int .i64 0]) 24 rfl Tryz.underlying23 infoTr rfl (by decide) (by omega) v2 (out.take j ++ [o]) (out.drop j) _ _ _ (fun _ => True) (fun _ => False) rfl rfl ?aO ?aR (fun _ _ h => h) (fun _ h => h.elim) (fun _ _ => trivial) ?aB ?aS ?aL ?_
         (case aO => exact hR2)
         (case aR => exact q3)
         (case aB => exact hB2)
         (case aS => exact hB2.size)
         (case aL => have := HLT.out; simp only [List.length_append, List.length_singleton]; omega)
         intro v3 w3 hR3 hB3 hg3 hat3; clear hg3 hat3))
       have hT : out.take j ++ [o] ++ out.drop j = tris (Ts.take (i + 1)) := by rw [HTK.out, HEX.out, List.append_assoc]; rfl
       rw [hT] at hR3
       go_roundw
       case rel => exact ⟨i + 1, by go_num, by omega, Kd.R_lower hR3 hB7.size, hB7.trans (hB3.mono hB7.size)⟩
       case measure => simp [intOf]; omega
  ·have d1 : decide ((i : Int) < (Ts.length : Int)) = false := by simp; omega
   have d2 : decide (i < Ts.length) = false := decide_eq_false hlt
   rw [List.take_of_length_le (by omega)] at hR
   go_wp2
   go_ret
   exact ⟨_, rfl, hR, hB⟩
end Go.Proofs.YtaoichlepfiliaaGreatDoor.Msh
end
section
namespace Go.Proofs.YtaoichlepfiliaaGreatDoor.Adm
open Go.RowKit Go.Proofs.YtaoichlepfiliaaGreatDoor.FltP Go.Proofs.YtaoichlepfiliaaGreatDoor.R Go.Proofs.YtaoichlepfiliaaGreatDoor.E Go.Proofs.YtaoichlepfiliaaGreatDoor.O Go.Proofs.YtaoichlepfiliaaGreatDoorW.PrintWords Go.Proofs.YtaoichlepfiliaaGreatDoorW.PrintLast
theorem row_at {w : World} {A : Option Addr} {n : Nat} {xs : List Int} (h : Kd.C (Kd.int .i64) w A n xs) (hn : 0 < n) : ∃ b o, A = some ⟨b, o, none⟩ ∧ ∀ i : Nat, i < n → w.cell? ⟨b, o + i, none⟩ = some (.int .i64 (rd xs (i : Int))) := by
 obtain ⟨ad, rfl, h0⟩ := Kd.at_int h ((0 : Nat) : Int) (by omega) (by omega)
 obtain ⟨b, o, sp⟩ := ad
 have hsp : sp = none := by simpa [Addr.add] using World.cell?_spot h0
 subst hsp
 refine ⟨b, o, rfl, fun i hi => ?_⟩
 obtain ⟨ad', e, h1⟩ := Kd.at_int h (i : Int) (by omega) (by omega)
 injection e with e
 subst e
 rw [Int.toNat_natCast, Addr.add_lit] at h1
 exact h1
theorem wrapI (n : Int) (h0 : -9223372036854775808 ≤ n) (h1 : n ≤ 9223372036854775807) : IntKind.i64.wrap n = n := by
 simp only [IntKind.wrap]; simp [IntKind.signed, IntKind.bits]; omega
end Go.Proofs.YtaoichlepfiliaaGreatDoor.Adm
end
