/- Lemmas of Mdb. Conditions stand in each. -/
import Derived.Laws.AppendOwn
import Derived.Test.YtaoichlepfiliaaGreatDoorQXMda
import Derived.Test.YtaoichlepfiliaaGreatDoorQXMcb
import Derived.Test.YtaoichlepfiliaaGreatDoorQXMpb
set_option linter.unusedSimpArgs false
set_option linter.unusedVariables false
section
namespace Go.Proofs.YtaoichlepfiliaaGreatDoor.Msh
open Go.RowKit Go.Proofs.YtaoichlepfiliaaGreatDoor.Adm Go.Proofs.YtaoichlepfiliaaGreatDoor.Kfl Go.Proofs.YtaoichlepfiliaaGreatDoorW.PrintWords Go.Proofs.YtaoichlepfiliaaGreatDoorW.PrintLast
def LRow (t : Bool) (w : World) (base : Nat) (e : TypeId) (size : Nat) (v : Value) (n : Nat) (xs : List Value) : Prop :=
 xs.length = n * size ∧ ((v = .slice none 0 0 ∧ n = 0) ∨ ∃ g cap cur, v = .slice (some ⟨g, 0, none⟩) n cap ∧ base ≤ g ∧ w.heap[g]? = some (.cells cur e (0, 0)) ∧ n ≤ cap ∧ cap ≤ maxLen ∧ cap * size ≤ cur.size ∧ cur.toList.take (n * size) = xs ∧ (t = true → cur.size = cap * size))
section
variable {t : Bool} {w w' : World} {base n size : Nat} {e : TypeId} {v : Value} {xs : List Value}
theorem LRow.of_own (h : w.ownsRow base e size v n xs) : LRow t w base e size v n xs := by
 obtain ⟨h1, h2⟩ := h
 refine ⟨h1, ?_⟩
 rcases h2 with h2 | ⟨g, cap, cur, a1, a2, a3, a4, a5, a6, a7⟩
 ·exact .inl h2
 ·exact .inr ⟨g, cap, cur, a1, a2, a3, a4, a5, Nat.le_of_eq a6.symm, a7, fun _ => a6⟩
theorem LRow.own (h : LRow true w base e size v n xs) : w.ownsRow base e size v n xs := by
 obtain ⟨h1, h2⟩ := h
 refine ⟨h1, ?_⟩
 rcases h2 with h2 | ⟨g, cap, cur, a1, a2, a3, a4, a5, a6, a7, a8⟩
 ·exact .inl h2
 ·exact .inr ⟨g, cap, cur, a1, a2, a3, a4, a5, a8 rfl, a7⟩
theorem LRow.move (h : LRow t w base e size v n xs) (hm : ∀ k, v.ownBlock = some k → w'.heap[k]? = w.heap[k]?) : LRow t w' base e size v n xs := by
 obtain ⟨h1, h2⟩ := h
 refine ⟨h1, ?_⟩
 rcases h2 with h2 | ⟨g, cap, cur, rfl, a2, a3, r⟩
 ·exact .inl h2
 ·exact .inr ⟨g, cap, cur, rfl, a2, (hm g rfl).trans a3, r⟩
theorem LRow.lt (h : LRow t w base e size v n xs) : ∀ k, v.ownBlock = some k → base ≤ k ∧ k < w.heap.size ∧ ∃ cells, w.heap[k]? = some (.cells cells e (0, 0)) := by
 rcases h.2 with ⟨rfl, -⟩ | ⟨g, cap, cur, rfl, a2, a3, -⟩
 ·intro k hk; simp [Value.ownBlock] at hk
 ·intro k hk
  simp only [Value.ownBlock, Option.some.injEq] at hk
  subst hk
  exact ⟨a2, (Array.getElem?_eq_some_iff.1 a3).1, cur, a3⟩
theorem LRow.below (h : LRow t w base e size v n xs) (hb : Below w.heap.size w w') : LRow t w' base e size v n xs := h.move (fun k hk => hb.block k (h.lt k hk).2.1)
theorem LRow.cell {g cap : Nat} (h : LRow t w base e size (.slice (some ⟨g, 0, none⟩) n cap) n xs) {j : Nat} {u : Value} (hj : xs[j]? = some u) : w.cell? ⟨g, j, none⟩ = some u := by
 rcases h.2 with ⟨h0, -⟩ | ⟨g', cap', cur, hv, a2, a3, a4, a5, a6, a7, -⟩
 ·cases h0
 ·cases hv
  have hlt : j < n * size := by
   have := (List.getElem?_eq_some_iff.mp hj).1
   have := h.1
   omega
  rw [← a7, List.getElem?_take_of_lt hlt] at hj
  rw [blk_cell a3, ← Array.getElem?_toList]
  exact hj
theorem LRow.cut {g cap m : Nat} (h : LRow t w base e size (.slice (some ⟨g, 0, none⟩) n cap) n xs) (hm : m ≤ n) : LRow false w base e size (.slice (some ⟨g, 0, none⟩) m m) m (xs.take (m * size)) := by
 rcases h.2 with ⟨h0, -⟩ | ⟨g', cap', cur, hv, a2, a3, a4, a5, a6, a7, -⟩
 ·cases h0
 ·cases hv
  have h1 := Nat.mul_le_mul_right size hm
  have h2 := Nat.mul_le_mul_right size a4
  refine ⟨by rw [List.length_take, h.1]; omega, .inr ⟨g, m, cur, rfl, a2, a3, Nat.le_refl _, by omega, by omega, ?_, fun q => Bool.noConfusion q⟩⟩
  rw [← a7, List.take_take]
  congr 1
  omega
theorem LRow.shape (h : LRow t w base e size v n xs) (hn : 0 < n) : ∃ g cap, v = .slice (some ⟨g, 0, none⟩) n cap ∧ n ≤ cap := by
 rcases h.2 with ⟨-, h0⟩ | ⟨g, cap, cur, rfl, a2, a3, a4, -⟩
 ·omega
 ·exact ⟨g, cap, rfl, a4⟩
variable {P : Program}
theorem LRow.append (ts ty : TypeId) (i : TypeInfo) (z : Value) (bytes : Nat) (ht : P.underlying ts = some (.slice e)) (hi : P.info? e = some i) (hz : i.zero = some z) (hsize : i.size = size) (hby : i.bytes = bytes) (hzs : z.cells.size = size) (hsz : 0 < size)
 (hown : LRow t w base e size v n xs) (a : Addr) (m c : Nat) (news : List Value) (hl : news.length = m * size) (hnews : ∀ j u, news[j]? = some u → w.cell? (a.add j) = some u) (h1 : ∀ u ∈ news, u.oneCell' = true) (hm : 0 < m)
 (h63 : n + m ≤ maxLen) (hbytes : (n + m) * bytes ≤ 140737488355328) (hbase : base ≤ w.heap.size) :
 ∃ v' w', (Builtin.append_ #[ts, ts] ty #[v, .slice (some a) m c]).run P w = .ok v' w' ∧ LRow t w' base e size v' (n + m) (xs ++ news) ∧ w.grownBy w' v.ownBlock ∧ (v'.ownBlock = v.ownBlock ∨ ∃ b, v'.ownBlock = some b ∧ w.heap.size ≤ b) := by
 subst hsize
 subst hby
 have hsmall : n + m ≤ 9223372036854775807 := by simp only [maxLen] at h63; omega
 have hlen : (xs ++ news).length = (n + m) * i.size := by rw [List.length_append, hown.1, hl, Nat.add_mul]
 have grown : ∀ (old : Nat), old < n + m → ∀ (row : Option Nat),
  LRow t (w.drew.alloc (.cells (xs.toArray ++ news.toArray ++ Builtin.zeroCells z.cells (grownCap w (n + m) old e - (n + m))) e)) base e i.size
   (.slice (some ⟨w.heap.size, 0, none⟩) (n + m) (grownCap w (n + m) old e)) (n + m) (xs ++ news) ∧
  w.grownBy (w.drew.alloc (.cells (xs.toArray ++ news.toArray ++ Builtin.zeroCells z.cells (grownCap w (n + m) old e - (n + m))) e)) row := by
  intro old ho row
  have hge := grownCap_ge w (n + m) old e
  have hcm : grownCap w (n + m) old e ≤ maxLen := grownCap_le_maxLen w (n + m) old e h63
  refine ⟨⟨hlen, .inr ⟨w.heap.size, _, _, rfl, hbase, heap_alloc_new w.drew _, hge, hcm, Nat.le_of_eq ?_, ?_, fun _ => ?_⟩⟩, ⟨rfl, rfl, rfl, by simp, fun k hk _ => heap_alloc_old w.drew _ (h := hk)⟩⟩
  ·simp only [Array.size_append, List.size_toArray, size_zeroCells, hzs, hown.1, hl, ← Nat.add_mul]
   congr 1
   omega
  ·simp only [Array.toList_append, List.append_assoc]
   rw [← List.append_assoc, ← hlen]
   exact List.take_left
  ·simp only [Array.size_append, List.size_toArray, size_zeroCells, hzs, hown.1, hl, ← Nat.add_mul]
   congr 1
   omega
 rcases hown.2 with ⟨rfl, rfl⟩ | ⟨g, cap, cur, rfl, hbg, hg, hnc, hcm, hcs, htake, htt⟩
 ·have hx : xs = [] := List.eq_nil_of_length_eq_zero (by simpa using hown.1)
  subst hx
  have hr := run_append_nil (P := P) w ts ty e i z ht hi hz a m c news hl hnews (by omega) (by omega) (by have hb := hbytes; simp only [Nat.zero_add] at hb; omega)
  have hgr := grown 0 (by omega) (Value.ownBlock (.slice none 0 0))
  simp only [Nat.zero_add, List.nil_append, Array.empty_append] at hgr ⊢
  exact ⟨_, _, hr, hgr.1, hgr.2, .inr ⟨_, rfl, Nat.le_refl _⟩⟩
 ·by_cases hroom : n + m ≤ cap
  ·have hfit : n * i.size + news.length ≤ cur.size := by rw [hl, ← Nat.add_mul]; exact Nat.le_trans (Nat.mul_le_mul_right _ hroom) hcs
   have hr := run_append_room (P := P) w ts ty e i ht hi g n cap cur hg a m c news hl hnews h1 hroom hfit
   refine ⟨_, _, hr, ⟨hlen, .inr ⟨g, cap, _, rfl, hbg, setRow_heap w g cur _ e _ hg, hroom, hcm, ?_, ?_, fun q => ?_⟩⟩, ⟨rfl, rfl, rfl, by simp, fun k _ hk => setRow_other w g k _ (fun e => hk (by simp [Value.ownBlock, e]))⟩, .inl rfl⟩
   ·simp only [List.size_toArray, List.length_append, List.length_take, List.length_drop, Array.length_toList]
    omega
   ·rw [htake, ← hlen]
    exact List.take_left
   ·rw [← htt q]
    simp only [List.size_toArray, List.length_append, List.length_take, List.length_drop, Array.length_toList]
    omega
  ·have holds : ∀ j u, xs[j]? = some u → w.cell? ((⟨g, 0, none⟩ : Addr).add j) = some u := fun j u hj => by
    rw [Addr.add_lit, Nat.zero_add]
    exact hown.cell hj
   have hr := run_append_grow (P := P) w ts ty e i z ht hi hz ⟨g, 0, none⟩ n cap xs hown.1 holds a m c news hl hnews (by omega) (by omega) (growslice_fits (by omega) hbytes)
   have hgr := grown cap (by omega) (Value.ownBlock (.slice (some ⟨g, 0, none⟩) n cap))
   exact ⟨_, _, hr, hgr.1, hgr.2, .inr ⟨_, rfl, Nat.le_refl _⟩⟩
variable {ops : Array Oper} {o : Oper} {a : Act} {Kn : Act → World → Prop} {Q : Exit → Act → World → Prop} {R : Prop}
theorem LRow.step (hgd : o.guard = none) (s x : Operand) (ts : TypeId) (z : Value) (bytes : Nat) (ho : o.op = .call { callee := .builtin .append, args := #[s, x], argTypes := #[ts, ts] }) (ht : P.underlying ts = some (.slice e)) (hinfo : (P.info? e).map (fun i => (i.zero, i.size, i.bytes)) = some (some z, size, bytes)) (hzs : z.cells.size = size) (hsz : 0 < size) (hb0 : 0 < bytes)
 (hs : a.eval s = v) {g : Nat} (hx : a.eval x = .slice (some ⟨g, 0, none⟩) 1 1) {cs : List Value} (hb : w.heap[g]? = some (.cells cs.toArray e (0, 0))) (hcs : cs.length = size) (h1 : ∀ u ∈ cs, u.oneCell' = true) (hown : LRow t w base e size v n xs) (hbase : base ≤ w.heap.size) (hl : (n + 1) * bytes ≤ 140737488355328)
 (h : ∀ v1 w1, LRow t w1 base e size v1 (n + 1) (xs ++ cs) → w.grownBy w1 v.ownBlock → (v1.ownBlock = v.ownBlock ∨ ∃ b, v1.ownBlock = some b ∧ w.heap.size ≤ b) → Kn (a.put o.dst v1) w1) : if Region.wanted o (yielded ops a.tmps) = true then Oper.wp P o a w Kn Q else R := by
 refine Mp.step_of hgd ?_
 obtain ⟨i0, hi, hzz⟩ := Option.map_eq_some_iff.1 hinfo
 simp only [Prod.mk.injEq] at hzz
 obtain ⟨hz0, hz1, hz2⟩ := hzz
 have hlen : n + 1 ≤ 140737488355328 := Nat.le_trans (Nat.le_mul_of_pos_right _ hb0) hl
 obtain ⟨v', w', hrun, k1, k2, k3⟩ := hown.append ts o.type i0 z bytes ht hi hz0 hz1 hz2 hzs hsz ⟨g, 0, none⟩ 1 1 cs (by rw [hcs]; omega) (fun j u hj => by
  rw [Addr.add_lit, Nat.zero_add, blk_cell hb, List.getElem?_toArray]; exact hj) h1 (by omega) (by unfold maxLen; omega) hl hbase
 unfold Oper.wp
 simp [execOp, ho, resolve, invoke, builtin, hs, hx, hrun, Result.andThen]
 exact h _ _ k1 k2 k3
end
end Go.Proofs.YtaoichlepfiliaaGreatDoor.Msh
end
section
namespace Go.Proofs.YtaoichlepfiliaaGreatDoor.Msh
open Go.RowKit Go.Sort Go.ChangeMaps Go.MapKept Go.Proofs.YtaoichlepfiliaaGreatDoor.Mp Go.Proofs.YtaoichlepfiliaaGreatDoor.Adm Go.Proofs.YtaoichlepfiliaaGreatDoor.Kfl Go.Proofs.YtaoichlepfiliaaGreatDoorW.PrintWords Go.Proofs.YtaoichlepfiliaaGreatDoorW.PrintLast
set_option maxHeartbeats 1000000 in
theorem partcmp_call (x y : Tr) (w : World) : Calls Tryz.prog 87 #[encT x, encT y] w fun e w' => e = .returned (.int .i64 (cmp3 x y)) ∧ Gr w w' := by
 have hcm := fun B C w => compare3_call B C x y w
 generalize cmp3 x y = r at *
 obtain ⟨x0, x1, x2⟩ := x
 obtain ⟨y0, y1, y2⟩ := y
 unfold encT
 simp only at hcm ⊢
 obtain ⟨W1, hW1⟩ : ∃ W1, W1 = (w.alloc (.cells #[.int .i64 x0, .int .i64 x1, .int .i64 x2] 53)).alloc (.cells #[.int .i64 y0, .int .i64 y1, .int .i64 y2] 53) := ⟨_, rfl⟩
 have hG : Gr w W1 := by rw [hW1]; exact ((Gr.refl w).alloc _).alloc _
 have hb1 : W1.heap[w.heap.size]? = some (.cells #[.int .i64 x0, .int .i64 x1, .int .i64 x2] 53 (0, 0)) := by rw [hW1]; exact blk_alloc (blk_new _ _) _
 have hb2 : W1.heap[w.heap.size + 1]? = some (.cells #[.int .i64 y0, .int .i64 y1, .int .i64 y2] 53 (0, 0)) := by
  rw [hW1]
  have := blk_new (w.alloc (.cells #[.int .i64 x0, .int .i64 x1, .int .i64 x2] 53)) (.cells #[.int .i64 y0, .int .i64 y1, .int .i64 y2] 53)
  simpa using this
 have hcm2 := fun W (h : Gr W1 W) => hcm w.heap.size (w.heap.size + 1) W (blk_cell (gr_blk hb1 h) 0) (blk_cell (gr_blk hb1 h) 1) (blk_cell (gr_blk hb1 h) 2) (blk_cell (gr_blk hb2 h) 0) (blk_cell (gr_blk hb2 h) 1) (blk_cell (gr_blk hb2 h) 2)
 clear hcm
 have c1 := three_cells hb1
 have c2 := three_cells hb2
 obtain ⟨c10, c11, c12, c13, c14, c15, c16⟩ := c1
 obtain ⟨c20, c21, c22, c23, c24, c25, c26⟩ := c2
 go_enter Tryz.func87, Tryz.ntmps87
 go_upto_region 1 with (fail)
 rw [← hW1]
 clear hW1 hb1 hb2
 go_region_held3 (fun _ => True) (trivial) ((go_at_call 83; (with_reducible refine (hcm2 _ (by (with_reducible (repeat (first | exact Gr.refl _ | apply Gr.drew | apply Gr.drewN))))).mono ?_); rintro u_ w7 ⟨rfl, rfl⟩))
 all_goals
  go_wp2
  go_ret
  exact ⟨rfl, hG.drew⟩
structure Two (base : Nat) (vo vt : Value) (out todo : List Tr) (B : Nat) (x : Tr) (W : World) : Prop where
 out : LRow true W base 53 3 vo out.length (out.flatMap cT)
 todo : LRow false W base 53 3 vt todo.length (todo.flatMap cT)
 box : W.heap[B]? = some (.cells (cT x).toArray 53 (0, 0))
 ne : ∀ k, vo.ownBlock = some k → vt.ownBlock ≠ some k
 nbo : vo.ownBlock ≠ some B
 nbt : vt.ownBlock ≠ some B
 le : base ≤ W.heap.size
 boxb : base ≤ B
section
variable {base B : Nat} {vo vt v1 : Value} {out todo : List Tr} {x y : Tr} {W W1 : World}
theorem Two.keep (h : Two base vo vt out todo B x W) (hs : W.heap.size ≤ W1.heap.size) (hm : ∀ k, base ≤ k → k < W.heap.size → W1.heap[k]? = W.heap[k]?) : Two base vo vt out todo B x W1 :=
 ⟨h.out.move fun k hk => hm k (h.out.lt k hk).1 (h.out.lt k hk).2.1, h.todo.move fun k hk => hm k (h.todo.lt k hk).1 (h.todo.lt k hk).2.1, (hm B h.boxb (blk_lt h.box)).trans h.box, h.ne, h.nbo, h.nbt, Nat.le_trans h.le hs, h.boxb⟩
theorem Two.below (h : Two base vo vt out todo B x W) (hb : Below W.heap.size W W1) : Two base vo vt out todo B x W1 := h.keep hb.size fun k _ hk => hb.block k hk
theorem Two.alloc (h : Two base vo vt out todo B x W) (o : Obj) : Two base vo vt out todo B x (W.alloc o) := h.below (below_alloc (Below.refl _ _) o)
theorem Two.drew (h : Two base vo vt out todo B x W) : Two base vo vt out todo B x W.drew := h.below (below_drew1 (Below.refl _ _))
theorem own_new {v v1 : Value} {k n : Nat} (hat : v1.ownBlock = v.ownBlock ∨ ∃ b, v1.ownBlock = some b ∧ n ≤ b) (hk : k < n) (h : v.ownBlock ≠ some k) : v1.ownBlock ≠ some k := by
 rcases hat with e | ⟨b, e, hb⟩
 ·rw [e]; exact h
 ·rw [e]; intro q; injection q with q; omega
theorem flat_snoc (xs : List Tr) (y : Tr) : (xs ++ [y]).flatMap cT = xs.flatMap cT ++ cT y := by simp
theorem Two.push_out (h : Two base vo vt out todo B x W) (hr : LRow true W1 base 53 3 v1 (out.length + 1) (out.flatMap cT ++ cT y)) (hg : W.grownBy W1 vo.ownBlock) (hat : v1.ownBlock = vo.ownBlock ∨ ∃ b, v1.ownBlock = some b ∧ W.heap.size ≤ b) : Two base v1 vt (out ++ [y]) todo B x W1 where
 out := by rw [flat_snoc, List.length_append]; exact hr
 todo := h.todo.move fun k hk => hg.block k (h.todo.lt k hk).2.1 fun e => h.ne k e.symm hk
 box := (hg.block B (blk_lt h.box) fun e => h.nbo e.symm).trans h.box
 ne := fun k hk hk2 => own_new hat (h.todo.lt k hk2).2.1 (fun e => h.ne k e hk2) hk
 nbo := own_new hat (blk_lt h.box) h.nbo
 nbt := h.nbt
 le := Nat.le_trans h.le hg.size
 boxb := h.boxb
theorem Two.push_todo (h : Two base vo vt out todo B x W) (hr : LRow false W1 base 53 3 v1 (todo.length + 1) (todo.flatMap cT ++ cT y)) (hg : W.grownBy W1 vt.ownBlock) (hat : v1.ownBlock = vt.ownBlock ∨ ∃ b, v1.ownBlock = some b ∧ W.heap.size ≤ b) : Two base vo v1 out (todo ++ [y]) B x W1 where
 out := h.out.move fun k hk => hg.block k (h.out.lt k hk).2.1 fun e => h.ne k hk e.symm
 todo := by rw [flat_snoc, List.length_append]; exact hr
 box := (hg.block B (blk_lt h.box) fun e => h.nbt e.symm).trans h.box
 ne := fun k hk => own_new hat (h.out.lt k hk).2.1 (h.ne k hk)
 nbo := h.nbo
 nbt := own_new hat (blk_lt h.box) h.nbt
 le := Nat.le_trans h.le hg.size
 boxb := h.boxb
end
theorem bump {W : World} {sb : Nat} {gs : Tr → Option Value} {x : Tr} (h : MapF encT okT W sb gs) (hx : okT x) (hn : gs x = none) :
 ∃ (st : Nat) (W1 W2 : World), (Instr.lookup 50 (.map (some sb)) (encT x) false).run Tryz.prog W = .ok (.int .i64 0) W ∧ (Instr.lookup 50 (.map (some sb)) (encT x) false).run Tryz.prog W1 = .ok (.int .i64 0) W1 ∧
  (Instr.mapEntry 50 (.map (some sb)) (encT x)).run Tryz.prog W = .ok (.tuple #[.int .i64 0, .int .i64 (st : Nat)]) W1 ∧ (Instr.entryStore 50 (.map (some sb)) (.int .i64 (st : Nat)) (.int .i64 1)).run Tryz.prog W1 = .ok () W2 ∧
  MapF encT okT W2 sb (upd gs x (some (.int .i64 1))) ∧ Fr (· = sb) W W2 ∧ Fr (· = sb) W W1 := by
 obtain ⟨o1, st, h1, h2⟩ := h.entry (T := 50) kT Tryz.underlying50 zeroI hx
 obtain ⟨o2, h3, h4⟩ := h2.store (T := 50) kT (.int .i64 1)
 have k1 := h.lookup (w := W) kT Tryz.underlying50 (zeroI W) hx false
 have k2 := h2.map.lookup kT Tryz.underlying50 (zeroI _) hx false
 rw [hn] at h1 h2 k1 k2
 refine ⟨st, _, _, k1, ?_, h1, h3, ?_, ?_, ⟨rfl, rfl, rfl, by simp [setBlock], fun k _ hne => other_block hne _⟩⟩
 ·simpa [upd] using k2
 ·rw [upd_upd] at h4; exact h4
 ·refine ⟨rfl, rfl, rfl, by simp [setBlock], fun k hk hne => ?_⟩
  rw [other_block hne, other_block hne]
def edgeN (x : Tr) : Nat → Int × Int
 | 0 => (x.1, x.2.1)
 | 1 => (x.2.1, x.2.2)
 | _ => (x.2.2, x.1)
def didN (fx : Int → Int → Prop) (O : List Tr) (x : Tr) (k : Nat) (t : Tr) : Prop := ∃ j, j < k ∧ Beh O (edgeN x j).1 (edgeN x j).2 t ∧ ¬ fx (edgeN x j).1 (edgeN x j).2
theorem did_all {fx : Int → Int → Prop} {O : List Tr} (m : Mesh O) {x t : Tr} (hx : x ∈ O) (ht : t ∈ O) (h : Nb fx x t) : didN fx O x 3 t := by
 rcases (nb_iff m hx ht).mp h with h | h | h
 ·exact ⟨0, by omega, h⟩
 ·exact ⟨1, by omega, h⟩
 ·exact ⟨2, by omega, h⟩
theorem nb_of {fx : Int → Int → Prop} {O : List Tr} (m : Mesh O) {x t : Tr} {k : Nat} (hk : k < 3) (hx : x ∈ O) (ht : t ∈ O) (h : Beh O (edgeN x k).1 (edgeN x k).2 t) (hf : ¬ fx (edgeN x k).1 (edgeN x k).2) : Nb fx x t := by
 refine (nb_iff m hx ht).mpr ?_
 rcases (show k = 0 ∨ k = 1 ∨ k = 2 by omega) with rfl | rfl | rfl
 ·exact .inl ⟨h, hf⟩
 ·exact .inr (.inl ⟨h, hf⟩)
 ·exact .inr (.inr ⟨h, hf⟩)
theorem did_step {fx : Int → Int → Prop} {O : List Tr} {x t : Tr} {k : Nat} (h : didN fx O x (k + 1) t) : didN fx O x k t ∨ (Beh O (edgeN x k).1 (edgeN x k).2 t ∧ ¬ fx (edgeN x k).1 (edgeN x k).2) := by
 obtain ⟨j, hj, h⟩ := h
 rcases Nat.lt_or_eq_of_le (Nat.le_of_lt_succ hj) with q | q
 ·exact .inl ⟨j, q, h⟩
 ·subst q; exact .inr h
theorem beh_is {O : List Tr} (m : Mesh O) {a b c : Int} {t : Tr} (h : behind O b a = some c) (hb : Beh O a b t) : t = own (b, a, c) := by
 obtain ⟨d, h1, h2⟩ := hb
 rw [h2, m.one _ _ _ _ h1 (m.apx.mp h)]
def isIn (gs : Tr → Option Value) (t : Tr) : Prop := (gs t).isSome = true
structure POut (fx : Int → Int → Prop) (O : List Tr) (seen0 : Tr → Prop) (t0 : Tr) (out todo : List Tr) (gs : Tr → Option Value) : Prop where
 dfs : Dfs fx O seen0 t0 out todo (isIn gs)
 nd : todo.Nodup
 one : ∀ t v, gs t = some v → v = .int .i64 1
structure PIn (fx : Int → Int → Prop) (O : List Tr) (seen0 : Tr → Prop) (t0 x : Tr) (k : Nat) (n1 n0 : Nat) (out todo : List Tr) (gs : Tr → Option Value) : Prop where
 dfs : DfsIn fx O seen0 t0 x (didN fx O x k) out todo (isIn gs)
 nd : todo.Nodup
 one : ∀ t v, gs t = some v → v = .int .i64 1
 cnt : todo.length + n1 = out.length + n0
 more : n1 ≤ out.length
section
variable {fx : Int → Int → Prop} {O : List Tr} {seen0 : Tr → Prop} {t0 x : Tr} {k n1 n0 : Nat} {out todo : List Tr} {gs : Tr → Option Value}
theorem isIn_upd {y : Tr} {v : Value} (t : Tr) : isIn (upd gs y (some v)) t ↔ isIn gs t ∨ t = y := by
 unfold isIn upd
 by_cases h : t = y
 ·rw [if_pos h]; simp [h]
 ·rw [if_neg h]; simp [h]
theorem one_upd {y : Tr} (h : ∀ t v, gs t = some v → v = .int .i64 1) : ∀ t v, upd gs y (some (.int .i64 1)) t = some v → v = .int .i64 1 := fun t v => by
 unfold upd
 split
 ·intro e; injection e with e; exact e.symm
 ·exact h t v
theorem POut.begin (h1 : ∀ t v, gs t = some v → v = .int .i64 1) : POut fx O (isIn gs) t0 [t0] [t0] (upd gs t0 (some (.int .i64 1))) :=
 ⟨Dfs.begin fun y => isIn_upd y, by simp, one_upd h1⟩
theorem POut.take (h : POut fx O seen0 t0 out (todo ++ [x]) gs) : PIn fx O seen0 t0 x 0 out.length todo.length out todo gs := by
 have hd := h.dfs.take
 exact ⟨hd.skip fun t _ _ ⟨j, hj, _⟩ => absurd hj (Nat.not_lt_zero j), (List.nodup_append.mp h.nd).1, h.one, Nat.add_comm _ _, Nat.le_refl _⟩
theorem POut.small (h : POut fx O seen0 t0 out todo gs) (h0 : t0 ∈ O) : out.length ≤ O.length ∧ todo.length ≤ O.length := by
 have h1 := h.dfs.size h0
 have h2 := nodup_size todo out h.nd h.dfs.todo_out
 omega
theorem PIn.mem (h : PIn fx O seen0 t0 x k n1 n0 out todo gs) (h0 : t0 ∈ O) : x ∈ O := (h.dfs.conn x h.dfs.x_out).mem h0
theorem PIn.small (h : PIn fx O seen0 t0 x k n1 n0 out todo gs) (h0 : t0 ∈ O) : out.length ≤ O.length ∧ todo.length ≤ O.length := by
 have h1 := nodup_size out O h.dfs.nd fun y hy => (h.dfs.conn y hy).mem h0
 have h2 := nodup_size todo out h.nd h.dfs.todo_out
 omega
theorem PIn.fix (h : PIn fx O seen0 t0 x k n1 n0 out todo gs) (hf : fx (edgeN x k).1 (edgeN x k).2) : PIn fx O seen0 t0 x (k + 1) n1 n0 out todo gs :=
 ⟨h.dfs.skip fun _ _ _ q => .inl ((did_step q).resolve_right fun r => r.2 hf), h.nd, h.one, h.cnt, h.more⟩
theorem PIn.none_ (m : Mesh O) (h : PIn fx O seen0 t0 x k n1 n0 out todo gs) (hb : behind O (edgeN x k).2 (edgeN x k).1 = none) : PIn fx O seen0 t0 x (k + 1) n1 n0 out todo gs :=
 ⟨h.dfs.skip fun _ _ _ q => .inl ((did_step q).resolve_right fun ⟨⟨d, h1, _⟩, _⟩ => m.apx_none.mp hb d h1), h.nd, h.one, h.cnt, h.more⟩
theorem PIn.seen (m : Mesh O) (hc : ∀ t, Conn fx O t0 t → ¬ seen0 t) (h : PIn fx O seen0 t0 x k n1 n0 out todo gs) {c : Int} (hb : behind O (edgeN x k).2 (edgeN x k).1 = some c) (hs : isIn gs (own ((edgeN x k).2, (edgeN x k).1, c))) : PIn fx O seen0 t0 x (k + 1) n1 n0 out todo gs :=
 ⟨h.dfs.skip fun t ht hn q => by
  rcases did_step q with q | ⟨q, -⟩
  ·exact .inl q
  ·right
   have e := beh_is m hb q
   rcases (h.dfs.seen_iff _).mp hs with r | r
   ·exact absurd r (hc _ (by rw [← e]; exact .step (h.dfs.conn x h.dfs.x_out) ht hn))
   ·rw [e]; exact r, h.nd, h.one, h.cnt, h.more⟩
theorem PIn.push (m : Mesh O) (hk : k < 3) (h0 : t0 ∈ O) (h : PIn fx O seen0 t0 x k n1 n0 out todo gs) {c : Int} (hb : behind O (edgeN x k).2 (edgeN x k).1 = some c) (hf : ¬ fx (edgeN x k).1 (edgeN x k).2) {y : Tr} (hy : y = own ((edgeN x k).2, (edgeN x k).1, c)) (hs : gs y = none) :
 PIn fx O seen0 t0 x (k + 1) n1 n0 (out ++ [y]) (todo ++ [y]) (upd gs y (some (.int .i64 1))) := by
 have hyO : y ∈ O := by rw [hy]; exact m.apx.mp hb
 have hn : ¬ isIn gs y := by unfold isIn; rw [hs]; simp
 refine ⟨h.dfs.push hyO (nb_of m hk (h.mem h0) hyO ⟨c, m.apx.mp hb, hy⟩ hf) hn (fun z => isIn_upd z) fun t _ _ q => ?_, ?_, one_upd h.one, by have := h.cnt; simp; omega, by have := h.more; simp; omega⟩
 ·rcases did_step q with q | ⟨q, -⟩
  ·exact .inl q
  ·right; rw [hy]; exact beh_is m hb q
 ·rw [List.nodup_append]
  refine ⟨h.nd, by simp, fun a ha b hb e => ?_⟩
  rw [List.mem_singleton.mp hb] at e
  subst e
  exact hn ((h.dfs.seen_iff _).mpr (.inr (h.dfs.todo_out _ ha)))
theorem PIn.close (m : Mesh O) (h0 : t0 ∈ O) (h : PIn fx O seen0 t0 x 3 n1 n0 out todo gs) : POut fx O seen0 t0 out todo gs :=
 ⟨h.dfs.close fun _ ht hn => .inl (did_all m (h.mem h0) ht hn), h.nd, h.one⟩
end
structure Pt (w : World) (mb sb : Nat) (l : List S) (O F : List Tr) (M : Nat → Prop) (gs : Tr → Option Value) (vo vt : Value) (out todo : List Tr) (B : Nat) (x : Tr) (W : World) : Prop where
 mesh : MeshAt W mb l O F M
 map : MapF encT okT W sb gs
 rows : Two w.heap.size vo vt out todo B x W
 fr : Fr (· = sb) w W
section
variable {w W W1 : World} {mb sb : Nat} {l : List S} {O F : List Tr} {M : Nat → Prop} {gs gs1 : Tr → Option Value} {vo vt v1 vt1 : Value} {out todo out1 todo1 : List Tr} {B : Nat} {x : Tr}
theorem Pt.below (h : Pt w mb sb l O F M gs vo vt out todo B x W) (hb : Below W.heap.size W W1) : Pt w mb sb l O F M gs vo vt out todo B x W1 :=
 ⟨h.mesh.below hb, h.map.below hb, h.rows.below hb, h.fr.trans (Fr.of_below (M := fun k => k = sb) hb) fun _ _ q => q⟩
theorem Pt.gr (h : Pt w mb sb l O F M gs vo vt out todo B x W) (hb : Gr W W1) : Pt w mb sb l O F M gs vo vt out todo B x W1 := h.below hb.below
theorem Pt.turn (h : Pt w mb sb l O F M gs vo vt out todo B x W) (hM : ¬ M sb) (hsb : sb < w.heap.size) (hm : MapF encT okT W1 sb gs1) (hf : Fr (· = sb) W W1) : Pt w mb sb l O F M gs1 vo vt out todo B x W1 :=
 ⟨h.mesh.fr hf fun k hk e => hM (e ▸ hk), hm, h.rows.keep hf.size fun k h1 h2 => hf.block k h2 (by omega), h.fr.trans hf fun _ _ q => q⟩
theorem Pt.grow (h : Pt w mb sb l O F M gs vo vt out todo B x W) (hsb : sb < w.heap.size) (hMb : ∀ k, M k → k < w.heap.size) (hr : Two w.heap.size v1 vt1 out1 todo1 B x W1) (hf : Below w.heap.size W W1) : Pt w mb sb l O F M gs v1 vt1 out1 todo1 B x W1 :=
 ⟨h.mesh.move hf.size fun k hk => hf.block k (hMb k hk), h.map.move (hf.block sb hsb), hr, ⟨hf.os.trans h.fr.os, hf.tape.trans h.fr.tape, hf.output.trans h.fr.output, Nat.le_trans h.fr.size hf.size, fun k hk hn => (hf.block k hk).trans (h.fr.block k hk hn)⟩⟩
end
theorem below_then2 {B : Nat} {wc W w1 : World} (h : Below wc.heap.size wc W) (hle : B ≤ wc.heap.size) (k : Below B W w1) : Below B wc w1 := (h.mono hle).trans k
theorem blk_then {wc W : World} {q : Nat} {o : Obj} (h : Below wc.heap.size wc W) (hb : wc.heap[q]? = some o) : W.heap[q]? = some o := (h.block q (blk_lt hb)).trans hb
theorem blk_new2 (w : World) (o p : Obj) : ((w.alloc o).alloc p).heap[w.heap.size + 1]? = some p := by
 have := blk_new (w.alloc o) p
 simpa using this
theorem mesh_len {w : World} {mb : Nat} {l : List S} {O F : List Tr} {M : Nat → Prop} (h : MeshAt w mb l O F M) : O.length ≤ 1099511627776 := by
 obtain ⟨A, c, ab, sb, fb, f, g, s, h⟩ := h
 exact mesh_size h.mesh h.good.2 h.rng
theorem mesh_rng {w : World} {mb : Nat} {l : List S} {O F : List Tr} {M : Nat → Prop} (h : MeshAt w mb l O F M) {t : Tr} (ht : t ∈ O) : okT t := by
 obtain ⟨A, c, ab, sb, fb, f, g, s, h⟩ := h
 have := h.rng t ht
 have := h.good.2
 exact ⟨w64 (by omega) (by omega), w64 (by omega) (by omega), w64 (by omega) (by omega)⟩
theorem mesh_mesh {w : World} {mb : Nat} {l : List S} {O F : List Tr} {M : Nat → Prop} (h : MeshAt w mb l O F M) : Mesh O ∧ Up2 F := by
 obtain ⟨A, c, ab, sb, fb, f, g, s, h⟩ := h
 exact ⟨h.mesh, h.up2⟩
def lenOf : Value → Nat
 | .slice _ n _ => n
 | _ => 0
theorem LRow.len {t : Bool} {w : World} {base e size n : Nat} {v : Value} {xs : List Value} (h : LRow t w base e size v n xs) : lenOf v = n := by
 rcases h.2 with ⟨rfl, h0⟩ | ⟨g, cap, cur, rfl, -⟩
 ·rw [h0]; rfl
 ·rfl
theorem one_cells (y : Tr) : ∀ u ∈ cT y, u.oneCell' = true := fun u hu => by
 simp only [cT, List.mem_cons, List.not_mem_nil, or_false] at hu
 rcases hu with rfl | rfl | rfl <;> rfl
theorem infoTri : (Tryz.prog.info? 53).map (fun i => (i.zero, i.size, i.bytes)) = some (some (.agg #[.int .i64 0, .int .i64 0, .int .i64 0]), 3, 24) := by kernel_rfl
section
variable {ops : Array Oper} {o : Oper} {a : Act} {Kn : Act → World → Prop} {Q : Exit → Act → World → Prop} {R : Prop} {W : World} {base B : Nat} {vo vt : Value} {out todo : List Tr} {x : Tr}
theorem step_out (y : Tr) (hgd : o.guard = none) (s z : Operand) (ho : o.op = .call { callee := .builtin .append, args := #[s, z], argTypes := #[23, 23] }) (hs : a.eval s = vo) {g : Nat} (hx : a.eval z = .slice (some ⟨g, 0, none⟩) 1 1) (hT : Two base vo vt out todo B x W) (hb : W.heap[g]? = some (.cells (cT y).toArray 53 (0, 0))) (hl : out.length ≤ 1099511627776)
 (h : ∀ v1 w1, Two base v1 vt (out ++ [y]) todo B x w1 → Below base W w1 → (∀ q o, W.heap[q]? = some o → vo.ownBlock ≠ some q → w1.heap[q]? = some o) → Kn (a.put o.dst v1) w1) : if Region.wanted o (yielded ops a.tmps) = true then Oper.wp Tryz.prog o a W Kn Q else R :=
 LRow.step (t := true) hgd s z 23 (.agg #[.int .i64 0, .int .i64 0, .int .i64 0]) 24 ho Tryz.underlying23 infoTri rfl (by decide) (by decide) hs hx (cs := cT y) hb rfl (one_cells y) hT.out hT.le (by omega) fun v1 w1 k1 k2 k3 =>
  h v1 w1 (hT.push_out k1 k2 k3) (grown_below k2 (fun q hq => (hT.out.lt q hq).1) hT.le) fun q o hq hn => (k2.block q (blk_lt hq) fun e => hn e.symm).trans hq
theorem step_todo (y : Tr) (hgd : o.guard = none) (s z : Operand) (ho : o.op = .call { callee := .builtin .append, args := #[s, z], argTypes := #[23, 23] }) (hs : a.eval s = vt) {g : Nat} (hx : a.eval z = .slice (some ⟨g, 0, none⟩) 1 1) (hT : Two base vo vt out todo B x W) (hb : W.heap[g]? = some (.cells (cT y).toArray 53 (0, 0))) (hl : todo.length ≤ 1099511627776)
 (h : ∀ v1 w1, Two base vo v1 out (todo ++ [y]) B x w1 → Below base W w1 → (∀ q o, W.heap[q]? = some o → vt.ownBlock ≠ some q → w1.heap[q]? = some o) → Kn (a.put o.dst v1) w1) : if Region.wanted o (yielded ops a.tmps) = true then Oper.wp Tryz.prog o a W Kn Q else R :=
 LRow.step (t := false) hgd s z 23 (.agg #[.int .i64 0, .int .i64 0, .int .i64 0]) 24 ho Tryz.underlying23 infoTri rfl (by decide) (by decide) hs hx (cs := cT y) hb rfl (one_cells y) hT.todo hT.le (by omega) fun v1 w1 k1 k2 k3 =>
  h v1 w1 (hT.push_todo k1 k2 k3) (grown_below k2 (fun q hq => (hT.todo.lt q hq).1) hT.le) fun q o hq hn => (k2.block q (blk_lt hq) fun e => hn e.symm).trans hq
end
theorem flat_len (xs : List Tr) : (xs.flatMap cT).length = xs.length * 3 := by
 induction xs with
 | nil => rfl
 | cons a l ih => rw [List.flatMap_cons, List.length_append, ih, List.length_cons]; show 3 + _ = _; omega
theorem last_cell (xs : List Tr) (y : Tr) (j : Nat) : ((xs ++ [y]).flatMap cT)[xs.length * 3 + j]? = (cT y)[j]? := by
 rw [flat_snoc, List.getElem?_append_right (by rw [flat_len]; omega), flat_len]
 congr 1
 omega
theorem take_flat (xs : List Tr) (y : Tr) : ((xs ++ [y]).flatMap cT).take (xs.length * 3) = xs.flatMap cT := by
 rw [flat_snoc, ← flat_len, List.take_left]
theorem edge_cell {x : Tr} {W : World} {B k : Nat} (h : W.heap[B]? = some (.cells (cT x).toArray 53 (0, 0))) (hk : k < 3) : W.cell? ⟨B, k, none⟩ = some (.int .i64 (edgeN x k).1) ∧ W.cell? ⟨B, (k + 1) % 3, none⟩ = some (.int .i64 (edgeN x k).2) := by
 rcases (show k = 0 ∨ k = 1 ∨ k = 2 by omega) with rfl | rfl | rfl
 ·exact ⟨blk_cell h 0, blk_cell h 1⟩
 ·exact ⟨blk_cell h 1, blk_cell h 2⟩
 ·exact ⟨blk_cell h 2, blk_cell h 0⟩
theorem edge_ok {x : Tr} {k : Nat} (h : okT x) : W64 (edgeN x k).1 ∧ W64 (edgeN x k).2 := by
 obtain ⟨h1, h2, h3⟩ := h
 rcases k with _ | _ | k
 ·exact ⟨h1, h2⟩
 ·exact ⟨h2, h3⟩
 ·exact ⟨h3, h1⟩
theorem run_cut (w : World) (ad : Addr) (n cap m : Nat) (h : m ≤ cap) : (Instr.slice 23 (.slice (some ad) n cap) none (some (.int .i64 (m : Nat))) (some (.int .i64 (m : Nat)))).run Tryz.prog w = .ok (.slice (some ad) m m) w := by
 simp [Instr.slice, Instr.sliceBounds, Instr.sliceBound, asIntOf, run_underlying Tryz.underlying23, Tryz.sizeOf53, if_pos h, go_sem]
end Go.Proofs.YtaoichlepfiliaaGreatDoor.Msh
end
