/- What the proof needs of Mdb: only what is used is left (wip/tools/prune.py). Conditions stand in each sentence. -/
import Derived.Laws.AppendOwn
import Derived.Test.YtjiolfpahollkaaGreatDoorQNMda
import Derived.Test.YtjiolfpahollkaaGreatDoorQNMmr
import Derived.Test.YtjiolfpahollkaaGreatDoorQNMpb
section
set_option linter.unusedVariables false
set_option linter.unusedSimpArgs false
namespace Go.Proofs.YtjiolfpahollkaaGreatDoor.Adm
end Go.Proofs.YtjiolfpahollkaaGreatDoor.Adm
namespace Go.Proofs.YtjiolfpahollkaaGreatDoor.Kfl
end Go.Proofs.YtjiolfpahollkaaGreatDoor.Kfl
namespace Go.Proofs.YtjiolfpahollkaaGreatDoorW.PrintLast
end Go.Proofs.YtjiolfpahollkaaGreatDoorW.PrintLast
namespace Go.Proofs.YtjiolfpahollkaaGreatDoorW.PrintMore
end Go.Proofs.YtjiolfpahollkaaGreatDoorW.PrintMore
namespace Go.Proofs.YtjiolfpahollkaaGreatDoorW.PrintWords
end Go.Proofs.YtjiolfpahollkaaGreatDoorW.PrintWords
namespace Go.Proofs.YtjiolfpahollkaaGreatDoor.Msh
open Go.RowKit Go.Proofs.YtjiolfpahollkaaGreatDoor.Adm Go.Proofs.YtjiolfpahollkaaGreatDoor.Kfl Go.Proofs.YtjiolfpahollkaaGreatDoorW.PrintWords Go.Proofs.YtjiolfpahollkaaGreatDoorW.PrintLast Go.Proofs.YtjiolfpahollkaaGreatDoorW.PrintMore
def LRow (t : Bool) (w : World) (base : Nat) (e : TypeId) (size : Nat) (v : Value) (n : Nat) (xs : List Value) : Prop :=
  xs.length = n * size ∧ ((v = .slice none 0 0 ∧ n = 0) ∨ ∃ g cap cur, v = .slice (some ⟨g, 0, none⟩) n cap ∧ base ≤ g ∧ w.heap[g]? = some (.cells cur e (0, 0)) ∧ n ≤ cap ∧ cap ≤ maxLen ∧ cap * size ≤ cur.size ∧ cur.toList.take (n * size) = xs ∧ (t = true → cur.size = cap * size))
section
variable {t : Bool} {w w' : World} {base n size : Nat} {e : TypeId} {v : Value} {xs : List Value}
theorem LRow.of_own (h : w.ownsRow base e size v n xs) : LRow t w base e size v n xs := by
  obtain ⟨h1, h2⟩ := h
  refine ⟨h1, ?_⟩
  rcases h2 with h2 | ⟨g, cap, cur, a1, a2, a3, a4, a5, a6, a7⟩
  · exact .inl h2
  · exact .inr ⟨g, cap, cur, a1, a2, a3, a4, a5, Nat.le_of_eq a6.symm, a7, fun _ => a6⟩
theorem LRow.own (h : LRow true w base e size v n xs) : w.ownsRow base e size v n xs := by
  obtain ⟨h1, h2⟩ := h
  refine ⟨h1, ?_⟩
  rcases h2 with h2 | ⟨g, cap, cur, a1, a2, a3, a4, a5, a6, a7, a8⟩
  · exact .inl h2
  · exact .inr ⟨g, cap, cur, a1, a2, a3, a4, a5, a8 rfl, a7⟩
theorem LRow.move (h : LRow t w base e size v n xs) (hm : ∀ k, v.ownBlock = some k → w'.heap[k]? = w.heap[k]?) : LRow t w' base e size v n xs := by
  obtain ⟨h1, h2⟩ := h
  refine ⟨h1, ?_⟩
  rcases h2 with h2 | ⟨g, cap, cur, rfl, a2, a3, r⟩
  · exact .inl h2
  · exact .inr ⟨g, cap, cur, rfl, a2, (hm g rfl).trans a3, r⟩
theorem LRow.lt (h : LRow t w base e size v n xs) : ∀ k, v.ownBlock = some k → base ≤ k ∧ k < w.heap.size ∧ ∃ cells, w.heap[k]? = some (.cells cells e (0, 0)) := by
  rcases h.2 with ⟨rfl, -⟩ | ⟨g, cap, cur, rfl, a2, a3, -⟩
  · intro k hk; simp [Value.ownBlock] at hk
  · intro k hk
    simp only [Value.ownBlock, Option.some.injEq] at hk
    subst hk
    exact ⟨a2, (Array.getElem?_eq_some_iff.1 a3).1, cur, a3⟩
theorem LRow.below (h : LRow t w base e size v n xs) (hb : Below w.heap.size w w') : LRow t w' base e size v n xs := h.move (fun k hk => hb.block k (h.lt k hk).2.1)
theorem LRow.cell {g cap : Nat} (h : LRow t w base e size (.slice (some ⟨g, 0, none⟩) n cap) n xs) {j : Nat} {u : Value} (hj : xs[j]? = some u) : w.cell? ⟨g, j, none⟩ = some u := by
  rcases h.2 with ⟨h0, -⟩ | ⟨g', cap', cur, hv, a2, a3, a4, a5, a6, a7, -⟩
  · cases h0
  · cases hv
    have hlt : j < n * size := by
      have := (List.getElem?_eq_some_iff.mp hj).1
      have := h.1
      omega
    rw [← a7, List.getElem?_take_of_lt hlt] at hj
    rw [blk_cell a3, ← Array.getElem?_toList]
    exact hj
theorem LRow.cut {g cap m : Nat} (h : LRow t w base e size (.slice (some ⟨g, 0, none⟩) n cap) n xs) (hm : m ≤ n) : LRow false w base e size (.slice (some ⟨g, 0, none⟩) m m) m (xs.take (m * size)) := by
  rcases h.2 with ⟨h0, -⟩ | ⟨g', cap', cur, hv, a2, a3, a4, a5, a6, a7, -⟩
  · cases h0
  · cases hv
    have h1 := Nat.mul_le_mul_right size hm
    have h2 := Nat.mul_le_mul_right size a4
    refine ⟨by rw [List.length_take, h.1]; omega, .inr ⟨g, m, cur, rfl, a2, a3, Nat.le_refl _, by omega, by omega, ?_, fun q => Bool.noConfusion q⟩⟩
    rw [← a7, List.take_take]
    congr 1
    omega
theorem LRow.shape (h : LRow t w base e size v n xs) (hn : 0 < n) : ∃ g cap, v = .slice (some ⟨g, 0, none⟩) n cap ∧ n ≤ cap := by
  rcases h.2 with ⟨-, h0⟩ | ⟨g, cap, cur, rfl, a2, a3, a4, -⟩
  · omega
  · exact ⟨g, cap, rfl, a4⟩
variable {P : Program}
theorem LRow.append (ts ty : TypeId) (i : TypeInfo) (z : Value) (bytes : Nat) (ht : P.underlying ts = some (.slice e)) (hi : P.info? e = some i) (hz : i.zero = some z) (hsize : i.size = size) (hby : i.bytes = bytes) (hzs : z.cells.size = size) (hsz : 0 < size)
    (hown : LRow t w base e size v n xs) (a : Addr) (m c : Nat) (news : List Value) (hl : news.length = m * size) (hnews : ∀ j u, news[j]? = some u → w.cell? (a.add j) = some u) (h1 : ∀ u ∈ news, u.oneCell' = true) (hm : 0 < m)
    (h63 : n + m ≤ maxLen) (hbytes : (n + m) * bytes ≤ 140737488355328) (hbase : base ≤ w.heap.size) :
    ∃ v' w', (Builtin.append_ #[ts, ts] ty #[v, .slice (some a) m c]).run P w = .ok v' w' ∧ LRow t w' base e size v' (n + m) (xs ++ news) ∧ w.grownBy w' v.ownBlock ∧ (v'.ownBlock = v.ownBlock ∨ ∃ b, v'.ownBlock = some b ∧ w.heap.size ≤ b) := by
  subst hsize
  subst hby
  have hsmall : n + m ≤ 9223372036854775807 := by simp only [maxLen] at h63; omega
  have hlen : (xs ++ news).length = (n + m) * i.size := by rw [List.length_append, hown.1, hl, Nat.add_mul]
  have grown : ∀ (old : Nat), old < n + m → ∀ (row : Option Nat),
      LRow t (w.drew.alloc (.cells (xs.toArray ++ news.toArray ++ Builtin.zeroCells z.cells (grownCap w (n + m) old e - (n + m))) e)) base e i.size
        (.slice (some ⟨w.heap.size, 0, none⟩) (n + m) (grownCap w (n + m) old e)) (n + m) (xs ++ news) ∧
      w.grownBy (w.drew.alloc (.cells (xs.toArray ++ news.toArray ++ Builtin.zeroCells z.cells (grownCap w (n + m) old e - (n + m))) e)) row := by
    intro old ho row
    have hge := grownCap_ge w (n + m) old e
    have hcm : grownCap w (n + m) old e ≤ maxLen := grownCap_le_maxLen w (n + m) old e h63
    refine ⟨⟨hlen, .inr ⟨w.heap.size, _, _, rfl, hbase, heap_alloc_new w.drew _, hge, hcm, Nat.le_of_eq ?_, ?_, fun _ => ?_⟩⟩, ⟨rfl, rfl, rfl, by simp, fun k hk _ => heap_alloc_old w.drew _ (h := hk)⟩⟩
    · simp only [Array.size_append, List.size_toArray, size_zeroCells, hzs, hown.1, hl, ← Nat.add_mul]
      congr 1
      omega
    · simp only [Array.toList_append, List.append_assoc]
      rw [← List.append_assoc, ← hlen]
      exact List.take_left
    · simp only [Array.size_append, List.size_toArray, size_zeroCells, hzs, hown.1, hl, ← Nat.add_mul]
      congr 1
      omega
  rcases hown.2 with ⟨rfl, rfl⟩ | ⟨g, cap, cur, rfl, hbg, hg, hnc, hcm, hcs, htake, htt⟩
  · have hx : xs = [] := List.eq_nil_of_length_eq_zero (by simpa using hown.1)
    subst hx
    have hr := run_append_nil (P := P) w ts ty e i z ht hi hz a m c news hl hnews (by omega) (by omega) (by have hb := hbytes; simp only [Nat.zero_add] at hb; omega)
    have hgr := grown 0 (by omega) (Value.ownBlock (.slice none 0 0))
    simp only [Nat.zero_add, List.nil_append, Array.empty_append] at hgr ⊢
    exact ⟨_, _, hr, hgr.1, hgr.2, .inr ⟨_, rfl, Nat.le_refl _⟩⟩
  · by_cases hroom : n + m ≤ cap
    · have hfit : n * i.size + news.length ≤ cur.size := by rw [hl, ← Nat.add_mul]; exact Nat.le_trans (Nat.mul_le_mul_right _ hroom) hcs
      have hr := run_append_room (P := P) w ts ty e i ht hi g n cap cur hg a m c news hl hnews h1 hroom hfit
      refine ⟨_, _, hr, ⟨hlen, .inr ⟨g, cap, _, rfl, hbg, setRow_heap w g cur _ e _ hg, hroom, hcm, ?_, ?_, fun q => ?_⟩⟩, ⟨rfl, rfl, rfl, by simp, fun k _ hk => setRow_other w g k _ (fun e => hk (by simp [Value.ownBlock, e]))⟩, .inl rfl⟩
      · simp only [List.size_toArray, List.length_append, List.length_take, List.length_drop, Array.length_toList]
        omega
      · rw [htake, ← hlen]
        exact List.take_left
      · rw [← htt q]
        simp only [List.size_toArray, List.length_append, List.length_take, List.length_drop, Array.length_toList]
        omega
    · have holds : ∀ j u, xs[j]? = some u → w.cell? ((⟨g, 0, none⟩ : Addr).add j) = some u := fun j u hj => by
        rw [Addr.add_lit, Nat.zero_add]
        exact hown.cell hj
      have hr := run_append_grow (P := P) w ts ty e i z ht hi hz ⟨g, 0, none⟩ n cap xs hown.1 holds a m c news hl hnews (by omega) (by omega) (growslice_fits (by omega) hbytes)
      have hgr := grown cap (by omega) (Value.ownBlock (.slice (some ⟨g, 0, none⟩) n cap))
      exact ⟨_, _, hr, hgr.1, hgr.2, .inr ⟨_, rfl, Nat.le_refl _⟩⟩
variable {ops : Array Oper} {o : Oper} {a : Act} {Kn : Act → World → Prop} {Q : Exit → Act → World → Prop} {R : Prop}
theorem LRow.step (hgd : o.guard = none) (s x : Operand) (ts : TypeId) (z : Value) (bytes : Nat) (ho : o.op = .call { callee := .builtin .append, args := #[s, x], argTypes := #[ts, ts] }) (ht : P.underlying ts = some (.slice e)) (hinfo : (P.info? e).map (fun i => (i.zero, i.size, i.bytes)) = some (some z, size, bytes)) (hzs : z.cells.size = size) (hsz : 0 < size) (hb0 : 0 < bytes)
    (hs : a.eval s = v) {g : Nat} (hx : a.eval x = .slice (some ⟨g, 0, none⟩) 1 1) {cs : List Value} (hb : w.heap[g]? = some (.cells cs.toArray e (0, 0))) (hcs : cs.length = size) (h1 : ∀ u ∈ cs, u.oneCell' = true) (hown : LRow t w base e size v n xs) (hbase : base ≤ w.heap.size) (hl : (n + 1) * bytes ≤ 140737488355328)
    (h : ∀ v1 w1, LRow t w1 base e size v1 (n + 1) (xs ++ cs) → w.grownBy w1 v.ownBlock → (v1.ownBlock = v.ownBlock ∨ ∃ b, v1.ownBlock = some b ∧ w.heap.size ≤ b) → Kn (a.put o.dst v1) w1) : if Region.wanted o (yielded ops a.tmps) = true then Oper.wp P o a w Kn Q else R := by
  refine Mp.step_of hgd ?_
  obtain ⟨i0, hi, hzz⟩ := Option.map_eq_some_iff.1 hinfo
  simp only [Prod.mk.injEq] at hzz
  obtain ⟨hz0, hz1, hz2⟩ := hzz
  have hlen : n + 1 ≤ 140737488355328 := Nat.le_trans (Nat.le_mul_of_pos_right _ hb0) hl
  obtain ⟨v', w', hrun, k1, k2, k3⟩ := hown.append ts o.type i0 z bytes ht hi hz0 hz1 hz2 hzs hsz ⟨g, 0, none⟩ 1 1 cs (by rw [hcs]; omega) (fun j u hj => by
    rw [Addr.add_lit, Nat.zero_add, blk_cell hb, List.getElem?_toArray]; exact hj) h1 (by omega) (by unfold maxLen; omega) hl hbase
  unfold Oper.wp
  simp [execOp, ho, resolve, invoke, builtin, hs, hx, hrun, Result.andThen]
  exact h _ _ k1 k2 k3
end
end Go.Proofs.YtjiolfpahollkaaGreatDoor.Msh
end
section
set_option linter.unusedVariables false
set_option linter.unusedSimpArgs false
namespace Go.Proofs.YtjiolfpahollkaaGreatDoor.Adm
end Go.Proofs.YtjiolfpahollkaaGreatDoor.Adm
namespace Go.Proofs.YtjiolfpahollkaaGreatDoor.Kfl
end Go.Proofs.YtjiolfpahollkaaGreatDoor.Kfl
namespace Go.Proofs.YtjiolfpahollkaaGreatDoor.Mp
end Go.Proofs.YtjiolfpahollkaaGreatDoor.Mp
namespace Go.Proofs.YtjiolfpahollkaaGreatDoorW.PrintLast
end Go.Proofs.YtjiolfpahollkaaGreatDoorW.PrintLast
namespace Go.Proofs.YtjiolfpahollkaaGreatDoorW.PrintMore
end Go.Proofs.YtjiolfpahollkaaGreatDoorW.PrintMore
namespace Go.Proofs.YtjiolfpahollkaaGreatDoorW.PrintWords
end Go.Proofs.YtjiolfpahollkaaGreatDoorW.PrintWords
namespace Go.Proofs.YtjiolfpahollkaaGreatDoor.Msh
open Go.RowKit Go.Sort Go.ChangeMaps Go.MapKept Go.Proofs.YtjiolfpahollkaaGreatDoor.Mp Go.Proofs.YtjiolfpahollkaaGreatDoor.Adm Go.Proofs.YtjiolfpahollkaaGreatDoor.Kfl Go.Proofs.YtjiolfpahollkaaGreatDoorW.PrintWords Go.Proofs.YtjiolfpahollkaaGreatDoorW.PrintLast Go.Proofs.YtjiolfpahollkaaGreatDoorW.PrintMore
set_option maxHeartbeats 1000000 in
theorem partcmp_call (x y : Tr) (w : World) : Calls Tryz.prog 132 #[encT x, encT y] w fun e w' => e = .returned (.int .i64 (cmp3 x y)) ∧ Gr w w' := by
  have hcm := fun B C w => compare3_call B C x y w
  generalize cmp3 x y = r at *
  obtain ⟨x0, x1, x2⟩ := x
  obtain ⟨y0, y1, y2⟩ := y
  unfold encT
  simp only at hcm ⊢
  obtain ⟨W1, hW1⟩ : ∃ W1, W1 = (w.alloc (.cells #[.int .i64 x0, .int .i64 x1, .int .i64 x2] 53)).alloc (.cells #[.int .i64 y0, .int .i64 y1, .int .i64 y2] 53) := ⟨_, rfl⟩
  have hG : Gr w W1 := by rw [hW1]; exact ((Gr.refl w).alloc _).alloc _
  have hb1 : W1.heap[w.heap.size]? = some (.cells #[.int .i64 x0, .int .i64 x1, .int .i64 x2] 53 (0, 0)) := by rw [hW1]; exact blk_alloc (blk_new _ _) _
  have hb2 : W1.heap[w.heap.size + 1]? = some (.cells #[.int .i64 y0, .int .i64 y1, .int .i64 y2] 53 (0, 0)) := by
    rw [hW1]
    have := blk_new (w.alloc (.cells #[.int .i64 x0, .int .i64 x1, .int .i64 x2] 53)) (.cells #[.int .i64 y0, .int .i64 y1, .int .i64 y2] 53)
    simpa using this
  have hcm2 := fun W (h : Gr W1 W) => hcm w.heap.size (w.heap.size + 1) W (blk_cell (gr_blk hb1 h) 0) (blk_cell (gr_blk hb1 h) 1) (blk_cell (gr_blk hb1 h) 2) (blk_cell (gr_blk hb2 h) 0) (blk_cell (gr_blk hb2 h) 1) (blk_cell (gr_blk hb2 h) 2)
  clear hcm
  have c1 := three_cells hb1
  have c2 := three_cells hb2
  obtain ⟨c10, c11, c12, c13, c14, c15, c16⟩ := c1
  obtain ⟨c20, c21, c22, c23, c24, c25, c26⟩ := c2
  go_enter Tryz.func132, Tryz.ntmps132
  go_upto_region 1 with (fail)
  rw [← hW1]
  clear hW1 hb1 hb2
  go_region_held3 (fun _ => True) (trivial) ((go_at_call 128; (with_reducible refine (hcm2 _ (by (with_reducible (repeat (first | exact Gr.refl _ | apply Gr.drew | apply Gr.drewN))))).mono ?_); rintro u_ w7 ⟨rfl, rfl⟩))
  all_goals
    go_wp2
    go_ret
    exact ⟨rfl, hG.drew⟩
structure Two (base : Nat) (vo vt : Value) (out todo : List Tr) (B : Nat) (x : Tr) (W : World) : Prop where
  out : LRow true W base 53 3 vo out.length (out.flatMap cT)
  todo : LRow false W base 53 3 vt todo.length (todo.flatMap cT)
  box : W.heap[B]? = some (.cells (cT x).toArray 53 (0, 0))
  ne : ∀ k, vo.ownBlock = some k → vt.ownBlock ≠ some k
  nbo : vo.ownBlock ≠ some B
  nbt : vt.ownBlock ≠ some B
  le : base ≤ W.heap.size
  boxb : base ≤ B
section
variable {base B : Nat} {vo vt v1 : Value} {out todo : List Tr} {x y : Tr} {W W1 : World}
theorem Two.keep (h : Two base vo vt out todo B x W) (hs : W.heap.size ≤ W1.heap.size) (hm : ∀ k, base ≤ k → k < W.heap.size → W1.heap[k]? = W.heap[k]?) : Two base vo vt out todo B x W1 :=
  ⟨h.out.move fun k hk => hm k (h.out.lt k hk).1 (h.out.lt k hk).2.1, h.todo.move fun k hk => hm k (h.todo.lt k hk).1 (h.todo.lt k hk).2.1, (hm B h.boxb (blk_lt h.box)).trans h.box, h.ne, h.nbo, h.nbt, Nat.le_trans h.le hs, h.boxb⟩
theorem Two.below (h : Two base vo vt out todo B x W) (hb : Below W.heap.size W W1) : Two base vo vt out todo B x W1 := h.keep hb.size fun k _ hk => hb.block k hk
theorem Two.alloc (h : Two base vo vt out todo B x W) (o : Obj) : Two base vo vt out todo B x (W.alloc o) := h.below (below_alloc (Below.refl _ _) o)
theorem Two.drew (h : Two base vo vt out todo B x W) : Two base vo vt out todo B x W.drew := h.below (below_drew1 (Below.refl _ _))
theorem own_new {v v1 : Value} {k n : Nat} (hat : v1.ownBlock = v.ownBlock ∨ ∃ b, v1.ownBlock = some b ∧ n ≤ b) (hk : k < n) (h : v.ownBlock ≠ some k) : v1.ownBlock ≠ some k := by
  rcases hat with e | ⟨b, e, hb⟩
  · rw [e]; exact h
  · rw [e]; intro q; injection q with q; omega
theorem flat_snoc (xs : List Tr) (y : Tr) : (xs ++ [y]).flatMap cT = xs.flatMap cT ++ cT y := by simp
theorem Two.push_out (h : Two base vo vt out todo B x W) (hr : LRow true W1 base 53 3 v1 (out.length + 1) (out.flatMap cT ++ cT y)) (hg : W.grownBy W1 vo.ownBlock) (hat : v1.ownBlock = vo.ownBlock ∨ ∃ b, v1.ownBlock = some b ∧ W.heap.size ≤ b) : Two base v1 vt (out ++ [y]) todo B x W1 where
  out := by rw [flat_snoc, List.length_append]; exact hr
  todo := h.todo.move fun k hk => hg.block k (h.todo.lt k hk).2.1 fun e => h.ne k e.symm hk
  box := (hg.block B (blk_lt h.box) fun e => h.nbo e.symm).trans h.box
  ne := fun k hk hk2 => own_new hat (h.todo.lt k hk2).2.1 (fun e => h.ne k e hk2) hk
  nbo := own_new hat (blk_lt h.box) h.nbo
  nbt := h.nbt
  le := Nat.le_trans h.le hg.size
  boxb := h.boxb
theorem Two.push_todo (h : Two base vo vt out todo B x W) (hr : LRow false W1 base 53 3 v1 (todo.length + 1) (todo.flatMap cT ++ cT y)) (hg : W.grownBy W1 vt.ownBlock) (hat : v1.ownBlock = vt.ownBlock ∨ ∃ b, v1.ownBlock = some b ∧ W.heap.size ≤ b) : Two base vo v1 out (todo ++ [y]) B x W1 where
  out := h.out.move fun k hk => hg.block k (h.out.lt k hk).2.1 fun e => h.ne k hk e.symm
  todo := by rw [flat_snoc, List.length_append]; exact hr
  box := (hg.block B (blk_lt h.box) fun e => h.nbt e.symm).trans h.box
  ne := fun k hk => own_new hat (h.out.lt k hk).2.1 (h.ne k hk)
  nbo := h.nbo
  nbt := own_new hat (blk_lt h.box) h.nbt
  le := Nat.le_trans h.le hg.size
  boxb := h.boxb
end
theorem bump {W : World} {sb : Nat} {gs : Tr → Option Value} {x : Tr} (h : MapF encT okT W sb gs) (hx : okT x) (hn : gs x = none) :
    ∃ (st : Nat) (W1 W2 : World), (Instr.lookup 50 (.map (some sb)) (encT x) false).run Tryz.prog W = .ok (.int .i64 0) W ∧ (Instr.lookup 50 (.map (some sb)) (encT x) false).run Tryz.prog W1 = .ok (.int .i64 0) W1 ∧
      (Instr.mapEntry 50 (.map (some sb)) (encT x)).run Tryz.prog W = .ok (.tuple #[.int .i64 0, .int .i64 (st : Nat)]) W1 ∧ (Instr.entryStore 50 (.map (some sb)) (.int .i64 (st : Nat)) (.int .i64 1)).run Tryz.prog W1 = .ok () W2 ∧
      MapF encT okT W2 sb (upd gs x (some (.int .i64 1))) ∧ Fr (· = sb) W W2 ∧ Fr (· = sb) W W1 := by
  obtain ⟨o1, st, h1, h2⟩ := h.entry (T := 50) kT Tryz.underlying50 zeroI hx
  obtain ⟨o2, h3, h4⟩ := h2.store (T := 50) kT (.int .i64 1)
  have k1 := h.lookup (w := W) kT Tryz.underlying50 (zeroI W) hx false
  have k2 := h2.map.lookup kT Tryz.underlying50 (zeroI _) hx false
  rw [hn] at h1 h2 k1 k2
  refine ⟨st, _, _, k1, ?_, h1, h3, ?_, ?_, ⟨rfl, rfl, rfl, by simp [setBlock], fun k _ hne => other_block hne _⟩⟩
  · simpa [upd] using k2
  · rw [upd_upd] at h4; exact h4
  · refine ⟨rfl, rfl, rfl, by simp [setBlock], fun k hk hne => ?_⟩
    rw [other_block hne, other_block hne]
end Go.Proofs.YtjiolfpahollkaaGreatDoor.Msh
end
