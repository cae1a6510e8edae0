/- What the proof needs of Mde: only what is used is left (wip/tools/prune.py). Conditions stand in each sentence. -/
import Derived.Test.YtjiolfpahollkaaGreatDoorQNMdb
set_option linter.unusedVariables false
set_option linter.unusedSimpArgs false
namespace Go.Proofs.YtjiolfpahollkaaGreatDoor.Adm
end Go.Proofs.YtjiolfpahollkaaGreatDoor.Adm
namespace Go.Proofs.YtjiolfpahollkaaGreatDoor.Kfl
end Go.Proofs.YtjiolfpahollkaaGreatDoor.Kfl
namespace Go.Proofs.YtjiolfpahollkaaGreatDoor.Mp
end Go.Proofs.YtjiolfpahollkaaGreatDoor.Mp
namespace Go.Proofs.YtjiolfpahollkaaGreatDoorW.PrintLast
end Go.Proofs.YtjiolfpahollkaaGreatDoorW.PrintLast
namespace Go.Proofs.YtjiolfpahollkaaGreatDoorW.PrintMore
end Go.Proofs.YtjiolfpahollkaaGreatDoorW.PrintMore
namespace Go.Proofs.YtjiolfpahollkaaGreatDoorW.PrintWords
end Go.Proofs.YtjiolfpahollkaaGreatDoorW.PrintWords
namespace Go.Proofs.YtjiolfpahollkaaGreatDoor.Msh
open Go.RowKit Go.Sort Go.ChangeMaps Go.MapKept Go.Proofs.YtjiolfpahollkaaGreatDoor.Mp Go.Proofs.YtjiolfpahollkaaGreatDoor.Adm Go.Proofs.YtjiolfpahollkaaGreatDoor.Kfl Go.Proofs.YtjiolfpahollkaaGreatDoorW.PrintWords Go.Proofs.YtjiolfpahollkaaGreatDoorW.PrintLast Go.Proofs.YtjiolfpahollkaaGreatDoorW.PrintMore
def edgeN (x : Tr) : Nat → Int × Int
  | 0 => (x.1, x.2.1)
  | 1 => (x.2.1, x.2.2)
  | _ => (x.2.2, x.1)
def didN (fx : Int → Int → Prop) (O : List Tr) (x : Tr) (k : Nat) (t : Tr) : Prop := ∃ j, j < k ∧ Beh O (edgeN x j).1 (edgeN x j).2 t ∧ ¬ fx (edgeN x j).1 (edgeN x j).2
theorem did_all {fx : Int → Int → Prop} {O : List Tr} (m : Mesh O) {x t : Tr} (hx : x ∈ O) (ht : t ∈ O) (h : Nb fx x t) : didN fx O x 3 t := by
  rcases (nb_iff m hx ht).mp h with h | h | h
  · exact ⟨0, by omega, h⟩
  · exact ⟨1, by omega, h⟩
  · exact ⟨2, by omega, h⟩
theorem nb_of {fx : Int → Int → Prop} {O : List Tr} (m : Mesh O) {x t : Tr} {k : Nat} (hk : k < 3) (hx : x ∈ O) (ht : t ∈ O) (h : Beh O (edgeN x k).1 (edgeN x k).2 t) (hf : ¬ fx (edgeN x k).1 (edgeN x k).2) : Nb fx x t := by
  refine (nb_iff m hx ht).mpr ?_
  rcases (show k = 0 ∨ k = 1 ∨ k = 2 by omega) with rfl | rfl | rfl
  · exact .inl ⟨h, hf⟩
  · exact .inr (.inl ⟨h, hf⟩)
  · exact .inr (.inr ⟨h, hf⟩)
theorem did_step {fx : Int → Int → Prop} {O : List Tr} {x t : Tr} {k : Nat} (h : didN fx O x (k + 1) t) : didN fx O x k t ∨ (Beh O (edgeN x k).1 (edgeN x k).2 t ∧ ¬ fx (edgeN x k).1 (edgeN x k).2) := by
  obtain ⟨j, hj, h⟩ := h
  rcases Nat.lt_or_eq_of_le (Nat.le_of_lt_succ hj) with q | q
  · exact .inl ⟨j, q, h⟩
  · subst q; exact .inr h
theorem beh_is {O : List Tr} (m : Mesh O) {a b c : Int} {t : Tr} (h : behind O b a = some c) (hb : Beh O a b t) : t = own (b, a, c) := by
  obtain ⟨d, h1, h2⟩ := hb
  rw [h2, m.one _ _ _ _ h1 (m.apx.mp h)]
def isIn (gs : Tr → Option Value) (t : Tr) : Prop := (gs t).isSome = true
structure POut (fx : Int → Int → Prop) (O : List Tr) (seen0 : Tr → Prop) (t0 : Tr) (out todo : List Tr) (gs : Tr → Option Value) : Prop where
  dfs : Dfs fx O seen0 t0 out todo (isIn gs)
  nd : todo.Nodup
  one : ∀ t v, gs t = some v → v = .int .i64 1
structure PIn (fx : Int → Int → Prop) (O : List Tr) (seen0 : Tr → Prop) (t0 x : Tr) (k : Nat) (n1 n0 : Nat) (out todo : List Tr) (gs : Tr → Option Value) : Prop where
  dfs : DfsIn fx O seen0 t0 x (didN fx O x k) out todo (isIn gs)
  nd : todo.Nodup
  one : ∀ t v, gs t = some v → v = .int .i64 1
  cnt : todo.length + n1 = out.length + n0
  more : n1 ≤ out.length
section
variable {fx : Int → Int → Prop} {O : List Tr} {seen0 : Tr → Prop} {t0 x : Tr} {k n1 n0 : Nat} {out todo : List Tr} {gs : Tr → Option Value}
theorem isIn_upd {y : Tr} {v : Value} (t : Tr) : isIn (upd gs y (some v)) t ↔ isIn gs t ∨ t = y := by
  unfold isIn upd
  by_cases h : t = y
  · rw [if_pos h]; simp [h]
  · rw [if_neg h]; simp [h]
theorem one_upd {y : Tr} (h : ∀ t v, gs t = some v → v = .int .i64 1) : ∀ t v, upd gs y (some (.int .i64 1)) t = some v → v = .int .i64 1 := fun t v => by
  unfold upd
  split
  · intro e; injection e with e; exact e.symm
  · exact h t v
theorem POut.begin (h1 : ∀ t v, gs t = some v → v = .int .i64 1) : POut fx O (isIn gs) t0 [t0] [t0] (upd gs t0 (some (.int .i64 1))) :=
  ⟨Dfs.begin fun y => isIn_upd y, by simp, one_upd h1⟩
theorem POut.take (h : POut fx O seen0 t0 out (todo ++ [x]) gs) : PIn fx O seen0 t0 x 0 out.length todo.length out todo gs := by
  have hd := h.dfs.take
  exact ⟨hd.skip fun t _ _ ⟨j, hj, _⟩ => absurd hj (Nat.not_lt_zero j), (List.nodup_append.mp h.nd).1, h.one, Nat.add_comm _ _, Nat.le_refl _⟩
theorem POut.small (h : POut fx O seen0 t0 out todo gs) (h0 : t0 ∈ O) : out.length ≤ O.length ∧ todo.length ≤ O.length := by
  have h1 := h.dfs.size h0
  have h2 := nodup_size todo out h.nd h.dfs.todo_out
  omega
theorem PIn.mem (h : PIn fx O seen0 t0 x k n1 n0 out todo gs) (h0 : t0 ∈ O) : x ∈ O := (h.dfs.conn x h.dfs.x_out).mem h0
theorem PIn.small (h : PIn fx O seen0 t0 x k n1 n0 out todo gs) (h0 : t0 ∈ O) : out.length ≤ O.length ∧ todo.length ≤ O.length := by
  have h1 := nodup_size out O h.dfs.nd fun y hy => (h.dfs.conn y hy).mem h0
  have h2 := nodup_size todo out h.nd h.dfs.todo_out
  omega
theorem PIn.fix (h : PIn fx O seen0 t0 x k n1 n0 out todo gs) (hf : fx (edgeN x k).1 (edgeN x k).2) : PIn fx O seen0 t0 x (k + 1) n1 n0 out todo gs :=
  ⟨h.dfs.skip fun _ _ _ q => .inl ((did_step q).resolve_right fun r => r.2 hf), h.nd, h.one, h.cnt, h.more⟩
theorem PIn.none_ (m : Mesh O) (h : PIn fx O seen0 t0 x k n1 n0 out todo gs) (hb : behind O (edgeN x k).2 (edgeN x k).1 = none) : PIn fx O seen0 t0 x (k + 1) n1 n0 out todo gs :=
  ⟨h.dfs.skip fun _ _ _ q => .inl ((did_step q).resolve_right fun ⟨⟨d, h1, _⟩, _⟩ => m.apx_none.mp hb d h1), h.nd, h.one, h.cnt, h.more⟩
theorem PIn.seen (m : Mesh O) (hc : ∀ t, Conn fx O t0 t → ¬ seen0 t) (h : PIn fx O seen0 t0 x k n1 n0 out todo gs) {c : Int} (hb : behind O (edgeN x k).2 (edgeN x k).1 = some c) (hs : isIn gs (own ((edgeN x k).2, (edgeN x k).1, c))) : PIn fx O seen0 t0 x (k + 1) n1 n0 out todo gs :=
  ⟨h.dfs.skip fun t ht hn q => by
    rcases did_step q with q | ⟨q, -⟩
    · exact .inl q
    · right
      have e := beh_is m hb q
      rcases (h.dfs.seen_iff _).mp hs with r | r
      · exact absurd r (hc _ (by rw [← e]; exact .step (h.dfs.conn x h.dfs.x_out) ht hn))
      · rw [e]; exact r, h.nd, h.one, h.cnt, h.more⟩
theorem PIn.push (m : Mesh O) (hk : k < 3) (h0 : t0 ∈ O) (h : PIn fx O seen0 t0 x k n1 n0 out todo gs) {c : Int} (hb : behind O (edgeN x k).2 (edgeN x k).1 = some c) (hf : ¬ fx (edgeN x k).1 (edgeN x k).2) {y : Tr} (hy : y = own ((edgeN x k).2, (edgeN x k).1, c)) (hs : gs y = none) :
    PIn fx O seen0 t0 x (k + 1) n1 n0 (out ++ [y]) (todo ++ [y]) (upd gs y (some (.int .i64 1))) := by
  have hyO : y ∈ O := by rw [hy]; exact m.apx.mp hb
  have hn : ¬ isIn gs y := by unfold isIn; rw [hs]; simp
  refine ⟨h.dfs.push hyO (nb_of m hk (h.mem h0) hyO ⟨c, m.apx.mp hb, hy⟩ hf) hn (fun z => isIn_upd z) fun t _ _ q => ?_, ?_, one_upd h.one, by have := h.cnt; simp; omega, by have := h.more; simp; omega⟩
  · rcases did_step q with q | ⟨q, -⟩
    · exact .inl q
    · right; rw [hy]; exact beh_is m hb q
  · rw [List.nodup_append]
    refine ⟨h.nd, by simp, fun a ha b hb e => ?_⟩
    rw [List.mem_singleton.mp hb] at e
    subst e
    exact hn ((h.dfs.seen_iff _).mpr (.inr (h.dfs.todo_out _ ha)))
theorem PIn.close (m : Mesh O) (h0 : t0 ∈ O) (h : PIn fx O seen0 t0 x 3 n1 n0 out todo gs) : POut fx O seen0 t0 out todo gs :=
  ⟨h.dfs.close fun _ ht hn => .inl (did_all m (h.mem h0) ht hn), h.nd, h.one⟩
end
structure Pt (w : World) (mb sb : Nat) (l : List S) (O F : List Tr) (M : Nat → Prop) (gs : Tr → Option Value) (vo vt : Value) (out todo : List Tr) (B : Nat) (x : Tr) (W : World) : Prop where
  mesh : MeshAt W mb l O F M
  map : MapF encT okT W sb gs
  rows : Two w.heap.size vo vt out todo B x W
  fr : Fr (· = sb) w W
section
variable {w W W1 : World} {mb sb : Nat} {l : List S} {O F : List Tr} {M : Nat → Prop} {gs gs1 : Tr → Option Value} {vo vt v1 vt1 : Value} {out todo out1 todo1 : List Tr} {B : Nat} {x : Tr}
theorem Pt.below (h : Pt w mb sb l O F M gs vo vt out todo B x W) (hb : Below W.heap.size W W1) : Pt w mb sb l O F M gs vo vt out todo B x W1 :=
  ⟨h.mesh.below hb, h.map.below hb, h.rows.below hb, h.fr.trans (Fr.of_below (M := fun k => k = sb) hb) fun _ _ q => q⟩
theorem Pt.gr (h : Pt w mb sb l O F M gs vo vt out todo B x W) (hb : Gr W W1) : Pt w mb sb l O F M gs vo vt out todo B x W1 := h.below hb.below
theorem Pt.turn (h : Pt w mb sb l O F M gs vo vt out todo B x W) (hM : ¬ M sb) (hsb : sb < w.heap.size) (hm : MapF encT okT W1 sb gs1) (hf : Fr (· = sb) W W1) : Pt w mb sb l O F M gs1 vo vt out todo B x W1 :=
  ⟨h.mesh.fr hf fun k hk e => hM (e ▸ hk), hm, h.rows.keep hf.size fun k h1 h2 => hf.block k h2 (by omega), h.fr.trans hf fun _ _ q => q⟩
theorem Pt.grow (h : Pt w mb sb l O F M gs vo vt out todo B x W) (hsb : sb < w.heap.size) (hMb : ∀ k, M k → k < w.heap.size) (hr : Two w.heap.size v1 vt1 out1 todo1 B x W1) (hf : Below w.heap.size W W1) : Pt w mb sb l O F M gs v1 vt1 out1 todo1 B x W1 :=
  ⟨h.mesh.move hf.size fun k hk => hf.block k (hMb k hk), h.map.move (hf.block sb hsb), hr, ⟨hf.os.trans h.fr.os, hf.tape.trans h.fr.tape, hf.output.trans h.fr.output, Nat.le_trans h.fr.size hf.size, fun k hk hn => (hf.block k hk).trans (h.fr.block k hk hn)⟩⟩
end
theorem below_then2 {B : Nat} {wc W w1 : World} (h : Below wc.heap.size wc W) (hle : B ≤ wc.heap.size) (k : Below B W w1) : Below B wc w1 := (h.mono hle).trans k
theorem blk_then {wc W : World} {q : Nat} {o : Obj} (h : Below wc.heap.size wc W) (hb : wc.heap[q]? = some o) : W.heap[q]? = some o := (h.block q (blk_lt hb)).trans hb
theorem blk_new2 (w : World) (o p : Obj) : ((w.alloc o).alloc p).heap[w.heap.size + 1]? = some p := by
  have := blk_new (w.alloc o) p
  simpa using this
theorem mesh_len {w : World} {mb : Nat} {l : List S} {O F : List Tr} {M : Nat → Prop} (h : MeshAt w mb l O F M) : O.length ≤ 1099511627776 := by
  obtain ⟨A, c, ab, sb, fb, f, g, s, h⟩ := h
  exact mesh_size h.mesh h.good.2 h.rng
theorem mesh_rng {w : World} {mb : Nat} {l : List S} {O F : List Tr} {M : Nat → Prop} (h : MeshAt w mb l O F M) {t : Tr} (ht : t ∈ O) : okT t := by
  obtain ⟨A, c, ab, sb, fb, f, g, s, h⟩ := h
  have := h.rng t ht
  have := h.good.2
  exact ⟨w64 (by omega) (by omega), w64 (by omega) (by omega), w64 (by omega) (by omega)⟩
theorem mesh_mesh {w : World} {mb : Nat} {l : List S} {O F : List Tr} {M : Nat → Prop} (h : MeshAt w mb l O F M) : Mesh O ∧ Up2 F := by
  obtain ⟨A, c, ab, sb, fb, f, g, s, h⟩ := h
  exact ⟨h.mesh, h.up2⟩
def lenOf : Value → Nat
  | .slice _ n _ => n
  | _ => 0
theorem LRow.len {t : Bool} {w : World} {base e size n : Nat} {v : Value} {xs : List Value} (h : LRow t w base e size v n xs) : lenOf v = n := by
  rcases h.2 with ⟨rfl, h0⟩ | ⟨g, cap, cur, rfl, -⟩
  · rw [h0]; rfl
  · rfl
theorem one_cells (y : Tr) : ∀ u ∈ cT y, u.oneCell' = true := fun u hu => by
  simp only [cT, List.mem_cons, List.not_mem_nil, or_false] at hu
  rcases hu with rfl | rfl | rfl <;> rfl
theorem infoTri : (Tryz.prog.info? 53).map (fun i => (i.zero, i.size, i.bytes)) = some (some (.agg #[.int .i64 0, .int .i64 0, .int .i64 0]), 3, 24) := by kernel_rfl
section
variable {ops : Array Oper} {o : Oper} {a : Act} {Kn : Act → World → Prop} {Q : Exit → Act → World → Prop} {R : Prop} {W : World} {base B : Nat} {vo vt : Value} {out todo : List Tr} {x : Tr}
theorem step_out (y : Tr) (hgd : o.guard = none) (s z : Operand) (ho : o.op = .call { callee := .builtin .append, args := #[s, z], argTypes := #[23, 23] }) (hs : a.eval s = vo) {g : Nat} (hx : a.eval z = .slice (some ⟨g, 0, none⟩) 1 1) (hT : Two base vo vt out todo B x W) (hb : W.heap[g]? = some (.cells (cT y).toArray 53 (0, 0))) (hl : out.length ≤ 1099511627776)
    (h : ∀ v1 w1, Two base v1 vt (out ++ [y]) todo B x w1 → Below base W w1 → (∀ q o, W.heap[q]? = some o → vo.ownBlock ≠ some q → w1.heap[q]? = some o) → Kn (a.put o.dst v1) w1) : if Region.wanted o (yielded ops a.tmps) = true then Oper.wp Tryz.prog o a W Kn Q else R :=
  LRow.step (t := true) hgd s z 23 (.agg #[.int .i64 0, .int .i64 0, .int .i64 0]) 24 ho Tryz.underlying23 infoTri rfl (by decide) (by decide) hs hx (cs := cT y) hb rfl (one_cells y) hT.out hT.le (by omega) fun v1 w1 k1 k2 k3 =>
    h v1 w1 (hT.push_out k1 k2 k3) (grown_below k2 (fun q hq => (hT.out.lt q hq).1) hT.le) fun q o hq hn => (k2.block q (blk_lt hq) fun e => hn e.symm).trans hq
theorem step_todo (y : Tr) (hgd : o.guard = none) (s z : Operand) (ho : o.op = .call { callee := .builtin .append, args := #[s, z], argTypes := #[23, 23] }) (hs : a.eval s = vt) {g : Nat} (hx : a.eval z = .slice (some ⟨g, 0, none⟩) 1 1) (hT : Two base vo vt out todo B x W) (hb : W.heap[g]? = some (.cells (cT y).toArray 53 (0, 0))) (hl : todo.length ≤ 1099511627776)
    (h : ∀ v1 w1, Two base vo v1 out (todo ++ [y]) B x w1 → Below base W w1 → (∀ q o, W.heap[q]? = some o → vt.ownBlock ≠ some q → w1.heap[q]? = some o) → Kn (a.put o.dst v1) w1) : if Region.wanted o (yielded ops a.tmps) = true then Oper.wp Tryz.prog o a W Kn Q else R :=
  LRow.step (t := false) hgd s z 23 (.agg #[.int .i64 0, .int .i64 0, .int .i64 0]) 24 ho Tryz.underlying23 infoTri rfl (by decide) (by decide) hs hx (cs := cT y) hb rfl (one_cells y) hT.todo hT.le (by omega) fun v1 w1 k1 k2 k3 =>
    h v1 w1 (hT.push_todo k1 k2 k3) (grown_below k2 (fun q hq => (hT.todo.lt q hq).1) hT.le) fun q o hq hn => (k2.block q (blk_lt hq) fun e => hn e.symm).trans hq
end
theorem flat_len (xs : List Tr) : (xs.flatMap cT).length = xs.length * 3 := by
  induction xs with
  | nil => rfl
  | cons a l ih => rw [List.flatMap_cons, List.length_append, ih, List.length_cons]; show 3 + _ = _; omega
theorem last_cell (xs : List Tr) (y : Tr) (j : Nat) : ((xs ++ [y]).flatMap cT)[xs.length * 3 + j]? = (cT y)[j]? := by
  rw [flat_snoc, List.getElem?_append_right (by rw [flat_len]; omega), flat_len]
  congr 1
  omega
theorem take_flat (xs : List Tr) (y : Tr) : ((xs ++ [y]).flatMap cT).take (xs.length * 3) = xs.flatMap cT := by
  rw [flat_snoc, ← flat_len, List.take_left]
theorem edge_cell {x : Tr} {W : World} {B k : Nat} (h : W.heap[B]? = some (.cells (cT x).toArray 53 (0, 0))) (hk : k < 3) : W.cell? ⟨B, k, none⟩ = some (.int .i64 (edgeN x k).1) ∧ W.cell? ⟨B, (k + 1) % 3, none⟩ = some (.int .i64 (edgeN x k).2) := by
  rcases (show k = 0 ∨ k = 1 ∨ k = 2 by omega) with rfl | rfl | rfl
  · exact ⟨blk_cell h 0, blk_cell h 1⟩
  · exact ⟨blk_cell h 1, blk_cell h 2⟩
  · exact ⟨blk_cell h 2, blk_cell h 0⟩
theorem edge_ok {x : Tr} {k : Nat} (h : okT x) : W64 (edgeN x k).1 ∧ W64 (edgeN x k).2 := by
  obtain ⟨h1, h2, h3⟩ := h
  rcases k with _ | _ | k
  · exact ⟨h1, h2⟩
  · exact ⟨h2, h3⟩
  · exact ⟨h3, h1⟩
theorem run_cut (w : World) (ad : Addr) (n cap m : Nat) (h : m ≤ cap) : (Instr.slice 23 (.slice (some ad) n cap) none (some (.int .i64 (m : Nat))) (some (.int .i64 (m : Nat)))).run Tryz.prog w = .ok (.slice (some ad) m m) w := by
  simp [Instr.slice, Instr.sliceBounds, Instr.sliceBound, asIntOf, run_underlying Tryz.underlying23, Tryz.sizeOf53, if_pos h, go_sem]
end Go.Proofs.YtjiolfpahollkaaGreatDoor.Msh
