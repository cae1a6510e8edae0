/- Lemmas of Rfe. Conditions stand in each. -/
import Derived.Test.YtaoichlepfiliaaGreatDoorQXRfb
import Derived.Test.YtaoichlepfiliaaGreatDoorQXNwi
import Derived.Test.YtaoichlepfiliaaGreatDoorQXMdx
import Derived.Test.YtaoichlepfiliaaGreatDoorQXMcj
set_option linter.unusedSimpArgs false
set_option linter.unusedVariables false
section
namespace Go.Proofs.YtaoichlepfiliaaGreatDoor.Msh
open Go.RowKit Go.Sort Go.ChangeMaps Go.MapKept Go.Proofs.YtaoichlepfiliaaGreatDoor.Mp Go.Proofs.YtaoichlepfiliaaGreatDoor.Adm Go.Proofs.YtaoichlepfiliaaGreatDoor.Kfl Go.Proofs.YtaoichlepfiliaaGreatDoor.R Go.Proofs.YtaoichlepfiliaaGreatDoor.E Go.Proofs.YtaoichlepfiliaaGreatDoorW.PrintWords Go.Proofs.YtaoichlepfiliaaGreatDoorW.PrintLast
theorem flat_lrow {α : Type} {d : Kd α} {enc : α → List Value} (F : Flat d enc) {e base : Nat} {W : World} {ok : Nat → Prop} {v : Value} {xs : List α} (h : d.R e W base ok v xs) : LRow true W base e d.sz v xs.length (xs.flatMap enc) := LRow.of_own (F.row.mp h).2
theorem flat_move {α : Type} {d : Kd α} {enc : α → List Value} (F : Flat d enc) {e base : Nat} {W W1 : World} {ok : Nat → Prop} {v : Value} {xs : List α} (h : d.R e W base ok v xs) (hm : ∀ k, v.ownBlock = some k → W1.heap[k]? = W.heap[k]?) : d.R e W1 base ok v xs := F.row.mpr ⟨(F.row.mp h).1, own_move (F.row.mp h).2 hm⟩
theorem flat_bound {α : Type} {d : Kd α} {enc : α → List Value} (F : Flat d enc) {e base : Nat} {W : World} {ok : Nat → Prop} {v : Value} {xs : List α} (h : d.R e W base ok v xs) : d.R e W base (fun k => ok k ∧ k < W.heap.size) v xs := F.row.mpr ⟨fun k hk => ⟨(F.row.mp h).1 k hk, ((flat_lrow F h).lt k hk).2.1⟩, (F.row.mp h).2⟩
theorem flat_ok {α : Type} {d : Kd α} {enc : α → List Value} (F : Flat d enc) {e base : Nat} {W : World} {ok ok' : Nat → Prop} {v : Value} {xs : List α} (h : d.R e W base ok v xs) (hk : ∀ k, ok k → ok' k) : d.R e W base ok' v xs := F.row.mpr ⟨fun k q => hk k ((F.row.mp h).1 k q), (F.row.mp h).2⟩
theorem LRow.off {t : Bool} {W : World} {base : Nat} {v : Value} {e size n : Nat} {xs : List Value} (h : LRow t W base e size v n xs) {b : Nat} {o : Obj} (hb : W.heap[b]? = some o) (ho : ∀ cs, o ≠ .cells cs e (0, 0)) : v.ownBlock ≠ some b := fun q => by
 obtain ⟨-, -, cells, hc⟩ := h.lt b q
 rw [hb] at hc
 injection hc with hc
 exact ho _ hc
theorem grown_not {w w1 : World} {r : Option Nat} (hg : w.grownBy w1 r) {k : Nat} (hk : k < w.heap.size) (hn : r ≠ some k) : w1.heap[k]? = w.heap[k]? := hg.block k hk fun q => hn q.symm
section
variable {w w1 : World} {xb : Nat} {A : Option Addr} {c : Nat} {vT vF v1 : Value} {l : List S} {T F T' F' : List Tr} {X : Nat → Prop}
theorem RefIn.grow_tri (h : RefIn w xb A c vT vF l T F X) (hR : kTr.R 53 w1 0 (fun k => X k ∨ w.heap.size ≤ k) v1 T') (hg : w.grownBy w1 vT.ownBlock) : RefAt (w1.setCell ⟨xb, 1, none⟩ v1) xb l T' F (fun k => (X k ∨ w.heap.size ≤ k) ∧ k < w1.heap.size) ∧ Fr X w (w1.setCell ⟨xb, 1, none⟩ v1) := by
 have lT := flat_lrow flatT h.tri
 have lF := flat_lrow flatT h.seg
 have lP := flat_lrow flatP h.pts
 have nx : vT.ownBlock ≠ some xb := lT.off h.blk (fun cs e => by injection e with _ e1; exact absurd e1 (by decide))
 have nF : ∀ k, vF.ownBlock = some k → vT.ownBlock ≠ some k := fun k hk => by
  obtain ⟨-, -, cs, hc⟩ := lF.lt k hk
  exact lT.off hc (fun cs e => by injection e with _ e1; exact absurd e1 (by decide))
 have nP : ∀ k, (Value.slice A l.length c).ownBlock = some k → vT.ownBlock ≠ some k := fun k hk => by
  obtain ⟨-, -, cs, hc⟩ := lP.lt k hk
  exact lT.off hc (fun cs e => by injection e with _ e1; exact absurd e1 (by decide))
 have xF : ∀ k, vF.ownBlock = some k → k ≠ xb := fun k hk e => by
  subst e
  exact lF.off h.blk (fun cs e => by injection e with _ e1; exact absurd e1 (by decide)) hk
 have xP : ∀ k, (Value.slice A l.length c).ownBlock = some k → k ≠ xb := fun k hk e => by
  subst e
  exact lP.off h.blk (fun cs e => by injection e with _ e1; exact absurd e1 (by decide)) hk
 have hx := h.old xb h.mine
 have hb1 : w1.heap[xb]? = some (.cells #[.slice A l.length c, vT, vF] 43 (0, 0)) := (grown_not hg hx nx).trans h.blk
 have x1 : ∀ k, v1.ownBlock = some k → k ≠ xb := fun k hk e => by
  subst e
  exact (flat_lrow flatT hR).off hb1 (fun cs e => by injection e with _ e1; exact absurd e1 (by decide)) hk
 have hs : (w1.setCell ⟨xb, 1, none⟩ v1).heap.size = w1.heap.size := by simp
 have hz := hg.size
 refine ⟨⟨A, c, v1, vF, blk_set hb1 1 v1, ?_, ?_, ?_, ⟨.inl h.mine, by omega⟩, fun k hk => by rw [hs]; exact hk.2, h.good⟩, ?_⟩
 ·refine flat_ok flatP (flat_bound flatP (flat_move flatP h.pts fun k hk => ?_)) fun k hk => ⟨.inl hk.1, by rw [hs] at hk; exact hk.2⟩
  have hk2 := (lP.lt k hk).2.1
  rw [Below.heap_setCell _ _ _ _ (xP k hk)]
  exact grown_not hg hk2 (nP k hk)
 ·refine flat_ok flatT (flat_bound flatT (flat_move flatT hR fun k hk => ?_)) fun k hk => ⟨hk.1, by rw [hs] at hk; exact hk.2⟩
  rw [Below.heap_setCell _ _ _ _ (x1 k hk)]
 ·refine flat_ok flatT (flat_bound flatT (flat_move flatT h.seg fun k hk => ?_)) fun k hk => ⟨.inl hk.1, by rw [hs] at hk; exact hk.2⟩
  have hk2 := (lF.lt k hk).2.1
  rw [Below.heap_setCell _ _ _ _ (xF k hk)]
  exact grown_not hg hk2 (nF k hk)
 ·refine ⟨hg.os, hg.tape, hg.output, by rw [hs]; exact hz, fun k hk hn => ?_⟩
  have e1 : k ≠ xb := fun e => hn (by rw [e]; exact h.mine)
  rw [Below.heap_setCell _ _ _ _ e1]
  exact grown_not hg hk fun q => hn ((flatT.row.mp h.tri).1 k q)
theorem RefIn.new_seg (h : RefIn w xb A c vT vF l T F X) (hR : kTr.R 78 w1 0 (fun k => X k ∨ w.heap.size ≤ k) v1 F') (hb : Below w.heap.size w w1) : RefAt (w1.setCell ⟨xb, 2, none⟩ v1) xb l T F' (fun k => (X k ∨ w.heap.size ≤ k) ∧ k < w1.heap.size) ∧ Fr X w (w1.setCell ⟨xb, 2, none⟩ v1) := by
 have lT := flat_lrow flatT h.tri
 have lP := flat_lrow flatP h.pts
 have xT : ∀ k, vT.ownBlock = some k → k ≠ xb := fun k hk e => by
  subst e
  exact lT.off h.blk (fun cs e => by injection e with _ e1; exact absurd e1 (by decide)) hk
 have xP : ∀ k, (Value.slice A l.length c).ownBlock = some k → k ≠ xb := fun k hk e => by
  subst e
  exact lP.off h.blk (fun cs e => by injection e with _ e1; exact absurd e1 (by decide)) hk
 have hx := h.old xb h.mine
 have hb1 : w1.heap[xb]? = some (.cells #[.slice A l.length c, vT, vF] 43 (0, 0)) := (hb.block xb hx).trans h.blk
 have x1 : ∀ k, v1.ownBlock = some k → k ≠ xb := fun k hk e => by
  subst e
  exact (flat_lrow flatT hR).off hb1 (fun cs e => by injection e with _ e1; exact absurd e1 (by decide)) hk
 have hs : (w1.setCell ⟨xb, 2, none⟩ v1).heap.size = w1.heap.size := by simp
 have hz := hb.size
 refine ⟨⟨A, c, vT, v1, blk_set hb1 2 v1, ?_, ?_, ?_, ⟨.inl h.mine, by omega⟩, fun k hk => by rw [hs]; exact hk.2, h.good⟩, ?_⟩
 ·refine flat_ok flatP (flat_bound flatP (flat_move flatP h.pts fun k hk => ?_)) fun k hk => ⟨.inl hk.1, by rw [hs] at hk; exact hk.2⟩
  have hk2 := (lP.lt k hk).2.1
  rw [Below.heap_setCell _ _ _ _ (xP k hk)]
  exact hb.block k hk2
 ·refine flat_ok flatT (flat_bound flatT (flat_move flatT h.tri fun k hk => ?_)) fun k hk => ⟨.inl hk.1, by rw [hs] at hk; exact hk.2⟩
  have hk2 := (lT.lt k hk).2.1
  rw [Below.heap_setCell _ _ _ _ (xT k hk)]
  exact hb.block k hk2
 ·refine flat_ok flatT (flat_bound flatT (flat_move flatT hR fun k hk => ?_)) fun k hk => ⟨hk.1, by rw [hs] at hk; exact hk.2⟩
  rw [Below.heap_setCell _ _ _ _ (x1 k hk)]
 ·refine ⟨hb.os, hb.tape, hb.output, by rw [hs]; exact hz, fun k hk hn => ?_⟩
  have e1 : k ≠ xb := fun e => hn (by rw [e]; exact h.mine)
  rw [Below.heap_setCell _ _ _ _ e1]
  exact hb.block k hk
end
set_option maxRecDepth 100000 in
set_option maxHeartbeats 4000000 in
theorem rnew_call (A : Option Addr) (c : Nat) (l : List S) (w : World) (hl : Kd.C k71 w A l.length l) (hc : l.length ≤ c) (hw : Wd l) :
 Calls Tryz.prog 33 #[.slice A l.length c] w fun e w' => Below w.heap.size w w' ∧ (((allF l).2 ≠ 0 ∧ e = .returned (.tuple #[.pointer none, .int .i64 (allF l).2])) ∨ ((allF l).2 = 0 ∧ ∃ xb X, e = .returned (.tuple #[ptr xb, .int .i64 0]) ∧ RefAt w' xb l [] [] X ∧ ∀ k, X k → w.heap.size ≤ k)) := by
 have ha := Nw.all07_calls A c l w hl hc hw
 by_cases h0 : (allF l).2 = 0
 ·obtain ⟨hg, hsz⟩ := allF_ok h0
  rw [h0] at ha
  have HZ := Aside0.mk h0
  have HW := Aside0.mk (And.intro hg hsz)
  clear h0 hg
  generalize (allF l).1 = a0 at *
  go_enter Tryz.func33, Tryz.ntmps33
  go_wp2_with (first
   | (go_at_call 65; (with_reducible refine ha.mono ?_); rintro u_ w1 ⟨rfl, hb1⟩; have hC1 := Kd.C_below hl hb1)
   | (refine Kd.R_append_rows k71 (w0 := w1) w1.heap.size (by rfl) (.tmp 14) (.tmp 15) 22 71 (.agg #[(.float .f64 0), (.float .f64 0)]) 16 rfl Tryz.underlying22 E.info71 rfl (by decide) (by omega) (.slice (some ⟨w1.heap.size, 0, none⟩) 0 0) [] l _ _ _ (fun _ => True) (fun _ => False) rfl rfl ?aO ?aR (fun _ _ h => h) (fun _ h => h.elim) (fun _ _ => trivial) ?aB ?aS ?aL ?_
      (case aO => exact nil_ownP (Nat.le_refl _))
      (case aR => exact Kd.C_below hC1 (below_alloc (Below.refl _ _) _))
      (case aB => exact below_alloc (Below.refl _ _) _)
      (case aS => exact (below_alloc (Below.refl w1.heap.size w1) _).size)
      (case aL => simp only [List.length_nil]; omega)
      intro v1 w2 hR2 hb2 hg1 hat1; clear hg1 hat1; rw [List.nil_append] at hR2; obtain ⟨A2, c2, rfl⟩ := Kd.R_slice hR2))
  go_ret2
  have hB := hb1.trans (hb2.mono hb1.size)
  have hs1 := hb1.size
  have hs2 := hb2.size
  have b4 := blk_new w2 (.cells #[.slice A2 l.length c2, .slice none 0 0, .slice none 0 0] 43)
  have hB4 : Below w2.heap.size w2 (w2.alloc (.cells #[.slice A2 l.length c2, .slice none 0 0, .slice none 0 0] 43)) := below_alloc (Below.refl _ _) _
  have hz : (w2.alloc (.cells #[.slice A2 l.length c2, .slice none 0 0, .slice none 0 0] 43)).heap.size = w2.heap.size + 1 := by simp
  refine ⟨hB.trans (hB4.mono hB.size), .inr ⟨HZ.out, w2.heap.size, fun k => w.heap.size ≤ k ∧ k < w2.heap.size + 1, rfl, ⟨A2, c2, .slice none 0 0, .slice none 0 0, ?_⟩, fun k hk => hk.1⟩⟩
  generalize (w2.alloc (.cells #[.slice A2 l.length c2, .slice none 0 0, .slice none 0 0] 43)) = W4 at *
  exact {
   blk := b4
   pts := Kd.R_mono (Kd.R_lower (Kd.R_below (Kd.R_bound hR2) hB4) (Nat.zero_le _)) (fun k hk => ⟨by omega, by have := hk.2.2.1; omega⟩)
   tri := Kd.R_nil _ _ _ _ _
   seg := Kd.R_nil _ _ _ _ _
   mine := ⟨by omega, by omega⟩
   old := fun k hk => by omega
   good := HW.out }
 ·have d0 : ((allF l).2 != 0) = true := bne_iff_ne.mpr h0
  have HZ := Aside0.mk h0
  clear h0
  generalize (allF l).2 = e0 at *
  generalize (allF l).1 = a0 at *
  go_enter Tryz.func33, Tryz.ntmps33
  go_wp2_with ((go_at_call 65; (with_reducible refine ha.mono ?_); rintro u_ w1 ⟨rfl, hb1⟩))
  go_ret2
  exact ⟨hb1, .inl ⟨HZ.out, rfl⟩⟩
section
variable {ops : Array Oper} {rest : List Oper} {o : Oper} {a : Act} {Q : Exit → Act → World → Prop}
theorem wp_addX {α : Type} {d : Kd α} {enc : α → List Value} (F : Flat d enc) {W : World} {ok : Nat → Prop} (hgd : o.guard = none) (s x : Operand) (t e : TypeId) (z : Value) (bytes : Nat)
 (ho : o.op = .call { callee := .builtin .append, args := #[s, x], argTypes := #[t, t] }) (ht : Tryz.prog.underlying t = some (.slice e)) (hinfo : (Tryz.prog.info? e).map (fun i => (i.zero, i.size, i.bytes)) = some (some z, d.sz, bytes)) (hz : z.cells.size = d.sz) (hs0 : 0 < d.sz) (hb0 : 0 < bytes)
 {v : Value} {xs : List α} (p : α) {cs : Array Value} (hs : a.eval s = v) (hx : a.eval x = .slice (some ⟨W.heap.size, 0, none⟩) 1 1) (hcs : cs = (enc p).toArray) (HO : d.R e W 0 ok v xs) (hl : (xs.length + 1) * bytes ≤ 140737488355328)
 (h : ∀ v1 w1, d.R e w1 0 (fun k => ok k ∨ W.heap.size ≤ k) v1 (xs ++ [p]) → W.grownBy w1 v.ownBlock → wpList Tryz.prog ops Q rest (a.put o.dst v1) w1) : wpList Tryz.prog ops Q (o :: rest) a (W.alloc (.cells cs e)) := by
 subst hcs
 exact Kd.R_append d (w0 := W) 0 hgd s x t e z bytes ho ht hinfo hz hs0 hb0 v xs p (enc p) (fun k => ok k ∨ W.heap.size ≤ k) (fun _ => False) hs hx ((F.M _ _ _ _ _).mpr rfl) (fun _ h => h.elim) (fun _ h => .inr h) (flat_ok F HO fun _ h => .inl h) ((Below.refl W.heap.size W).mono (Nat.zero_le _)) (Nat.zero_le _) hl (fun v1 w1 h1 _ h3 _ => h v1 w1 h1 h3)
end
section
variable {w : World} {xb : Nat} {l : List S} {T F : List Tr} {X : Nat → Prop} {a b c : Int}
theorem RefIn.below {w' : World} {A : Option Addr} {c : Nat} {vT vF : Value} (h : RefIn w xb A c vT vF l T F X) (hb : Below w.heap.size w w') : RefIn w' xb A c vT vF l T F X :=
 ⟨(hb.block xb (h.old xb h.mine)).trans h.blk, Kd.R_below h.pts hb, Kd.R_below h.tri hb, Kd.R_below h.seg hb, h.mine, fun k hk => Nat.lt_of_lt_of_le (h.old k hk) hb.size, h.good⟩
theorem RefIn.blk_grown {w1 : World} {A : Option Addr} {c : Nat} {vT vF : Value} (h : RefIn w xb A c vT vF l T F X) (hg : w.grownBy w1 vT.ownBlock) : w1.heap[xb]? = some (.cells #[.slice A l.length c, vT, vF] 43 (0, 0)) :=
 (grown_not hg (h.old xb h.mine) ((flat_lrow flatT h.tri).off h.blk (fun cs e => by injection e with _ e1; exact absurd e1 (by decide)))).trans h.blk
def RMakePost (w : World) (xb : Nat) (l : List S) (T F : List Tr) (X : Nat → Prop) (t : Tr) (e : Ending) (w' : World) : Prop :=
 e = .returned (.int .i64 (makeE l T t)) ∧ ∃ X', RefAt w' xb l (refO l T t) F X' ∧ Fr X w w' ∧ (∀ k, X k → X' k) ∧ ∀ k, X' k → X k ∨ w.heap.size ≤ k
theorem rmake_no {w' : World} {t : Tr} {e : Int} (h : RefAt w xb l T F X) (he : makeE l T t = e) (h0 : e ≠ 0) (hb : Below w.heap.size w w') : RMakePost w xb l T F X t (.returned (.int .i64 e)) w' := by
 subst he
 refine ⟨rfl, X, ?_, Fr.of_below hb, fun _ h => h, fun _ h => .inl h⟩
 unfold refO
 rw [if_neg h0]
 exact h.below hb
set_option maxRecDepth 100000 in
set_option maxHeartbeats 4000000 in
theorem rmake_range (h : RefAt w xb l T F X) (hr : hasN l a = false ∨ hasN l b = false ∨ hasN l c = false) : Calls Tryz.prog 35 #[ptr xb, .int .i64 a, .int .i64 b, .int .i64 c] w (RMakePost w xb l T F X (a, b, c)) := by
 have e1 : makeE l T (a, b, c) = 11 := by unfold makeE; rw [if_pos hr]
 have HH := Aside0.mk (And.intro h e1)
 have ha := rhas_call h a
 have hb := rhas_call h b
 have hc := rhas_call h c
 clear h e1
 cases q1 : hasN l a with
 | false =>
  rw [q1] at ha
  clear hr q1
  go_enter Tryz.func35, Tryz.ntmps35
  go_wp2_with (go_at_call 69; (with_reducible refine ha.mono ?_); rintro u_ w5 ⟨rfl, rfl⟩)
  go_ret
  exact rmake_no HH.out.1 HH.out.2 (by decide) (Below.refl _ _)
 | true =>
  rw [q1] at ha hr
  cases q2 : hasN l b with
  | false =>
   rw [q2] at hb
   clear hr q1 q2
   go_enter Tryz.func35, Tryz.ntmps35
   go_wp2_with (first | (go_at_call 69; (with_reducible refine ha.mono ?_); rintro u_ w5 ⟨rfl, rfl⟩) | (go_at_call 69; (with_reducible refine hb.mono ?_); rintro u_ w5 ⟨rfl, rfl⟩))
   go_ret
   exact rmake_no HH.out.1 HH.out.2 (by decide) (Below.refl _ _)
  | true =>
   rw [q2] at hb hr
   have q3 : hasN l c = false := by simpa using hr
   rw [q3] at hc
   clear hr q1 q2 q3
   go_enter Tryz.func35, Tryz.ntmps35
   go_wp2_with (first | (go_at_call 69; (with_reducible refine ha.mono ?_); rintro u_ w5 ⟨rfl, rfl⟩) | (go_at_call 69; (with_reducible refine hb.mono ?_); rintro u_ w5 ⟨rfl, rfl⟩) | (go_at_call 69; (with_reducible refine hc.mono ?_); rintro u_ w5 ⟨rfl, rfl⟩))
   go_ret
   exact rmake_no HH.out.1 HH.out.2 (by decide) (Below.refl _ _)
set_option maxRecDepth 100000 in
set_option maxHeartbeats 8000000 in
theorem rmake_in (h : RefAt w xb l T F X) (hz : T.length ≤ 1000000) (ha : hasN l a = true) (hb : hasN l b = true) (hc : hasN l c = true) : Calls Tryz.prog 35 #[ptr xb, .int .i64 a, .int .i64 b, .int .i64 c] w (RMakePost w xb l T F X (a, b, c)) := by
 have e1 : makeE l T (a, b, c) = if sgT l (a, b, c) ≤ 0 then 14 else if Free T (a, b, c) then 0 else 14 := by
  unfold makeE
  rw [if_neg (by simp [ha, hb, hc])]
 have HH := Aside0.mk (And.intro h hz)
 have ca := rhas_call h a
 have cb := rhas_call h b
 have cc := rhas_call h c
 rw [ha] at ca
 rw [hb] at cb
 rw [hc] at cc
 obtain ⟨pa, a0, a1, ma⟩ := ptO_in ha
 obtain ⟨pb, b0, b1, mb'⟩ := ptO_in hb
 obtain ⟨pc, c0, c1, mc⟩ := ptO_in hc
 obtain ⟨A, cap, vT, vF, hI⟩ := h
 have hgp := hI.good.1
 obtain ⟨-, hcap, hC⟩ := Kd.R_reads' hI.pts
 have z0 : w.cell? ⟨xb, 0, none⟩ = some (.slice A l.length cap) := by rw [blk_cell hI.blk]; rfl
 obtain ⟨ad, rfl, xa0, xa1⟩ := at_T71 hC a a0 a1
 obtain ⟨ad2, e2, xb0, xb1⟩ := at_T71 hC b b0 b1
 injection e2 with e2
 subst e2
 obtain ⟨ad3, e3, xc0, xc1⟩ := at_T71 hC c c0 c1
 injection e3 with e3
 subst e3
 have HI := Aside0.mk hI
 have hsg := fun W => Nw.left05_call (hgp _ ma) (hgp _ mb') (hgp _ mc) W
 have hsg2 : sgT l (a, b, c) = sgnS (ptO l a) (ptO l b) (ptO l c) := rfl
 rw [pa, pb, pc] at hsg hsg2
 rw [hsg2] at e1
 generalize sgnS (rd_T71 l a) (rd_T71 l b) (rd_T71 l c) = sg at *
 have da : decide (a < (l.length : Int)) = true := decide_eq_true a1
 have db : decide (b < (l.length : Int)) = true := decide_eq_true b1
 have dc : decide (c < (l.length : Int)) = true := decide_eq_true c1
 have hL : Aside0 (∀ W, Below w.heap.size w W → W.cell? ⟨xb, 0, none⟩ = some (.slice (some ad) l.length cap) ∧ W.cell? (ad.add (a.toNat * 2)) = some (.float .f64 (rd_T71 l a).f0) ∧ W.cell? ⟨(ad.add (a.toNat * 2)).block, (ad.add (a.toNat * 2)).off + 1, none⟩ = some (.float .f64 (rd_T71 l a).f1) ∧ W.cell? (ad.add (b.toNat * 2)) = some (.float .f64 (rd_T71 l b).f0) ∧ W.cell? ⟨(ad.add (b.toNat * 2)).block, (ad.add (b.toNat * 2)).off + 1, none⟩ = some (.float .f64 (rd_T71 l b).f1) ∧ W.cell? (ad.add (c.toNat * 2)) = some (.float .f64 (rd_T71 l c).f0) ∧ W.cell? ⟨(ad.add (c.toNat * 2)).block, (ad.add (c.toNat * 2)).off + 1, none⟩ = some (.float .f64 (rd_T71 l c).f1)) :=
  ⟨fun W hb => ⟨bcell hb z0, bcell hb xa0, bcell hb xa1, bcell hb xb0, bcell hb xb1, bcell hb xc0, bcell hb xc1⟩⟩
 have HE := Aside0.mk e1
 clear e1 ha hb hc xa0 xa1 xb0 xb1 xc0 xc1 pa pb pc ma mb' mc hgp hC hsg2 hI z0 hz
 by_cases hs : sg ≤ 0
 ·have d0 : decide (sg ≤ 0) = true := decide_eq_true hs
  have HE2 : Aside0 (makeE l T (a, b, c) = 14) := ⟨by rw [HE.out, if_pos hs]⟩
  clear hs HE
  go_enter Tryz.func35, Tryz.ntmps35
  go_upto_region 3 with (first | (go_at_call 69; (with_reducible refine ca.mono ?_); rintro u_ w5 ⟨rfl, rfl⟩) | (go_at_call 69; (with_reducible refine cb.mono ?_); rintro u_ w5 ⟨rfl, rfl⟩) | (go_at_call 69; (with_reducible refine cc.mono ?_); rintro u_ w5 ⟨rfl, rfl⟩))
  go_region_held3 (fun W => W.cell? ⟨xb, 0, none⟩ = some (.slice (some ad) l.length cap) ∧ W.cell? (ad.add (a.toNat * 2)) = some (.float .f64 (rd_T71 l a).f0) ∧ W.cell? ⟨(ad.add (a.toNat * 2)).block, (ad.add (a.toNat * 2)).off + 1, none⟩ = some (.float .f64 (rd_T71 l a).f1) ∧ W.cell? (ad.add (b.toNat * 2)) = some (.float .f64 (rd_T71 l b).f0) ∧ W.cell? ⟨(ad.add (b.toNat * 2)).block, (ad.add (b.toNat * 2)).off + 1, none⟩ = some (.float .f64 (rd_T71 l b).f1) ∧ W.cell? (ad.add (c.toNat * 2)) = some (.float .f64 (rd_T71 l c).f0) ∧ W.cell? ⟨(ad.add (c.toNat * 2)).block, (ad.add (c.toNat * 2)).off + 1, none⟩ = some (.float .f64 (rd_T71 l c).f1))
   ((with_reducible refine heldB hL ?_; (repeat (first | assumption | exact Below.refl _ _ | apply below_drew1 | apply below_alloc | apply pw_below_drewN))))
   ((go_at_call 70; (with_reducible refine (hsg _).mono ?_); rintro u_ w5 ⟨rfl, hb5⟩; have hB5 := below_step (w := w) (by (with_reducible (repeat (first | assumption | exact Below.refl _ _ | apply below_drew1 | apply below_alloc | apply pw_below_drewN)))) hb5; clear hb5))
  all_goals
   go_wp2
   go_ret
   exact rmake_no HH.out.1 HE2.out (by decide) hB5
 ·have d0 : decide (sg ≤ 0) = false := decide_eq_false hs
  have HE2 : Aside0 (makeE l T (a, b, c) = if Free T (a, b, c) then 0 else 14) := ⟨by rw [HE.out, if_neg hs]⟩
  have hf : Free T (a, b, c) ↔ (behind T a b).isSome = false ∧ (behind T b c).isSome = false ∧ (behind T c a).isSome = false := by simp [Free]
  have c1' := fun W hb => rapex_call (HH.out.1.below (w' := W) hb) HH.out.2 a b
  have c2' := fun W hb => rapex_call (HH.out.1.below (w' := W) hb) HH.out.2 b c
  have c3' := fun W hb => rapex_call (HH.out.1.below (w' := W) hb) HH.out.2 c a
  clear hs HE
  generalize (behind T a b).getD 0 = g1 at *
  generalize (behind T b c).getD 0 = g2 at *
  generalize (behind T c a).getD 0 = g3 at *
  generalize (behind T a b).isSome = q1 at *
  generalize (behind T b c).isSome = q2 at *
  generalize (behind T c a).isSome = q3 at *
  have HF := Aside0.mk hf
  clear hf
  go_enter Tryz.func35, Tryz.ntmps35
  go_upto_region 3 with (first | (go_at_call 69; (with_reducible refine ca.mono ?_); rintro u_ w5 ⟨rfl, rfl⟩) | (go_at_call 69; (with_reducible refine cb.mono ?_); rintro u_ w5 ⟨rfl, rfl⟩) | (go_at_call 69; (with_reducible refine cc.mono ?_); rintro u_ w5 ⟨rfl, rfl⟩))
  go_region_held3 (fun W => W.cell? ⟨xb, 0, none⟩ = some (.slice (some ad) l.length cap) ∧ W.cell? (ad.add (a.toNat * 2)) = some (.float .f64 (rd_T71 l a).f0) ∧ W.cell? ⟨(ad.add (a.toNat * 2)).block, (ad.add (a.toNat * 2)).off + 1, none⟩ = some (.float .f64 (rd_T71 l a).f1) ∧ W.cell? (ad.add (b.toNat * 2)) = some (.float .f64 (rd_T71 l b).f0) ∧ W.cell? ⟨(ad.add (b.toNat * 2)).block, (ad.add (b.toNat * 2)).off + 1, none⟩ = some (.float .f64 (rd_T71 l b).f1) ∧ W.cell? (ad.add (c.toNat * 2)) = some (.float .f64 (rd_T71 l c).f0) ∧ W.cell? ⟨(ad.add (c.toNat * 2)).block, (ad.add (c.toNat * 2)).off + 1, none⟩ = some (.float .f64 (rd_T71 l c).f1))
   ((with_reducible refine heldB hL ?_; (repeat (first | assumption | exact Below.refl _ _ | apply below_drew1 | apply below_alloc | apply pw_below_drewN))))
   ((go_at_call 70; (with_reducible refine (hsg _).mono ?_); rintro u_ w5 ⟨rfl, hb5⟩; have hB5 := below_step (w := w) (by (with_reducible (repeat (first | assumption | exact Below.refl _ _ | apply below_drew1 | apply below_alloc | apply pw_below_drewN)))) hb5; clear hb5))
  all_goals
   replace c1' := c1' _ hB5
   replace c2' := c2' _ hB5
   replace c3' := c3' _ hB5
   have HR := Aside0.mk (HH.out.1.below hB5)
   clear hL hsg
   cases q1 <;> cases q2 <;> cases q3
   case false.false.false =>
    have HE3 : Aside0 (makeE l T (a, b, c) = 0) := ⟨by rw [HE2.out, if_pos (HF.out.mpr ⟨rfl, rfl, rfl⟩)]⟩
    have hI5 := HI.out.below hB5
    obtain ⟨AT, cT, rfl⟩ := Kd.R_slice hI5.tri
    have z1 : w5.cell? ⟨xb, 1, none⟩ = some (.slice AT T.length cT) := by rw [blk_cell hI5.blk]; rfl
    have hlen : (T.length + 1) * 24 ≤ 140737488355328 := by have := HH.out.2; omega
    have HLN := Aside0.mk hlen
    have HI5 := Aside0.mk hI5
    have hRT := hI5.tri
    clear hlen hI5
    go_wp2_with (first
     | (go_at_call 71; (with_reducible refine c1'.mono ?_); rintro u_ w6 ⟨rfl, rfl⟩)
     | (go_at_call 71; (with_reducible refine c2'.mono ?_); rintro u_ w6 ⟨rfl, rfl⟩)
     | (go_at_call 71; (with_reducible refine c3'.mono ?_); rintro u_ w6 ⟨rfl, rfl⟩)
     | (refine wp_addX flatT rfl (.tmp 86) (.tmp 91) 23 53 (.agg #[.int .i64 0, .int .i64 0, .int .i64 0]) 24 rfl Tryz.underlying23 infoTr rfl (by decide) (by decide) (a, b, c) rfl (by simp [Act.eval]) rfl hRT HLN.out ?_
        intro v7 w7 hR7 hg7; obtain ⟨A7, c7, rfl⟩ := Kd.R_slice hR7; rw [show (T ++ [(a, b, c)]).length = T.length + 1 from by simp] at hR7 ⊢; have hb7 := HI5.out.blk_grown hg7; have y1 := blk_cell hb7 1; have y2 := blk_frozen hb7 1))
    go_ret
    obtain ⟨h1, h2⟩ := HI5.out.grow_tri hR7 hg7
    refine ⟨by rw [HE3.out]; rfl, fun k => (X k ∨ w5.heap.size ≤ k) ∧ k < w7.heap.size, ?_, (Fr.of_below (M := X) hB5).trans h2 fun _ _ q => q, fun k hk => ⟨.inl hk, Nat.lt_of_lt_of_le (HI5.out.old k hk) hg7.size⟩, fun k hk => ?_⟩
    ·unfold refO; rw [if_pos HE3.out]; exact h1
    ·rcases hk.1 with q | q
     ·exact .inl q
     ·exact .inr (Nat.le_trans hB5.size q)
   all_goals
    have HE3 : Aside0 (makeE l T (a, b, c) = 14) := ⟨by rw [HE2.out, if_neg (by rw [HF.out]; simp)]⟩
    go_wp2_with (first | (go_at_call 71; (with_reducible refine c1'.mono ?_); rintro u_ w5 ⟨rfl, rfl⟩) | (go_at_call 71; (with_reducible refine c2'.mono ?_); rintro u_ w5 ⟨rfl, rfl⟩) | (go_at_call 71; (with_reducible refine c3'.mono ?_); rintro u_ w5 ⟨rfl, rfl⟩))
    go_ret
    exact rmake_no HH.out.1 HE3.out (by decide) hB5
theorem rmake_call (h : RefAt w xb l T F X) (hz : T.length ≤ 1000000) (a b c : Int) : Calls Tryz.prog 35 #[ptr xb, .int .i64 a, .int .i64 b, .int .i64 c] w (RMakePost w xb l T F X (a, b, c)) := by
 by_cases hr : hasN l a = false ∨ hasN l b = false ∨ hasN l c = false
 ·exact rmake_range h hr
 ·have ha : hasN l a = true := by cases q : hasN l a <;> simp_all
  have hb : hasN l b = true := by cases q : hasN l b <;> simp_all
  have hc : hasN l c = true := by cases q : hasN l c <;> simp_all
  exact rmake_in h hz ha hb hc
end
end Go.Proofs.YtaoichlepfiliaaGreatDoor.Msh
end
