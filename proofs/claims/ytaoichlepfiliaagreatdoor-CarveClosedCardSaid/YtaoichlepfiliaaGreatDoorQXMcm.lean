/- Lemmas of Mcm. Conditions stand in each. -/
import Derived.Test.YtaoichlepfiliaaGreatDoorQXMcj
import Derived.Test.YtaoichlepfiliaaGreatDoorQXKfl
set_option linter.unusedSimpArgs false
set_option linter.unusedVariables false
namespace Go.Proofs.YtaoichlepfiliaaGreatDoor.Msh
open Go.RowKit Go.Sort Go.ChangeMaps Go.MapKept Go.Proofs.YtaoichlepfiliaaGreatDoor.Mp Go.Proofs.YtaoichlepfiliaaGreatDoor.Adm Go.Proofs.YtaoichlepfiliaaGreatDoor.R Go.Proofs.YtaoichlepfiliaaGreatDoor.E Go.Proofs.YtaoichlepfiliaaGreatDoorW.PrintWords Go.Proofs.YtaoichlepfiliaaGreatDoorW.PrintLast
theorem wrapN {n : Int} (h0 : -9223372036854775808 ≤ n) (h1 : n ≤ 9223372036854775807) : IntKind.i64.wrap n = n := by
 simp only [IntKind.wrap]; simp [IntKind.signed, IntKind.bits]; omega
theorem sgT_ds {l : List S} {a b c : Int} (h : ¬ sgT l (a, b, c) ≤ 0) : Ds (a, b, c) := by
 unfold sgT sgnS at h
 simp only at h
 refine ⟨fun e => h ?_, fun e => h ?_, fun e => h ?_⟩ <;> simp only at e <;> subst e
 ·rw [Geo.det_self1]; decide
 ·rw [Geo.det_self3]; decide
 ·rw [Geo.det_self2]; decide
theorem has_w64 {l : List S} (hl : l.length ≤ 1048576) {i : Int} (h : hasN l i = true) : W64 i := by
 unfold hasN at h
 rw [decide_eq_true_iff] at h
 exact w64 (by omega) (by omega)
def fK (f : Int × Int → Option Value) (t : Tr) : Nat → Int × Int → Option Value
 | 0 => f
 | 1 => upd f (t.1, t.2.1) (some (.int .i64 t.2.2))
 | 2 => upd (upd f (t.1, t.2.1) (some (.int .i64 t.2.2))) (t.2.1, t.2.2) (some (.int .i64 t.1))
 | _ => upd (upd (upd f (t.1, t.2.1) (some (.int .i64 t.2.2))) (t.2.1, t.2.2) (some (.int .i64 t.1))) (t.2.2, t.1) (some (.int .i64 t.2.1))
def Ef (f : Int × Int → Option Value) : Int → Int → Prop := fun x y => (f (x, y)).isSome = true
theorem ef_upd {f : Int × Int → Option Value} {p : Int × Int} {v : Value} {x y : Int} (h : Ef f x y) : Ef (upd f p (some v)) x y := by
 unfold Ef upd at *
 split
 ·rfl
 ·exact h
theorem ef_new {f : Int × Int → Option Value} {x y : Int} {v : Value} : Ef (upd f (x, y) (some v)) x y := by
 unfold Ef upd
 rw [if_pos rfl]; rfl
section
variable {w w' : World} {mb : Nat} {A : Option Addr} {c ab sb fb : Nat} {l : List S} {cnt : Int} {f g f' g' : Int × Int → Option Value} {s s' : Int → Option Value} {E E' : Int → Int → Prop} {M M' : Nat → Prop}
theorem Raw.mono (h : Raw w mb A c ab sb fb l cnt f g s E M) (hm : ∀ k, M k → M' k) (ho : ∀ k, M' k → k < w.heap.size) : Raw w mb A c ab sb fb l cnt f g s E M' :=
 ⟨h.blk, Kd.R_mono h.pts hm, h.apex, h.fixed, h.spokes, fun x v hx => by
  obtain ⟨xs, h1, h2, h3, h4, h5⟩ := h.rows x v hx
  exact ⟨xs, h1, h2, h3, fun k hk => hm k (h4 k hk), h5⟩, h.ne, ⟨hm _ h.mine.1, hm _ h.mine.2.1, hm _ h.mine.2.2.1, hm _ h.mine.2.2.2⟩, ho⟩
theorem Raw.edges (h : Raw w mb A c ab sb fb l cnt f g s E M) (hE : ∀ x y, E x y → E' x y) : Raw w mb A c ab sb fb l cnt f g s E' M :=
 ⟨h.blk, h.pts, h.apex, h.fixed, h.spokes, fun x v hx => by
  obtain ⟨xs, h1, h2, h3, h4, h5⟩ := h.rows x v hx
  exact ⟨xs, h1, h2, fun y hy => hE x y (h3 y hy), h4, h5⟩, h.ne, h.mine, h.old⟩
theorem Raw.below (h : Raw w mb A c ab sb fb l cnt f g s E M) (hb : Below w.heap.size w w') : Raw w' mb A c ab sb fb l cnt f g s E M := h.move hb.size (fun k hk => hb.block k (h.old k hk))
theorem Raw.spoke (h : Raw w mb A c ab sb fb l cnt f g s E M) (x : Int) : ∃ v xs, (s x).getD (.slice none 0 0) = v ∧ Kd.R (Kd.int .i64) 3 w 0 M v xs ∧ xs.Nodup ∧ ∀ y ∈ xs, E x y := by
 cases e : s x with
 | none => exact ⟨_, [], rfl, Kd.R_nil _ _ _ _ _, by simp, by simp⟩
 | some v =>
  obtain ⟨xs, h1, h2, h3, h4, -⟩ := h.rows x v e
  exact ⟨v, xs, rfl, Kd.R_of_own h1 h4, h2, h3⟩
theorem spoke_size {xs : List Int} (hn : xs.Nodup) (hx : ∀ y ∈ xs, 0 ≤ y ∧ y < l.length) : xs.length ≤ l.length := by
 have := nodup_sub hn (l' := (List.range l.length).map fun n : Nat => (n : Int)) (fun y hy => by
  have := hx y hy
  exact List.mem_map.mpr ⟨y.toNat, List.mem_range.mpr (by omega), by omega⟩)
 simpa using this
theorem zeroSl (W : World) : (zeroValue 59).run Tryz.prog W = .ok (.slice none 0 0) W := Tryz.zeroValue59 W
end
theorem cell_grown {W w1 : World} {r : Option Nat} {p : Addr} {v : Value} (hg : W.grownBy w1 r) (hc : W.cell? p = some v) (hn : some p.block ≠ r) : w1.cell? p = some v := (World.cell?_of_block (hg.block _ (World.block_lt_of_cell? W _ hc) hn)).trans hc
theorem cell_other {W : World} {b : Nat} {p : Addr} {v : Value} (hc : W.cell? p = some v) (hn : p.block ≠ b) (o : Obj) : (setBlock W b o).cell? p = some v := (World.cell?_of_block (other_block hn o)).trans hc
theorem row_not {w : World} {M : Nat → Prop} {base : Nat} {v : Value} {xs : List Int} (h : Kd.R (Kd.int .i64) 3 w base M v xs) {b t : Nat} {cs : Array Value} (hb : w.heap[b]? = some (.cells cs t (0, 0))) (ht : t ≠ 3) : some b ≠ v.ownBlock := fun q => by
 obtain ⟨inner, hi⟩ := Kd.R_own h
 exact own_not_map hi hb (fun cs fr e => by injection e with _ e; exact ht e) q.symm
theorem one_C {w : World} {B t : Nat} {x : Int} (h : w.heap[B]? = some (.cells #[.int .i64 x] t (0, 0))) : Kd.C (Kd.int .i64) w (some ⟨B, 0, none⟩) 1 [x] := by
 have c0 := (blk_cell h 0).trans (show (#[Value.int .i64 x] : Array Value)[0]? = some (.int .i64 x) from rfl)
 refine ⟨rfl, by decide, fun _ => ⟨_, rfl, fun j p hj => ?_⟩⟩
 match j, hj with
 | 0, hj =>
  simp at hj; subst hj
  refine ⟨[.int .i64 x], rfl, rfl, fun i u hi => ?_⟩
  match i, hi with
  | 0, hi => simp at hi; subst hi; exact c0
  | i + 1, hi => simp at hi
 | j + 1, hj => simp at hj
theorem below_mono0 {B : Nat} {w w' : World} (h : Below B w w') : Below 0 w w' := h.mono (Nat.zero_le _)
theorem key_range {w : World} {mb : Nat} {A : Option Addr} {cp ab sb fb : Nat} {l : List S} {O F : List Tr} {f g : Int × Int → Option Value} {s : Int → Option Value} {M : Nat → Prop} {a b c : Int} (h : MeshIn w mb A cp ab sb fb l O F f g s M) (ha : hasN l a = true) (hb : hasN l b = true) (hc : hasN l c = true) {k : Nat} {x y : Int} (hE : Ef (fK f (a, b, c) k) x y) : 0 ≤ y ∧ y < l.length := by
 unfold hasN at ha hb hc
 rw [decide_eq_true_iff] at ha hb hc
 have h0 : ∀ x y, Ef f x y → 0 ≤ y ∧ y < l.length := fun x y q => by
  unfold Ef at q
  obtain ⟨v, hv⟩ := Option.isSome_iff_exists.mp q
  obtain ⟨z, -, hz⟩ := (h.apx x y v).mp hv
  have := h.rng _ hz
  rcases own_cases (x, y, z) with r | r | r <;> rw [r] at this <;> simp only [rot] at this <;> omega
 have h1 : ∀ (f : Int × Int → Option Value) (p q : Int) (v : Value), (∀ x y, Ef f x y → 0 ≤ y ∧ y < l.length) → (0 ≤ q ∧ q < l.length) → ∀ x y, Ef (upd f (p, q) (some v)) x y → 0 ≤ y ∧ y < l.length := fun f p q v hf hq x y h => by
  unfold Ef upd at h
  split at h
  ·rename_i e
   injection e with e1 e2
   rw [e2]; exact hq
  ·exact hf x y h
 unfold fK at hE
 split at hE
 ·exact h0 x y hE
 ·exact h1 _ _ _ _ h0 hb x y hE
 ·exact h1 _ _ _ _ (h1 _ _ _ _ h0 hb) hc x y hE
 ·exact h1 _ _ _ _ (h1 _ _ _ _ (h1 _ _ _ _ h0 hb) hc) ha x y hE
abbrev Mk (M : Nat → Prop) (W2 W : World) : Nat → Prop := fun q => M q ∨ W2.heap.size ≤ q ∧ q < W.heap.size
structure Going (w W2 wq : World) (mb : Nat) (A : Option Addr) (cp ab sb fb : Nat) (l : List S) (O : List Tr) (f g : Int × Int → Option Value) (M : Nat → Prop) (a b c : Int) (B9 k : Nat) (s : Int → Option Value) : Prop where
 raw : Raw wq mb A cp ab sb fb l (O.length : Nat) (fK f (a, b, c) k) g s (Ef (fK f (a, b, c) k)) (Mk M W2 wq)
 fr : Fr M w wq
 box : wq.heap[B9]? = some (.cells #[.int .i64 a, .int .i64 b, .int .i64 b, .int .i64 c, .int .i64 c, .int .i64 a] 109 (0, 0))
 size : W2.heap.size ≤ wq.heap.size
theorem Going.mid {w W2 wq X1 : World} {mb : Nat} {A : Option Addr} {cp ab sb fb : Nat} {l : List S} {O : List Tr} {f g f' : Int × Int → Option Value} {M : Nat → Prop} {a b c : Int} {B9 k : Nat} {s : Int → Option Value} (h : Going w W2 wq mb A cp ab sb fb l O f g M a b c B9 k s) {ob : Obj}
 (hM : ∀ q, M q → q < w.heap.size) (hw : w.heap.size ≤ W2.heap.size) (hX : Below wq.heap.size wq X1) (hm : MapF encE okE (setBlock X1 ab ob) ab f') : Raw (setBlock X1 ab ob) mb A cp ab sb fb l (O.length : Nat) f' g s (Ef (fK f (a, b, c) k)) (Mk M W2 X1) := by
 have hX1 := (h.raw.below hX).mono (M' := Mk M W2 X1) (fun q hq => by
  rcases hq with q1 | q1
  ·exact .inl q1
  ·exact .inr ⟨q1.1, Nat.lt_of_lt_of_le q1.2 hX.size⟩) (fun q hq => by
  rcases hq with q1 | q1
  ·have := hM q q1; have := h.size; have := hX.size; omega
  ·exact q1.2)
 exact hX1.apex_set hm (fun q hq => other_block hq ob) (by simp [setBlock])
theorem fk_none {w : World} {mb : Nat} {A : Option Addr} {cp ab sb fb : Nat} {l : List S} {O F : List Tr} {f g : Int × Int → Option Value} {s : Int → Option Value} {M : Nat → Prop} {a b c : Int} (h : MeshIn w mb A cp ab sb fb l O F f g s M) (hf : Free O (a, b, c)) (hd : Ds (a, b, c)) :
 fK f (a, b, c) 0 (a, b) = none ∧ fK f (a, b, c) 1 (b, c) = none ∧ fK f (a, b, c) 2 (c, a) = none := by
 have n1 : f (a, b) = none := by rw [h.apx.ask h.mesh, hf.1]; rfl
 have n2 : f (b, c) = none := by rw [h.apx.ask h.mesh, hf.2.1]; rfl
 have n3 : f (c, a) = none := by rw [h.apx.ask h.mesh, hf.2.2]; rfl
 unfold Ds at hd
 simp only at hd
 refine ⟨n1, ?_, ?_⟩
 ·unfold fK upd
  simp only
  rw [if_neg (fun e => by injection e with e1 e2; omega)]
  exact n2
 ·unfold fK upd
  simp only
  rw [if_neg (fun e => by injection e with e1 e2; omega), if_neg (fun e => by injection e with e1 e2; omega)]
  exact n3
theorem mesh_size {l : List S} {O : List Tr} (m : Mesh O) (hl : l.length ≤ 1048576) (hr : ∀ t ∈ O, (0 ≤ t.1 ∧ t.1 < l.length) ∧ (0 ≤ t.2.1 ∧ t.2.1 < l.length) ∧ (0 ≤ t.2.2 ∧ t.2.2 < l.length)) : O.length ≤ 1099511627776 := by
 have h1 := pairs_size (n := l.length) (xs := O.map fun t => (t.1, t.2.1)) (by
  unfold List.Nodup
  rw [List.pairwise_map]
  refine (up_nodup m.up).imp_of_mem fun {x y} hx hy hxy e => hxy ?_
  injection e with e1 e2
  have h1 : Has O x.1 x.2.1 x.2.2 := by unfold Has; rw [own_of_lo (m.lo x hx)]; exact hx
  have h2 : Has O x.1 x.2.1 y.2.2 := by unfold Has; rw [e1, e2, own_of_lo (m.lo y hy)]; exact hy
  exact Prod.ext e1 (Prod.ext e2 (m.one _ _ _ _ h1 h2))) (fun p hp => by
  obtain ⟨t, ht, rfl⟩ := List.mem_map.mp hp
  exact ⟨(hr t ht).1, (hr t ht).2.1⟩)
 rw [List.length_map] at h1
 have h2 := Nat.mul_le_mul hl hl
 omega
theorem Going.step {w W2 wq X1 w1 : World} {mb : Nat} {A : Option Addr} {cp ab sb fb : Nat} {l : List S} {O : List Tr} {f g : Int × Int → Option Value} {M : Nat → Prop} {a b c : Int} {B9 k : Nat} {s : Int → Option Value} (h : Going w W2 wq mb A cp ab sb fb l O f g M a b c B9 k s) {x y : Int} {u : Value} {ob ob2 : Obj} {v v1 : Value} {xs : List Int}
 (hM : ∀ q, M q → q < w.heap.size) (hw : w.heap.size ≤ W2.heap.size) (hB9 : w.heap.size ≤ B9 ∧ B9 < W2.heap.size) (hX : Below wq.heap.size wq X1) (hfk : fK f (a, b, c) (k + 1) = upd (fK f (a, b, c) k) (x, y) (some u)) (hno : fK f (a, b, c) k (x, y) = none)
 (hm : MapF encE okE (setBlock X1 ab ob) ab (upd (fK f (a, b, c) k) (x, y) (some u))) (hv : (s x).getD (.slice none 0 0) = v) (hrow : Kd.R (Kd.int .i64) 3 (setBlock X1 ab ob) 0 (Mk M W2 X1) v xs) (hnd : xs.Nodup) (hE : ∀ z ∈ xs, Ef (fK f (a, b, c) k) x z)
 (hr1 : Kd.R (Kd.int .i64) 3 w1 0 anyB v1 (xs ++ [y])) (hg1 : (setBlock X1 ab ob).grownBy w1 v.ownBlock) (hat : v1.ownBlock = v.ownBlock ∨ ∃ q, v1.ownBlock = some q ∧ (setBlock X1 ab ob).heap.size ≤ q)
 (hm2 : MapF (fun x : Int => Value.int .i64 x) W64 (setBlock w1 sb ob2) sb (upd s x (some v1))) :
 Going w W2 (setBlock w1 sb ob2) mb A cp ab sb fb l O f g M a b c B9 (k + 1) (upd s x (some v1)) := by
 have hz : (setBlock X1 ab ob).heap.size = X1.heap.size := by simp [setBlock]
 have hz2 : (setBlock w1 sb ob2).heap.size = w1.heap.size := by simp [setBlock]
 have hs1 : X1.heap.size ≤ w1.heap.size := by have := hg1.size; rw [hz] at this; exact this
 have hX1 := (h.raw.below hX).mono (M' := Mk M W2 X1) (fun q hq => by
  rcases hq with q1 | q1
  ·exact .inl q1
  ·exact .inr ⟨q1.1, Nat.lt_of_lt_of_le q1.2 hX.size⟩) (fun q hq => by
  rcases hq with q1 | q1
  ·have := hM q q1; have := h.size; have := hX.size; omega
  ·exact q1.2)
 have hY := hX1.apex_set hm (fun q hq => other_block hq ob) (by rw [hz]; exact Nat.le_refl _)
 have hab : ab < X1.heap.size := hX1.apex.lt
 have hmbb : ∀ q, Mk M W2 X1 q → q ≠ B9 := fun q hq e => by
  subst e
  rcases hq with q1 | q1
  ·have := hM q q1; omega
  ·omega
 have hvM : ∀ q, v.ownBlock = some q → Mk M W2 X1 q := hrow.1
 have hfin := hY.spoke_set (w' := setBlock w1 sb ob2) (E' := Ef (fK f (a, b, c) (k + 1))) hm2 (v := v) (xs1 := xs ++ [y]) (fun q hq h1 h2 => (other_block h1 ob2).trans (hg1.block q hq h2)) hv.symm (by rw [hz2]; exact hg1.size) (own_move (Kd.own_of_R hr1) (fun q hq => other_block (fun e => by
  subst e
  obtain ⟨o, hb, hn⟩ := map_obj hm2
  have : q < w1.heap.size := Kd.R_lt hr1 q hq
  rcases hat with r | ⟨q', r1, r2⟩
  ·rw [r] at hq
   have := hY.spokes
   obtain ⟨o', hb', hn'⟩ := map_obj this
   obtain ⟨inner, hi⟩ := Kd.R_own hrow
   exact own_not_map hi hb' (fun cs fr => hn' cs _ fr) hq
  ·rw [r1] at hq
   injection hq with hq
   have := hY.spokes.lt
   omega) ob2)) (by
  rw [List.nodup_append]
  refine ⟨hnd, by simp, fun p hp q hq e => ?_⟩
  rw [List.mem_singleton] at hq
  subst e hq
  have := hE p hp
  unfold Ef at this
  rw [hno] at this
  cases this) (fun z hz => by
  rw [hfk]
  rcases List.mem_append.mp hz with q | q
  ·exact ef_upd (hE z q)
  ·rw [List.mem_singleton.mp q]; exact ef_new) (fun z q _ hq => by rw [hfk]; exact ef_upd hq) (by
  rcases hat with r | ⟨q, r1, r2⟩
  ·exact .inl r
  ·refine .inr fun q' hq' => ?_
   rw [r1] at hq'
   injection hq' with hq'
   subst hq'
   exact ⟨r2, by rw [hz2]; exact Kd.R_lt hr1 q r1⟩)
 refine ⟨?_, ?_, ?_, ?_⟩
 ·have := hfin.mono (M' := Mk M W2 (setBlock w1 sb ob2)) (fun q hq => by
   rcases hq with (q1 | q1) | q1
   ·exact .inl q1
   ·exact .inr ⟨q1.1, by rw [hz2]; omega⟩
   ·exact .inr ⟨by have := h.size; have := hX.size; rw [hz] at q1; omega, q1.2⟩) (fun q hq => by
   rcases hq with q1 | q1
   ·have := hM q q1; have := h.size; have := hX.size; rw [hz2]; omega
   ·exact q1.2)
  rw [hfk] at this ⊢
  exact this
 ·have f1 : Fr M w X1 := h.fr.trans (Fr.of_below hX) (fun _ _ q => q)
  refine ⟨hg1.os.trans f1.os, hg1.tape.trans f1.tape, hg1.output.trans f1.output, by rw [hz2]; exact Nat.le_trans f1.size hs1, fun q hq hn => ?_⟩
  have hqX : q < X1.heap.size := Nat.lt_of_lt_of_le hq f1.size
  have q1 : q ≠ sb := fun e => hn (by
   rcases hX1.mine.2.2.1 with r | r
   ·rw [e]; exact r
   ·omega)
  have q2 : q ≠ ab := fun e => hn (by
   rcases hX1.mine.2.1 with r | r
   ·rw [e]; exact r
   ·omega)
  rw [other_block q1, hg1.block q (by rw [hz]; exact hqX) (fun e => hn (by
   rcases hvM q e.symm with r | r
   ·exact r
   ·omega)), other_block q2]
  exact f1.block q hq hn
 ·have q1 : B9 ≠ sb := fun e => hmbb sb hX1.mine.2.2.1 e.symm
  have q2 : B9 ≠ ab := fun e => hmbb ab hX1.mine.2.1 e.symm
  rw [other_block q1, hg1.block B9 (by rw [hz]; have := h.size; have := hX.size; omega) (fun e => hmbb B9 (hvM B9 e.symm) rfl), other_block q2, hX.block B9 (blk_lt h.box)]
  exact h.box
 ·rw [hz2]; have := h.size; have := hX.size; omega
theorem make_done {w w' : World} {mb : Nat} {A : Option Addr} {cp ab sb fb : Nat} {l : List S} {O F : List Tr} {f g : Int × Int → Option Value} {s s' : Int → Option Value} {M M' : Nat → Prop} {a b c : Int} (h : MeshIn w mb A cp ab sb fb l O F f g s M)
 (ha : hasN l a = true) (hb : hasN l b = true) (hc : hasN l c = true) (hs : ¬ sgT l (a, b, c) ≤ 0) (hf : Free O (a, b, c)) (hr : Raw w' mb A cp ab sb fb l (O.length + 1 : Nat) (fK f (a, b, c) 3) g s' (Ef (fK f (a, b, c) 3)) M') (hfr : Fr M w w') (h1 : ∀ k, M k → M' k) (h2 : ∀ k, M' k → M k ∨ w.heap.size ≤ k) :
 MakePost w mb l O F M (a, b, c) (.returned (.int .i64 0)) w' := by
 have e : makeE l O (a, b, c) = 0 := by
  unfold makeE
  rw [if_neg (by simp [ha, hb, hc]), if_neg hs, if_pos hf]
 have hd := sgT_ds hs
 have n1 : f (a, b) = none := by rw [h.apx.ask h.mesh, hf.1]; rfl
 have n2 : f (b, c) = none := by rw [h.apx.ask h.mesh, hf.2.1]; rfl
 have n3 : f (c, a) = none := by rw [h.apx.ask h.mesh, hf.2.2]; rfl
 obtain ⟨m1, m2⟩ := apx_make h.mesh h.apx hd n1 n2 n3
 unfold MakePost makeO
 rw [e, if_pos rfl]
 refine ⟨rfl, M', ⟨A, cp, ab, sb, fb, fK f (a, b, c) 3, g, s', { toRaw := ?_, apx := m2, fxs := h.fxs, mesh := m1, up2 := h.up2, good := h.good, rng := fun t ht => ?_, frng := h.frng }⟩, hfr, h1, h2⟩
 ·rw [put_length]; exact hr
 ·rcases put_mem.mp ht with q | q
  ·unfold hasN at ha hb hc
   rw [decide_eq_true_iff] at ha hb hc
   subst q
   rcases own_cases (a, b, c) with r | r | r <;> rw [r] <;> simp only [rot] <;> omega
  ·exact h.rng t q
theorem idxE0 (a b c : Int) (w : World) : (Instr.index 109 (.agg #[.int .i64 a, .int .i64 b, .int .i64 b, .int .i64 c, .int .i64 c, .int .i64 a]) (.int .i64 0)).run Tryz.prog w = .ok (.agg #[.int .i64 a, .int .i64 b]) w := by kernel_rfl
theorem idxE1 (a b c : Int) (w : World) : (Instr.index 109 (.agg #[.int .i64 a, .int .i64 b, .int .i64 b, .int .i64 c, .int .i64 c, .int .i64 a]) (.int .i64 1)).run Tryz.prog w = .ok (.agg #[.int .i64 b, .int .i64 c]) w := by kernel_rfl
theorem idxE2 (a b c : Int) (w : World) : (Instr.index 109 (.agg #[.int .i64 a, .int .i64 b, .int .i64 b, .int .i64 c, .int .i64 c, .int .i64 a]) (.int .i64 2)).run Tryz.prog w = .ok (.agg #[.int .i64 c, .int .i64 a]) w := by kernel_rfl
theorem infoN : (Tryz.prog.info? 3).map (fun i => (i.zero, i.size, i.bytes)) = some (some (.int .i64 0), 1, 8) := by kernel_rfl
end Go.Proofs.YtaoichlepfiliaaGreatDoor.Msh
