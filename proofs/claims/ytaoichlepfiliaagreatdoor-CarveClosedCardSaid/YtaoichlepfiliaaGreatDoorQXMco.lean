/- Lemmas of Mco. Conditions stand in each. -/
import Derived.Test.YtaoichlepfiliaaGreatDoorQXMcn
import Derived.Lib.SliceRun
set_option linter.unusedSimpArgs false
set_option linter.unusedVariables false
section
namespace Go.Proofs.YtaoichlepfiliaaGreatDoor.Msh
open Go.RowKit Go.Sort Go.ChangeMaps Go.MapKept Go.Proofs.YtaoichlepfiliaaGreatDoor.Mp Go.Proofs.YtaoichlepfiliaaGreatDoor.Adm Go.Proofs.YtaoichlepfiliaaGreatDoor.Kfl Go.Proofs.YtaoichlepfiliaaGreatDoor.R Go.Proofs.YtaoichlepfiliaaGreatDoor.E Go.Proofs.YtaoichlepfiliaaGreatDoorW.PrintWords Go.Proofs.YtaoichlepfiliaaGreatDoorW.PrintLast
theorem at_tr {w : World} {A : Option Addr} {n : Nat} {xs : List Tr} (h : Kd.C kTr w A n xs) {i : Nat} (h1 : i < n) (hx : i < xs.length) : ∃ ad, A = some ad ∧ w.cell? (ad.add (i * 3)) = some (.int .i64 xs[i].1) ∧ w.cell? ⟨(ad.add (i * 3)).block, (ad.add (i * 3)).off + 1, none⟩ = some (.int .i64 xs[i].2.1) ∧ w.cell? ⟨(ad.add (i * 3)).block, (ad.add (i * 3)).off + 2, none⟩ = some (.int .i64 xs[i].2.2) := by
 obtain ⟨ad, c, e, _, hK, hc0⟩ := Kd.C_get h (0, 0, 0) (i : Int) (by omega) (by omega)
 have hc : ∀ j u, c[j]? = some u → w.cell? (ad.add (i * 3 + j)) = some u := hc0
 rw [show (i : Int).toNat = i by omega, List.getD_eq_getElem?_getD, List.getElem?_eq_getElem hx] at hK
 obtain rfl := (flatT.K _ _ _).mp hK
 exact ⟨ad, e, hc 0 _ rfl, by rw [← add_field _ _ 1 (by omega)]; exact hc 1 _ rfl, by rw [← add_field _ _ 2 (by omega)]; exact hc 2 _ rfl⟩
section
variable {w : World} {mb : Nat} {l : List S} {O F : List Tr} {M : Nat → Prop} {a b c : Int}
theorem make_call (h : MeshAt w mb l O F M) (a b c : Int) : Calls Tryz.prog 34 #[ptr mb, .int .i64 a, .int .i64 b, .int .i64 c] w (MakePost w mb l O F M (a, b, c)) := by
 by_cases hr : hasN l a = false ∨ hasN l b = false ∨ hasN l c = false
 ·exact make_range h hr
 ·have ha : hasN l a = true := by cases q : hasN l a <;> simp_all
  have hb : hasN l b = true := by cases q : hasN l b <;> simp_all
  have hc : hasN l c = true := by cases q : hasN l c <;> simp_all
  by_cases hs : sgT l (a, b, c) ≤ 0
  ·exact make_flat h ha hb hc hs
  ·exact make_on h ha hb hc hs
def ofE (l : List S) : List Tr → List Tr → Int × List Tr
 | O, [] => (0, O)
 | O, t :: T => if makeE l O t ≠ 0 then (makeE l O t, O) else ofE l (put (own t) O) T
end
set_option maxRecDepth 100000 in
set_option maxHeartbeats 4000000 in
theorem of_call (A : Option Addr) (c : Nat) (l : List S) (A2 : Option Addr) (c2 : Nat) (T : List Tr) (w : World) (hl : Kd.C k71 w A l.length l) (hc : l.length ≤ c) (hw : Wd l) (ht : Kd.C kTr w A2 T.length T) (hn : T.length ≤ 1000000) :
 Calls Tryz.prog 62 #[.slice A l.length c, .slice A2 T.length c2] w fun e w' => Below w.heap.size w w' ∧ (((allF l).2 ≠ 0 ∧ e = .returned (.tuple #[.pointer none, .int .i64 (allF l).2])) ∨ ((allF l).2 = 0 ∧ (ofE l [] T).1 ≠ 0 ∧ e = .returned (.tuple #[.pointer none, .int .i64 (ofE l [] T).1])) ∨ ((allF l).2 = 0 ∧ (ofE l [] T).1 = 0 ∧ ∃ mb M, e = .returned (.tuple #[ptr mb, .int .i64 0]) ∧ MeshAt w' mb l (ofE l [] T).2 [] M ∧ ∀ k, M k → w.heap.size ≤ k)) := by
 have hnew := new_call A c l w hl hc hw
 by_cases h0 : (allF l).2 = 0
 ·have hnew2 := hnew.mono (R' := fun e w' => Below w.heap.size w w' ∧ ∃ mb M, e = .returned (.tuple #[ptr mb, .int .i64 0]) ∧ MeshAt w' mb l [] [] M ∧ ∀ k, M k → w.heap.size ≤ k) (fun e w' ⟨hb, h⟩ => ⟨hb, by
   rcases h with ⟨q, -⟩ | ⟨-, h⟩
   ·exact absurd h0 q
   ·exact h⟩)
  have HZ := Aside0.mk h0
  clear hnew h0
  go_enter Tryz.func62, Tryz.ntmps62
  go_wp2_with (go_at_call 32; (with_reducible refine hnew2.mono ?_); rintro u_ w1 ⟨hb1, mb, M, rfl, hA1, hM1⟩)
  have HT := Aside0.mk hn
  go_loopw [21] (fun v wr => ∃ (k : Nat) (O : List Tr) (M : Nat → Prop), k ≤ T.length ∧ v = .int .i64 k ∧ Aside0 (MeshAt wr mb l O [] M ∧ (∀ q, M q → w.heap.size ≤ q) ∧ Below w.heap.size w wr ∧ ofE l O (T.drop k) = ofE l [] T)) (fun v _ => T.length - (intOf v).toNat)
  case atStart => exact ⟨0, [], M, Nat.zero_le _, rfl, ⟨hA1, hM1, hb1, rfl⟩⟩
  case round =>
   clear hA1 hM1
   obtain ⟨k, O, M2, hk, rfl, HR⟩ := hrel
   by_cases hlt : k < T.length
   ·obtain ⟨ad, rfl, x0, x1, x2⟩ := at_tr ht hlt hlt
    have y0 := bcell HR.out.2.2.1 x0
    have y1 := bcell HR.out.2.2.1 x1
    have y2 := bcell HR.out.2.2.1 x2
    have d1 : decide ((k : Int) < (T.length : Int)) = true := by simp; omega
    have d2 : decide (k < T.length) = true := by simp; omega
    have i1 : IntKind.i64.wrap ((k : Int) + 1) = (k : Int) + 1 := wrapN (by omega) (by omega)
    have hdr : T.drop k = T[k] :: T.drop (k + 1) := List.drop_eq_getElem_cons hlt
    have HE : Aside0 (ofE l O (T[k] :: T.drop (k + 1)) = ofE l [] T) := ⟨by rw [← hdr]; exact HR.out.2.2.2⟩
    clear x0 x1 x2 hdr
    generalize T[k] = t at *
    obtain ⟨t0, t1, t2⟩ := t
    simp only at y0 y1 y2
    have hbb : Below wr.heap.size wr (wr.alloc (.cells #[.int .i64 t0, .int .i64 t1, .int .i64 t2] 53)) := below_alloc (Below.refl _ _) _
    have hmk := make_call (HR.out.1.below hbb) t0 t1 t2
    have HBB := Aside0.mk (HR.out.2.2.1.trans (hbb.mono HR.out.2.2.1.size))
    clear hbb
    by_cases he : makeE l O (t0, t1, t2) = 0
    ·have hmk2 := hmk.mono (R' := fun e w' => e = .returned (.int .i64 0) ∧ Aside0 (∃ M', MeshAt w' mb l (put (own (t0, t1, t2)) O) [] M' ∧ (∀ q, M' q → w.heap.size ≤ q) ∧ Below w.heap.size w w')) (fun e w' ⟨h1, M', h2, h3, h4, h5⟩ => ⟨by rw [h1, he], ⟨M', by unfold makeO at h2; rw [if_pos he] at h2; exact h2, fun q hq => by
      rcases h5 q hq with r | r
      ·exact HR.out.2.1 q r
      ·exact Nat.le_trans HBB.out.size r, HBB.out.trans (h3.below HR.out.2.1 HBB.out.size)⟩⟩)
     have HE2 : Aside0 (ofE l (put (own (t0, t1, t2)) O) (T.drop (k + 1)) = ofE l [] T) := ⟨by rw [← HE.out]; simp only [ofE]; rw [if_neg (by simpa using he)]⟩
     clear hmk he
     go_wp2_with (go_at_call 34; (with_reducible refine hmk2.mono ?_); rintro u_ w3 ⟨rfl, hm3⟩)
     go_roundw
     case rel =>
      obtain ⟨M3, m1, m2, m3⟩ := hm3.out
      exact ⟨k + 1, _, M3, by omega, by go_num, ⟨m1, m2, m3, HE2.out⟩⟩
     case measure => simp [intOf]; omega
    ·have d3 : (makeE l O (t0, t1, t2) != 0) = true := bne_iff_ne.mpr he
     have HE2 : Aside0 ((ofE l [] T).1 = makeE l O (t0, t1, t2)) := ⟨by rw [← HE.out]; simp only [ofE]; rw [if_pos he]⟩
     have hmk2 := hmk.mono (R' := fun e w' => e = .returned (.int .i64 (makeE l O (t0, t1, t2))) ∧ Below w.heap.size w w') (fun e w' ⟨h1, M', h2, h3, h4, h5⟩ => ⟨h1, HBB.out.trans (h3.below HR.out.2.1 HBB.out.size)⟩)
     have HNE := Aside0.mk he
     clear hmk he
     generalize makeE l O (t0, t1, t2) = er at *
     go_wp2_with (go_at_call 34; (with_reducible refine hmk2.mono ?_); rintro u_ w3 ⟨rfl, hm3⟩)
     go_ret2
     refine ⟨hm3, .inr (.inl ⟨HZ.out, by rw [HE2.out]; exact HNE.out, by rw [HE2.out]; rfl⟩)⟩
   ·obtain rfl : k = T.length := by omega
    have d1 : decide ((T.length : Int) < (T.length : Int)) = false := by simp
    go_wp2
    go_ret2
    have e := HR.out.2.2.2
    rw [List.drop_length] at e
    simp only [ofE] at e
    refine ⟨HR.out.2.2.1, .inr (.inr ⟨HZ.out, by rw [← e], mb, M2, rfl, ?_, HR.out.2.1⟩)⟩
    rw [← e]
    exact HR.out.1
 ·have d0 : ((allF l).2 != 0) = true := bne_iff_ne.mpr h0
  have hnew2 := hnew.mono (R' := fun e w' => Below w.heap.size w w' ∧ e = .returned (.tuple #[.pointer none, .int .i64 (allF l).2])) (fun e w' ⟨hb, h⟩ => ⟨hb, by
   rcases h with ⟨-, h⟩ | ⟨q, -⟩
   ·exact h
   ·exact absurd q h0⟩)
  have HZ := Aside0.mk h0
  clear hnew h0
  generalize (allF l).2 = e0 at *
  go_enter Tryz.func62, Tryz.ntmps62
  go_wp2_with (go_at_call 32; (with_reducible refine hnew2.mono ?_); rintro u_ w1 ⟨hb1, rfl⟩)
  go_ret2
  exact ⟨hb1, .inl ⟨HZ.out, rfl⟩⟩
end Go.Proofs.YtaoichlepfiliaaGreatDoor.Msh
end
section
namespace Go.Proofs.YtaoichlepfiliaaGreatDoor.Msh
open Go.RowKit Go.Sort Go.Proofs.YtaoichlepfiliaaGreatDoor.Adm Go.Proofs.YtaoichlepfiliaaGreatDoorW.PrintWords Go.Proofs.YtaoichlepfiliaaGreatDoorW.PrintLast
section
variable {α : Type} {p : α → Bool} {z : α} {ys zs : List α}
structure Dl (p : α → Bool) (z : α) (ys zs : List α) (kk j : Nat) : Prop where
 len : zs.length = ys.length
 lt : kk < j
 le : j ≤ ys.length
 res : zs.take kk = (ys.take j).filter fun x => !p x
 high : ∀ i, j ≤ i → zs.getD i z = ys.getD i z
theorem idxF_spec : ∀ (xs : List α) (n : Nat), (idxF p n xs = -1 ∧ ∀ x ∈ xs, p x = false) ∨ ∃ k, k < xs.length ∧ idxF p n xs = ((n + k : Nat) : Int) ∧ p (xs.getD k z) = true ∧ ∀ x ∈ xs.take k, p x = false
 | [], n => .inl ⟨rfl, by simp⟩
 | x :: xs, n => by
  unfold idxF
  by_cases h : p x = true
  ·rw [if_pos h]
   exact .inr ⟨0, by simp, by simp, by simpa using h, by simp⟩
  ·rw [if_neg h]
   rcases idxF_spec xs (n + 1) with ⟨h1, h2⟩ | ⟨k, h1, h2, h3, h4⟩
   ·exact .inl ⟨h1, fun y hy => by
     rcases List.mem_cons.mp hy with e | e
     ·rw [e]; simpa using h
     ·exact h2 y e⟩
   ·refine .inr ⟨k + 1, by simp; omega, by rw [h2]; congr 1; omega, by simpa using h3, fun y hy => ?_⟩
    rw [List.take_succ_cons] at hy
    rcases List.mem_cons.mp hy with e | e
    ·rw [e]; simpa using h
    ·exact h4 y e
theorem filter_none (h : ∀ x ∈ ys, p x = false) : (ys.filter fun x => !p x) = ys := List.filter_eq_self.mpr (fun x hx => by rw [h x hx]; rfl)
theorem getD_at {k : Nat} (h : k < ys.length) : ys.getD k z = ys[k] := by rw [List.getD_eq_getElem?_getD, List.getElem?_eq_getElem h]; rfl
theorem Dl.start {k : Nat} (hk : k < ys.length) (h : p (ys.getD k z) = true) (hn : ∀ x ∈ ys.take k, p x = false) : Dl p z ys ys k (k + 1) := by
 refine ⟨rfl, Nat.lt_succ_self _, hk, ?_, fun _ _ => rfl⟩
 rw [getD_at hk] at h
 rw [List.take_succ_eq_append_getElem hk, List.filter_append, filter_none hn, List.filter_cons_of_neg (by rw [h]; decide), List.filter_nil, List.append_nil]
theorem Dl.skip {kk j : Nat} (h : Dl p z ys zs kk j) (hj : j < ys.length) (hp : p (ys.getD j z) = true) : Dl p z ys zs kk (j + 1) := by
 rw [getD_at hj] at hp
 refine ⟨h.len, Nat.lt_succ_of_lt h.lt, hj, ?_, fun i hi => h.high i (by omega)⟩
 rw [List.take_succ_eq_append_getElem hj, List.filter_append, ← h.res, List.filter_cons_of_neg (by rw [hp]; decide), List.filter_nil, List.append_nil]
theorem Dl.keep {kk j : Nat} (h : Dl p z ys zs kk j) (hj : j < ys.length) (hp : p (ys.getD j z) = false) : Dl p z ys (zs.set kk (ys.getD j z)) (kk + 1) (j + 1) := by
 have hlt := h.lt
 have hlen := h.len
 refine ⟨by rw [List.length_set]; exact h.len, by omega, hj, ?_, fun i hi => ?_⟩
 ·have hp' := hp
  rw [getD_at hj] at hp'
  rw [List.take_succ_eq_append_getElem hj, List.filter_append, ← h.res, List.filter_cons_of_pos (by rw [hp']; rfl), List.filter_nil, List.take_add_one, List.getElem?_set_self (by omega), List.take_set_of_le (Nat.le_refl _), getD_at hj]
  rfl
 ·rw [← h.high i (by omega), List.getD_eq_getElem?_getD, List.getElem?_set_ne (by omega), List.getD_eq_getElem?_getD]
theorem Dl.done {kk : Nat} (h : Dl p z ys zs kk ys.length) : zs.take kk = ys.filter fun x => !p x := by rw [h.res, List.take_length]
end
section
variable {α : Type} {enc : α → Value} {h1 : ∀ x, (enc x).oneCell' = true} {e B : Nat}
theorem S_prefix {w : World} {M : Nat → Prop} {g n cap kk : Nat} {zs : List α} (h : Kd.R (Kd.scalar enc h1) e w B M (.slice (some ⟨g, 0, none⟩) n cap) zs) (hk : kk ≤ n) : Kd.R (Kd.scalar enc h1) e w B M (.slice (some ⟨g, 0, none⟩) kk cap) (zs.take kk) := by
 obtain ⟨rfl, _⟩ := Kd.R_reads' h
 have ho := Kd.own_of_R h
 have hl : (zs.take kk).length = kk := by rw [List.length_take]; omega
 refine Kd.R_of_own ?_ (fun q hq => h.1 q hq)
 rw [hl]
 rcases ho.2 with ⟨h0, _⟩ | ⟨g', cap', cur, hv, hb, hh, h1, h2, h3, h4⟩
 ·cases h0
 ·cases hv
  refine ⟨by rw [encs_length, hl, Nat.mul_one], .inr ⟨_, _, cur, rfl, hb, hh, by omega, h2, h3, ?_⟩⟩
  unfold encs at h4 ⊢
  rw [Nat.mul_one] at h4 ⊢
  rw [List.map_take, ← h4, List.take_take]
  congr 1
  omega
theorem S_zeros {z : α} {M : Nat → Prop} {g N cap : Nat} : ∀ (n o : Nat) (zs : List α) (w : World), Kd.R (Kd.scalar enc h1) e w B M (.slice (some ⟨g, 0, none⟩) N cap) zs → ∃ zs', Kd.R (Kd.scalar enc h1) e (w.setCells g o (List.replicate n (enc z))) B M (.slice (some ⟨g, 0, none⟩) N cap) zs' ∧ zs'.take o = zs.take o
 | 0, o, zs, w, h => ⟨zs, h, rfl⟩
 | n + 1, o, zs, w, h => by
  have h2 := Kd.R_putn h (o : Int) z
  rw [Int.toNat_natCast] at h2
  obtain ⟨zs', h3, h4⟩ := S_zeros n (o + 1) _ _ h2
  refine ⟨zs', h3, ?_⟩
  have := congrArg (List.take o) h4
  rw [List.take_take, List.take_take, Nat.min_eq_left (by omega), List.take_set_of_le (Nat.le_refl _)] at this
  exact this
structure Dm (enc : α → Value) (h1 : ∀ x, (enc x).oneCell' = true) (e B : Nat) (M : Nat → Prop) (w wr : World) (g cap : Nat) (zs : List α) : Prop where
 row : Kd.R (Kd.scalar enc h1) e wr B M (.slice (some ⟨g, 0, none⟩) zs.length cap) zs
 grn : w.grownBy wr (some g)
theorem grown_refl (w : World) (r : Option Nat) : w.grownBy w r := ⟨rfl, rfl, rfl, Nat.le_refl _, fun _ _ _ => rfl⟩
theorem grown_then {w w1 w2 : World} {r : Option Nat} (h : w.grownBy w1 r) (k : Below w1.heap.size w1 w2) : w.grownBy w2 r := ⟨k.os.trans h.os, k.tape.trans h.tape, k.output.trans h.output, Nat.le_trans h.size k.size, fun q hq hn => (k.block q (Nat.lt_of_lt_of_le hq h.size)).trans (h.block q hq hn)⟩
theorem grown_set {w w1 : World} {g j : Nat} (h : w.grownBy w1 (some g)) (v : Value) : w.grownBy (w1.setCell ⟨g, j, none⟩ v) (some g) := ⟨h.os, h.tape, h.output, by simpa using h.size, fun q hq hn => (Below.heap_setCell _ _ _ _ (fun e => hn (by rw [e]))).trans (h.block q hq hn)⟩
theorem grown_cells {w : World} {g : Nat} : ∀ (vs : List Value) (o : Nat) (w1 : World), w.grownBy w1 (some g) → w.grownBy (w1.setCells g o vs) (some g)
 | [], _, _, h => h
 | v :: vs, o, w1, h => by
  rw [World.setCells]
  exact grown_cells vs (o + 1) _ (grown_set h v)
variable {M : Nat → Prop} {w wr wq : World} {g cap : Nat} {zs : List α}
theorem Dm.below (h : Dm enc h1 e B M w wr g cap zs) (hb : Below wr.heap.size wr wq) : Dm enc h1 e B M w wq g cap zs := ⟨Kd.R_below h.row hb, grown_then h.grn hb⟩
theorem Dm.cell (h : Dm enc h1 e B M w wr g cap zs) (z : α) {i : Nat} (hi : i < zs.length) : wr.cell? ⟨g, i, none⟩ = some (enc (zs.getD i z)) ∧ wr.frozen? ⟨g, i, none⟩ = false := by
 have := Kd.R_celln z h.row (i : Int) (by omega) (by omega)
 rw [Int.toNat_natCast, rdOf, Int.toNat_natCast] at this
 exact this
theorem Dm.set (h : Dm enc h1 e B M w wr g cap zs) (i : Nat) (x : α) : Dm enc h1 e B M w (wr.setCell ⟨g, i, none⟩ (enc x)) g cap (zs.set i x) := by
 have h2 := Kd.R_putn h.row (i : Int) x
 rw [Int.toNat_natCast] at h2
 refine ⟨?_, grown_set h.grn _⟩
 rw [List.length_set]; exact h2
theorem Dm.cut (h : Dm enc h1 e B M w wr g cap zs) (z : α) {kk n : Nat} (hk : kk ≤ zs.length) : Kd.R (Kd.scalar enc h1) e (wr.setCells g kk (List.replicate n (enc z))) B M (.slice (some ⟨g, 0, none⟩) kk cap) (zs.take kk) ∧ w.grownBy (wr.setCells g kk (List.replicate n (enc z))) (some g) := by
 obtain ⟨zs', h2, h3⟩ := S_zeros (z := z) n kk _ _ h.row
 have h4 := S_prefix h2 hk
 rw [h3] at h4
 exact ⟨h4, grown_cells _ _ _ h.grn⟩
end
set_option maxRecDepth 100000 in
set_option maxHeartbeats 4000000 in
theorem idxI_call (B : Nat) (A : Option Addr) (c : Nat) (l : List Int) (w : World) (hl : (Kd.int .i64).C w A l.length l) (p : Int → Bool) (hp : ∀ x W, Below w.heap.size w W → Calls Tryz.prog 100 #[(Value.int .i64) x, .pointer (some ⟨B, 0, none⟩)] W fun e w' => e = .returned (.bool (p x)) ∧ Below W.heap.size W w') :
 Calls Tryz.prog 124 #[.slice A l.length c, .func (.func 100) #[] #[.pointer (some ⟨B, 0, none⟩)]] w fun e w' => e = .returned (.int .i64 (idxF p 0 l)) ∧ Below w.heap.size w w' := by
 have hm := hl.2.1
 go_enter Tryz.func124, Tryz.ntmps124
 go_wp2
 go_loopw [8] (fun x wr => ∃ (n : Nat), x = .int .i64 n ∧ n ≤ l.length ∧ Below w.heap.size w wr ∧ Aside0 (idxF p n (l.drop n) = idxF p 0 l)) (fun x _ => l.length - (intOf x).toNat)
 case atStart => exact ⟨0, rfl, Nat.zero_le _, Below.refl _ _, ⟨rfl⟩⟩
 case round =>
  obtain ⟨n, rfl, hn, hB, hi⟩ := hrel
  by_cases hlt : n < l.length
  ·have d1 : decide ((n : Int) < (l.length : Int)) = true := by simp; omega
   have d2 : decide (n < l.length) = true := by simp; omega
   have d3 : decide ((0 : Int) ≤ n) = true := by simp
   obtain ⟨ad, rfl, hx0⟩ := (Kd.reads_of_C (d := 0) (Kd.C_below hl hB)).at_ n (by omega) (by omega)
   have hr : rdOf 0 l (n : Int) = l[n] := by unfold rdOf; rw [Int.toNat_natCast, getD_at hlt]
   rw [Int.toNat_natCast, hr] at hx0
   replace hi := hi.out
   rw [List.drop_eq_getElem_cons hlt, idxF] at hi
   have hcl := fun W h => hp l[n] W h
   clear hr
   generalize l[n] = x at *
   cases hg : p x
   ·simp only [hg] at hcl
    rw [hg, if_neg (by decide)] at hi
    replace hi := Aside0.mk hi
    go_wp2_with (go_at_call 100; (with_reducible refine (hcl _ hB).mono ?_); rintro y w1 ⟨rfl, hb1⟩)
    go_roundw
    case rel => exact ⟨n + 1, by go_num, by omega, hB.trans (hb1.mono hB.size), hi⟩
    case measure => simp [intOf]; omega
   ·simp only [hg] at hcl
    rw [hg, if_pos rfl] at hi
    replace hi := Aside0.mk hi
    go_wp2_with (go_at_call 100; (with_reducible refine (hcl _ hB).mono ?_); rintro y w1 ⟨rfl, hb1⟩)
    go_ret
    rw [← hi.out]
    exact ⟨rfl, hB.trans (hb1.mono hB.size)⟩
  ·have d1 : decide ((n : Int) < (l.length : Int)) = false := by simp; omega
   have d2 : decide (n < l.length) = false := by simp; omega
   replace hi := hi.out
   rw [List.drop_eq_nil_of_le (by omega), idxF] at hi
   replace hi := Aside0.mk hi
   go_wp2
   go_ret
   rw [← hi.out]
   exact ⟨rfl, hB⟩
theorem clearI_run (W : World) (ty : TypeId) (b o n c : Nat) (hn : 0 < n) (hc : ∀ j, j < n → (W.cell? ⟨b, o + j, none⟩).isSome = true) (hf : ∀ j, j < n → W.frozen? ⟨b, o + j, none⟩ = false) :
 (Builtin.clear_ #[59] ty #[.slice (some ⟨b, o, none⟩) n c]).run Tryz.prog W = .ok (.tuple #[]) (W.setCells b o (List.replicate n ((Value.int .i64) 0))) :=
 Lib.run_clear_slice W _ _ ty ((Value.int .i64) 0) Tryz.underlying59 Tryz.zeroValue3 rfl rfl b o n c hn hc hf
set_option maxRecDepth 1000000 in
set_option maxHeartbeats 8000000 in
theorem delI_call (B : Nat) {w : World} {base : Nat} {M : Nat → Prop} {v : Value} {l : List Int} (hR : (Kd.int .i64).R 3 w base M v l) (hn : l.length ≤ 4294967296) (p : Int → Bool) (hp : ∀ x W, w.grownBy W v.ownBlock → Calls Tryz.prog 100 #[(Value.int .i64) x, .pointer (some ⟨B, 0, none⟩)] W fun e w' => e = .returned (.bool (p x)) ∧ Below W.heap.size W w') :
 Calls Tryz.prog 99 #[v, .func (.func 100) #[] #[.pointer (some ⟨B, 0, none⟩)]] w fun e w' => ∃ v', e = .returned v' ∧ (Kd.int .i64).R 3 w' base M v' (l.filter fun x => !p x) ∧ w.grownBy w' v.ownBlock ∧ v'.ownBlock = v.ownBlock := by
 obtain ⟨A, c, rfl, hcap, hC⟩ := Kd.R_reads hR
 have hix := idxI_call B A c l w hC p (fun x W hb => hp x W ⟨hb.os, hb.tape, hb.output, hb.size, fun q hq _ => hb.block q hq⟩)
 rcases idxF_spec (p := p) (z := 0) l 0 with ⟨h1, h2⟩ | ⟨k, hk, h1, h2, h3⟩
 ·rw [h1] at hix
  have e : (l.filter fun x => !p x) = l := filter_none h2
  rw [e]
  have HR := Aside0.mk hR
  clear hR h1 h2 e hp hC
  go_enter Tryz.func99, Tryz.ntmps99
  go_wp2_with (go_at_call 124; (with_reducible refine hix.mono ?_); rintro y w1 ⟨rfl, hb1⟩)
  go_ret
  exact ⟨_, rfl, Kd.R_below HR.out hb1, ⟨hb1.os, hb1.tape, hb1.output, hb1.size, fun q hq _ => hb1.block q hq⟩, rfl⟩
 ·rw [h1, Nat.zero_add] at hix
  obtain ⟨g, cap, hs, -⟩ := Kd.R_form hR (by omega)
  injection hs with hs1 _ hs2
  subst hs1 hs2
  have d0 : (((k : Nat) : Int) == -1) = false := beq_eq_false_iff_ne.mpr (by omega)
  have HM := Aside0.mk (Dl.start (p := p) hk h2 h3)
  have HD := Aside0.mk (⟨hR, grown_refl _ _⟩ : Dm (Value.int .i64) (fun _ => rfl) 3 base M w w g c l)
  have ik : IntKind.i64.wrap ((k : Int) + 1) = (k : Int) + 1 := wrapN (by omega) (by omega)
  clear hR h1 h2 h3 hC
  go_enter Tryz.func99, Tryz.ntmps99
  go_wp2_with (go_at_call 124; (with_reducible refine hix.mono ?_); rintro y w1 ⟨rfl, hb1⟩)
  clear hix ik
  go_loopw [5, 6] (fun s5 s6 wr => ∃ (kk j : Nat) (zs : List Int), s5 = .int .i64 kk ∧ s6 = .int .i64 j ∧ j ≤ l.length ∧ Aside0 (Dm (Value.int .i64) (fun _ => rfl) 3 base M w wr g c zs) ∧ Aside0 (Dl p 0 l zs kk j)) (fun _ s6 _ => l.length - (intOf s6).toNat)
  case atStart => exact ⟨k, k + 1, l, rfl, by go_num, hk, ⟨HD.out.below hb1⟩, HM⟩
  case round =>
   clear HM HD hb1
   obtain ⟨kk, j, zs, rfl, rfl, hj, HD, HM⟩ := hrel
   have hlz := HM.out.len
   have hkl := HM.out.lt
   have ij : IntKind.i64.wrap ((j : Int) + 1) = (j : Int) + 1 := wrapN (by omega) (by omega)
   have ikk : IntKind.i64.wrap ((kk : Int) + 1) = (kk : Int) + 1 := wrapN (by omega) (by omega)
   by_cases hlt : j < l.length
   ·have d1 : decide ((j : Int) < (l.length : Int)) = true := by simp; omega
    have d2 : decide (j < l.length) = true := by simp; omega
    have d3 : decide (kk < l.length) = true := by simp; omega
    have d4 : decide ((kk : Int) < (l.length : Int)) = true := by simp; omega
    obtain ⟨x0, -⟩ := HD.out.cell 0 (show j < zs.length by omega)
    rw [HM.out.high j (Nat.le_refl _)] at x0
    have hcl := hp (l.getD j 0) wr HD.out.grn
    have HM1 := HM
    generalize hx : l.getD j 0 = x at *
    have HX := Aside0.mk hx
    clear hx hlz
    cases hg : p x
    ·simp only [hg] at hcl
     have hf1 : Aside0 (∀ w2, Below wr.heap.size wr w2 → w2.frozen? ⟨g, kk, none⟩ = false ∧ ∃ u, w2.cell? ⟨g, kk, none⟩ = some u) := ⟨fun w2 hb => by
      have := (HD.out.below hb).cell 0 (show kk < zs.length by have := HM.out.len; omega)
      exact ⟨this.2, _, this.1⟩⟩
     have HG := Aside0.mk hg
     clear hg
     go_wp2_with (go_at_call 100; (with_reducible refine hcl.mono ?_); rintro y w2 ⟨rfl, hb2⟩; have hff := hf1.out w2 hb2; obtain ⟨ff1, uu, ff2⟩ := hff)
     go_roundw
     case rel =>
      have hkeep := HM.out.keep hlt (by rw [HX.out]; exact HG.out)
      rw [HX.out] at hkeep
      exact ⟨kk + 1, j + 1, _, by go_num, by go_num, by omega, ⟨(HD.out.below hb2).set kk _⟩, ⟨hkeep⟩⟩
     case measure => simp [intOf]; omega
    ·simp only [hg] at hcl
     have HG := Aside0.mk hg
     clear hg
     go_wp2_with (go_at_call 100; (with_reducible refine hcl.mono ?_); rintro y w2 ⟨rfl, hb2⟩)
     go_roundw
     case rel => exact ⟨kk, j + 1, zs, rfl, by go_num, by omega, ⟨HD.out.below hb2⟩, ⟨HM.out.skip hlt (by rw [HX.out]; exact HG.out)⟩⟩
     case measure => simp [intOf]; omega
   ·obtain rfl : j = l.length := by omega
    have d1 : decide ((l.length : Int) < (l.length : Int)) = false := by simp
    have hcl : ∀ ty, (Builtin.clear_ #[59] ty #[.slice (some ⟨g, kk, none⟩) (l.length - kk) (c - kk)]).run Tryz.prog wr = .ok (.tuple #[]) (wr.setCells g kk (List.replicate (l.length - kk) ((Value.int .i64) 0))) := fun ty => clearI_run wr ty g kk _ _ (by omega) (fun t ht => by rw [(HD.out.cell 0 (show kk + t < zs.length by omega)).1]; rfl) (fun t ht => (HD.out.cell 0 (show kk + t < zs.length by omega)).2)
    have d3 : decide (kk ≤ l.length) = true := by simp; omega
    have d4 : decide (kk ≤ c) = true := by simp; omega
    have d5 : decide ((kk : Int) ≤ (l.length : Int)) = true := by simp; omega
    have d6 : decide ((kk : Int) ≤ (c : Int)) = true := by simp; omega
    have hu := Tryz.underlying59
    go_wp2
    go_ret
    have hcut := HD.out.cut 0 (kk := kk) (n := l.length - kk) (by omega)
    rw [HM.out.done] at hcut
    exact ⟨_, rfl, hcut.1, hcut.2, rfl⟩
end Go.Proofs.YtaoichlepfiliaaGreatDoor.Msh
end
section
namespace Go.Proofs.YtaoichlepfiliaaGreatDoor.Msh
open Go.RowKit Go.Sort Go.ChangeMaps Go.MapKept Go.Proofs.YtaoichlepfiliaaGreatDoor.Mp Go.Proofs.YtaoichlepfiliaaGreatDoor.Adm Go.Proofs.YtaoichlepfiliaaGreatDoor.R Go.Proofs.YtaoichlepfiliaaGreatDoor.E Go.Proofs.YtaoichlepfiliaaGreatDoorW.PrintWords Go.Proofs.YtaoichlepfiliaaGreatDoorW.PrintLast
def fL (f : Int × Int → Option Value) (t : Tr) : Nat → Int × Int → Option Value
 | 0 => f
 | 1 => upd f (t.1, t.2.1) none
 | 2 => upd (upd f (t.1, t.2.1) none) (t.2.1, t.2.2) none
 | _ => upd (upd (upd f (t.1, t.2.1) none) (t.2.1, t.2.2) none) (t.2.2, t.1) none
def killE (O : List Tr) (t : Tr) : Int := if behind O t.1 t.2.1 = some t.2.2 then 0 else 5
def killO (O : List Tr) (t : Tr) : List Tr := if behind O t.1 t.2.1 = some t.2.2 then O.filter (· ≠ own t) else O
structure KGo (w wq : World) (mb : Nat) (A : Option Addr) (cp ab sb fb : Nat) (l : List S) (O : List Tr) (f g : Int × Int → Option Value) (M : Nat → Prop) (a b c : Int) (k : Nat) (s : Int → Option Value) : Prop where
 raw : Raw wq mb A cp ab sb fb l (O.length : Nat) (fL f (a, b, c) k) g s (Ef (fL f (a, b, c) k)) M
 fr : Fr M w wq
theorem ef_off {f : Int × Int → Option Value} {x y u v : Int} (h : Ef f u v) (hn : ¬ (u = x ∧ v = y)) : Ef (upd f (x, y) none) u v := by
 unfold Ef upd at *
 rw [if_neg (fun e => by injection e with e1 e2; exact hn ⟨e1, e2⟩)]
 exact h
theorem KGo.step {w wq X1 W' w1 : World} {mb : Nat} {A : Option Addr} {cp ab sb fb : Nat} {l : List S} {O : List Tr} {f g : Int × Int → Option Value} {M : Nat → Prop} {a b c : Int} {k : Nat} {s : Int → Option Value} (h : KGo w wq mb A cp ab sb fb l O f g M a b c k s) {x y : Int} {ob2 : Obj} {v v1 : Value} {xs : List Int}
    (hM : ∀ q, M q → q < w.heap.size) (hX : Below wq.heap.size wq X1) (hfk : fL f (a, b, c) (k + 1) = upd (fL f (a, b, c) k) (x, y) none) (hm : MapF encE okE W' ab (upd (fL f (a, b, c) k) (x, y) none)) (ho : ∀ q, q ≠ ab → W'.heap[q]? = X1.heap[q]?) (hb : Below ab X1 W')
    (hv : (s x).getD (.slice none 0 0) = v) (hnd : xs.Nodup) (hE : ∀ z ∈ xs, Ef (fL f (a, b, c) k) x z) (hrow : Kd.R (Kd.int .i64) 3 W' 0 M v xs) (hr1 : Kd.R (Kd.int .i64) 3 w1 0 M v1 (xs.filter fun z => !(z == y))) (hg1 : W'.grownBy w1 v.ownBlock) (hat : v1.ownBlock = v.ownBlock)
    (hm2 : MapF (fun x : Int => Value.int .i64 x) W64 (setBlock w1 sb ob2) sb (upd s x (some v1))) :
    KGo w (setBlock w1 sb ob2) mb A cp ab sb fb l O f g M a b c (k + 1) (upd s x (some v1)) := by
  have hz2 : (setBlock w1 sb ob2).heap.size = w1.heap.size := by simp [setBlock]
  have hX1 := h.raw.below hX
  have hY := hX1.apex_set hm ho hb.size
  have hfin := hY.spoke_set (w' := setBlock w1 sb ob2) (E' := Ef (fL f (a, b, c) (k + 1))) hm2 (v := v) (xs1 := xs.filter fun z => !(z == y)) (fun q hq h1 h2 => (other_block h1 ob2).trans (hg1.block q hq h2)) hv.symm (by rw [hz2]; exact hg1.size) (own_move (Kd.own_of_R hr1) (fun q hq => other_block (fun e => by
      subst e
      rw [hat] at hq
      obtain ⟨o', hb', hn'⟩ := map_obj hY.spokes
      obtain ⟨inner, hi⟩ := Kd.R_own hrow
      exact own_not_map hi hb' (fun cs fr => hn' cs _ fr) hq) ob2)) (List.Pairwise.filter _ hnd) (fun z hz => by
      obtain ⟨h1, h2⟩ := List.mem_filter.mp hz
      rw [hfk]
      exact ef_off (hE z h1) (fun e => by rw [e.2] at h2; simp at h2)) (fun z q hzx hq => by rw [hfk]; exact ef_off hq (fun e => hzx e.1)) (.inl hat)
  refine ⟨?_, ?_⟩
  · have hold := hY.old
    have := hfin
    rw [hfk] at this ⊢
    exact { blk := this.blk, pts := Kd.R_mono (ok' := M) (pts_move (w' := setBlock w1 sb ob2) (by
              exact hY.pts) (fun _ _ _ _ _ _ q => q) (fun q hq => by
              obtain ⟨inner, hi⟩ := Kd.R_own hY.pts
              obtain ⟨cells, hc⟩ := own_typed hi q hq
              have q1 : q ≠ sb := fun e => by
                obtain ⟨o', hb', hn'⟩ := map_obj hY.spokes
                rw [e, hb'] at hc
                injection hc with hc
                exact hn' _ _ _ hc
              exact (other_block q1 ob2).trans (hg1.block q (own_lt hi q hq) (fun e => by
                obtain ⟨inner2, hi2⟩ := Kd.R_own hrow
                obtain ⟨cells2, hc2⟩ := own_typed hi2 q e.symm
                rw [hc] at hc2
                injection hc2 with hc2
                injection hc2 with _ hc2
                exact absurd hc2 (by decide))))) (fun _ q => q), apex := this.apex, fixed := this.fixed, spokes := this.spokes, rows := fun z u hz => by
              obtain ⟨ys, r1, r2, r3, r4, r5⟩ := this.rows z u hz
              refine ⟨ys, r1, r2, r3, fun q hq => ?_, r5⟩
              unfold upd at hz
              split at hz
              · injection hz with hz
                subst hz
                exact hr1.1 q hq
              · obtain ⟨ys', r1', -, -, r4', -⟩ := hY.rows z u hz
                exact r4' q hq, ne := this.ne, mine := hY.mine, old := fun q hq => by rw [hz2]; exact Nat.lt_of_lt_of_le (hold q hq) hg1.size }
  · have f1 : Fr M w X1 := h.fr.trans (Fr.of_below hX) (fun _ _ q => q)
    refine ⟨hg1.os.trans (hb.os.trans f1.os), hg1.tape.trans (hb.tape.trans f1.tape), hg1.output.trans (hb.output.trans f1.output), by rw [hz2]; exact Nat.le_trans f1.size (Nat.le_trans hb.size hg1.size), fun q hq hn => ?_⟩
    have hqX : q < X1.heap.size := Nat.lt_of_lt_of_le hq f1.size
    have q1 : q ≠ sb := fun e => hn (by rw [e]; exact hX1.mine.2.2.1)
    have q2 : q ≠ ab := fun e => hn (by rw [e]; exact hX1.mine.2.1)
    rw [other_block q1, hg1.block q (Nat.lt_of_lt_of_le hqX hb.size) (fun e => hn (hrow.1 q e.symm)), ho q q2]
    exact f1.block q hq hn
def KillPost (w : World) (mb : Nat) (l : List S) (O F : List Tr) (M : Nat → Prop) (t : Tr) (e : Ending) (w' : World) : Prop :=
 e = .returned (.int .i64 (killE O t)) ∧ MeshAt w' mb l (killO O t) F M ∧ Fr M w w'
theorem kill_done {w w' : World} {mb : Nat} {A : Option Addr} {cp ab sb fb : Nat} {l : List S} {O F : List Tr} {f g : Int × Int → Option Value} {s s' : Int → Option Value} {M : Nat → Prop} {a b c : Int} (h : MeshIn w mb A cp ab sb fb l O F f g s M)
 (hk : behind O a b = some c) (hr : Raw w' mb A cp ab sb fb l ((O.length : Int) - 1) (fL f (a, b, c) 3) g s' (Ef (fL f (a, b, c) 3)) M) (hfr : Fr M w w') : KillPost w mb l O F M (a, b, c) (.returned (.int .i64 0)) w' := by
 have hh := h.mesh.apx.mp hk
 obtain ⟨m1, m2⟩ := apx_kill h.mesh h.apx hh
 unfold KillPost killE killO
 rw [if_pos hk, if_pos hk]
 have hnd := up_nodup h.mesh.up
 have hlen : (O.filter (· ≠ own (a, b, c))).length + 1 = O.length := by
  have e : O.filter (· ≠ own (a, b, c)) = O.erase (own (a, b, c)) := by
   rw [hnd.erase_eq_filter]
   congr 1
   funext z
   by_cases q : z = own (a, b, c) <;> simp [q]
  have hp := List.length_pos_of_mem hh
  rw [e, List.length_erase_of_mem hh]
  omega
 refine ⟨rfl, ⟨A, cp, ab, sb, fb, fL f (a, b, c) 3, g, s', { toRaw := ?_, apx := m2, fxs := h.fxs, mesh := m1, up2 := h.up2, good := h.good, rng := fun t ht => h.rng t (List.mem_filter.mp ht).1, frng := h.frng }⟩, hfr⟩
 have e : ((O.filter (· ≠ own (a, b, c))).length : Int) = (O.length : Int) - 1 := by omega
 rw [e]
 exact hr
theorem killcl_call (B : Nat) (x y : Int) (W : World) (h : W.cell? ⟨B, 1, none⟩ = some (.int .i64 y)) : Calls Tryz.prog 100 #[.int .i64 x, .pointer (some ⟨B, 0, none⟩)] W fun e w' => e = .returned (.bool (x == y)) ∧ Below W.heap.size W w' := by
 generalize hq : (x == y) = q
 go_enter Tryz.func100, Tryz.ntmps100
 go_wp2
 go_ret
 exact ⟨rfl, Below.refl _ _⟩
end Go.Proofs.YtaoichlepfiliaaGreatDoor.Msh
end
