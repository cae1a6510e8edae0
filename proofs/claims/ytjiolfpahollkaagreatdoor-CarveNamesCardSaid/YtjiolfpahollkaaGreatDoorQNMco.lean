/- What the proof needs of Mco: only what is used is left (wip/tools/prune.py). Conditions stand in each sentence. -/
import Derived.Test.YtjiolfpahollkaaGreatDoorQNMcn
import Derived.Lib.SliceRun
section
set_option linter.unusedVariables false
set_option linter.unusedSimpArgs false
namespace Go.Proofs.YtjiolfpahollkaaGreatDoor.Adm
end Go.Proofs.YtjiolfpahollkaaGreatDoor.Adm
namespace Go.Proofs.YtjiolfpahollkaaGreatDoor.E
end Go.Proofs.YtjiolfpahollkaaGreatDoor.E
namespace Go.Proofs.YtjiolfpahollkaaGreatDoor.Kfl
end Go.Proofs.YtjiolfpahollkaaGreatDoor.Kfl
namespace Go.Proofs.YtjiolfpahollkaaGreatDoor.Mp
end Go.Proofs.YtjiolfpahollkaaGreatDoor.Mp
namespace Go.Proofs.YtjiolfpahollkaaGreatDoor.R
end Go.Proofs.YtjiolfpahollkaaGreatDoor.R
namespace Go.Proofs.YtjiolfpahollkaaGreatDoorW.PrintLast
end Go.Proofs.YtjiolfpahollkaaGreatDoorW.PrintLast
namespace Go.Proofs.YtjiolfpahollkaaGreatDoorW.PrintMore
end Go.Proofs.YtjiolfpahollkaaGreatDoorW.PrintMore
namespace Go.Proofs.YtjiolfpahollkaaGreatDoorW.PrintWords
end Go.Proofs.YtjiolfpahollkaaGreatDoorW.PrintWords
namespace Go.Proofs.YtjiolfpahollkaaGreatDoor.Msh
open Go.RowKit Go.Sort Go.ChangeMaps Go.MapKept Go.Proofs.YtjiolfpahollkaaGreatDoor.Mp Go.Proofs.YtjiolfpahollkaaGreatDoor.Adm Go.Proofs.YtjiolfpahollkaaGreatDoor.Kfl Go.Proofs.YtjiolfpahollkaaGreatDoor.R Go.Proofs.YtjiolfpahollkaaGreatDoor.E Go.Proofs.YtjiolfpahollkaaGreatDoorW.PrintWords Go.Proofs.YtjiolfpahollkaaGreatDoorW.PrintLast Go.Proofs.YtjiolfpahollkaaGreatDoorW.PrintMore
theorem at_tr {w : World} {A : Option Addr} {n : Nat} {xs : List Tr} (h : Kd.C kTr w A n xs) {i : Nat} (h1 : i < n) (hx : i < xs.length) : ∃ ad, A = some ad ∧ w.cell? (ad.add (i * 3)) = some (.int .i64 xs[i].1) ∧ w.cell? ⟨(ad.add (i * 3)).block, (ad.add (i * 3)).off + 1, none⟩ = some (.int .i64 xs[i].2.1) ∧ w.cell? ⟨(ad.add (i * 3)).block, (ad.add (i * 3)).off + 2, none⟩ = some (.int .i64 xs[i].2.2) := by
  obtain ⟨ad, c, e, _, hK, hc0⟩ := Kd.C_get h (0, 0, 0) (i : Int) (by omega) (by omega)
  have hc : ∀ j u, c[j]? = some u → w.cell? (ad.add (i * 3 + j)) = some u := hc0
  rw [show (i : Int).toNat = i by omega, List.getD_eq_getElem?_getD, List.getElem?_eq_getElem hx] at hK
  obtain rfl := (flatT.K _ _ _).mp hK
  exact ⟨ad, e, hc 0 _ rfl, by rw [← add_field _ _ 1 (by omega)]; exact hc 1 _ rfl, by rw [← add_field _ _ 2 (by omega)]; exact hc 2 _ rfl⟩
section
variable {w : World} {mb : Nat} {l : List S} {O F : List Tr} {M : Nat → Prop} {a b c : Int}
theorem make_call (h : MeshAt w mb l O F M) (a b c : Int) : Calls Tryz.prog 61 #[ptr mb, .int .i64 a, .int .i64 b, .int .i64 c] w (MakePost w mb l O F M (a, b, c)) := by
  by_cases hr : hasN l a = false ∨ hasN l b = false ∨ hasN l c = false
  · exact make_range h hr
  · have ha : hasN l a = true := by cases q : hasN l a <;> simp_all
    have hb : hasN l b = true := by cases q : hasN l b <;> simp_all
    have hc : hasN l c = true := by cases q : hasN l c <;> simp_all
    by_cases hs : sgT l (a, b, c) ≤ 0
    · exact make_flat h ha hb hc hs
    · exact make_on h ha hb hc hs
def ofE (l : List S) : List Tr → List Tr → Int × List Tr
  | O, [] => (0, O)
  | O, t :: T => if makeE l O t ≠ 0 then (makeE l O t, O) else ofE l (put (own t) O) T
end
set_option maxRecDepth 100000 in
set_option maxHeartbeats 4000000 in
theorem of_call (A : Option Addr) (c : Nat) (l : List S) (A2 : Option Addr) (c2 : Nat) (T : List Tr) (w : World) (hl : Kd.C k68 w A l.length l) (hc : l.length ≤ c) (hw : Wd l) (ht : Kd.C kTr w A2 T.length T) (hn : T.length ≤ 1000000) :
    Calls Tryz.prog 53 #[.slice A l.length c, .slice A2 T.length c2] w fun e w' => Below w.heap.size w w' ∧ (((allF l).2 ≠ 0 ∧ e = .returned (.tuple #[.pointer none, .int .i64 (allF l).2])) ∨ ((allF l).2 = 0 ∧ (ofE l [] T).1 ≠ 0 ∧ e = .returned (.tuple #[.pointer none, .int .i64 (ofE l [] T).1])) ∨ ((allF l).2 = 0 ∧ (ofE l [] T).1 = 0 ∧ ∃ mb M, e = .returned (.tuple #[ptr mb, .int .i64 0]) ∧ MeshAt w' mb l (ofE l [] T).2 [] M ∧ ∀ k, M k → w.heap.size ≤ k)) := by
  have hnew := new_call A c l w hl hc hw
  by_cases h0 : (allF l).2 = 0
  · have hnew2 := hnew.mono (R' := fun e w' => Below w.heap.size w w' ∧ ∃ mb M, e = .returned (.tuple #[ptr mb, .int .i64 0]) ∧ MeshAt w' mb l [] [] M ∧ ∀ k, M k → w.heap.size ≤ k) (fun e w' ⟨hb, h⟩ => ⟨hb, by
      rcases h with ⟨q, -⟩ | ⟨-, h⟩
      · exact absurd h0 q
      · exact h⟩)
    have HZ := Aside0.mk h0
    clear hnew h0
    go_enter Tryz.func53, Tryz.ntmps53
    go_wp2_with (go_at_call 59; (with_reducible refine hnew2.mono ?_); rintro u_ w1 ⟨hb1, mb, M, rfl, hA1, hM1⟩)
    have HT := Aside0.mk hn
    go_loopw [21] (fun v wr => ∃ (k : Nat) (O : List Tr) (M : Nat → Prop), k ≤ T.length ∧ v = .int .i64 k ∧ Aside0 (MeshAt wr mb l O [] M ∧ (∀ q, M q → w.heap.size ≤ q) ∧ Below w.heap.size w wr ∧ ofE l O (T.drop k) = ofE l [] T)) (fun v _ => T.length - (intOf v).toNat)
    case atStart => exact ⟨0, [], M, Nat.zero_le _, rfl, ⟨hA1, hM1, hb1, rfl⟩⟩
    case round =>
      clear hA1 hM1
      obtain ⟨k, O, M2, hk, rfl, HR⟩ := hrel
      by_cases hlt : k < T.length
      · obtain ⟨ad, rfl, x0, x1, x2⟩ := at_tr ht hlt hlt
        have y0 := bcell HR.out.2.2.1 x0
        have y1 := bcell HR.out.2.2.1 x1
        have y2 := bcell HR.out.2.2.1 x2
        have d1 : decide ((k : Int) < (T.length : Int)) = true := by simp; omega
        have d2 : decide (k < T.length) = true := by simp; omega
        have i1 : IntKind.i64.wrap ((k : Int) + 1) = (k : Int) + 1 := wrapN (by omega) (by omega)
        have hdr : T.drop k = T[k] :: T.drop (k + 1) := List.drop_eq_getElem_cons hlt
        have HE : Aside0 (ofE l O (T[k] :: T.drop (k + 1)) = ofE l [] T) := ⟨by rw [← hdr]; exact HR.out.2.2.2⟩
        clear x0 x1 x2 hdr
        generalize T[k] = t at *
        obtain ⟨t0, t1, t2⟩ := t
        simp only at y0 y1 y2
        have hbb : Below wr.heap.size wr (wr.alloc (.cells #[.int .i64 t0, .int .i64 t1, .int .i64 t2] 53)) := below_alloc (Below.refl _ _) _
        have hmk := make_call (HR.out.1.below hbb) t0 t1 t2
        have HBB := Aside0.mk (HR.out.2.2.1.trans (hbb.mono HR.out.2.2.1.size))
        clear hbb
        by_cases he : makeE l O (t0, t1, t2) = 0
        · have hmk2 := hmk.mono (R' := fun e w' => e = .returned (.int .i64 0) ∧ Aside0 (∃ M', MeshAt w' mb l (put (own (t0, t1, t2)) O) [] M' ∧ (∀ q, M' q → w.heap.size ≤ q) ∧ Below w.heap.size w w')) (fun e w' ⟨h1, M', h2, h3, h4, h5⟩ => ⟨by rw [h1, he], ⟨M', by unfold makeO at h2; rw [if_pos he] at h2; exact h2, fun q hq => by
            rcases h5 q hq with r | r
            · exact HR.out.2.1 q r
            · exact Nat.le_trans HBB.out.size r, HBB.out.trans (h3.below HR.out.2.1 HBB.out.size)⟩⟩)
          have HE2 : Aside0 (ofE l (put (own (t0, t1, t2)) O) (T.drop (k + 1)) = ofE l [] T) := ⟨by rw [← HE.out]; simp only [ofE]; rw [if_neg (by simpa using he)]⟩
          clear hmk he
          go_wp2_with (go_at_call 61; (with_reducible refine hmk2.mono ?_); rintro u_ w3 ⟨rfl, hm3⟩)
          go_roundw
          case rel =>
            obtain ⟨M3, m1, m2, m3⟩ := hm3.out
            exact ⟨k + 1, _, M3, by omega, by go_num, ⟨m1, m2, m3, HE2.out⟩⟩
          case measure => simp [intOf]; omega
        · have d3 : (makeE l O (t0, t1, t2) != 0) = true := bne_iff_ne.mpr he
          have HE2 : Aside0 ((ofE l [] T).1 = makeE l O (t0, t1, t2)) := ⟨by rw [← HE.out]; simp only [ofE]; rw [if_pos he]⟩
          have hmk2 := hmk.mono (R' := fun e w' => e = .returned (.int .i64 (makeE l O (t0, t1, t2))) ∧ Below w.heap.size w w') (fun e w' ⟨h1, M', h2, h3, h4, h5⟩ => ⟨h1, HBB.out.trans (h3.below HR.out.2.1 HBB.out.size)⟩)
          have HNE := Aside0.mk he
          clear hmk he
          generalize makeE l O (t0, t1, t2) = er at *
          go_wp2_with (go_at_call 61; (with_reducible refine hmk2.mono ?_); rintro u_ w3 ⟨rfl, hm3⟩)
          go_ret2
          refine ⟨hm3, .inr (.inl ⟨HZ.out, by rw [HE2.out]; exact HNE.out, by rw [HE2.out]; rfl⟩)⟩
      · obtain rfl : k = T.length := by omega
        have d1 : decide ((T.length : Int) < (T.length : Int)) = false := by simp
        go_wp2
        go_ret2
        have e := HR.out.2.2.2
        rw [List.drop_length] at e
        simp only [ofE] at e
        refine ⟨HR.out.2.2.1, .inr (.inr ⟨HZ.out, by rw [← e], mb, M2, rfl, ?_, HR.out.2.1⟩)⟩
        rw [← e]
        exact HR.out.1
  · have d0 : ((allF l).2 != 0) = true := bne_iff_ne.mpr h0
    have hnew2 := hnew.mono (R' := fun e w' => Below w.heap.size w w' ∧ e = .returned (.tuple #[.pointer none, .int .i64 (allF l).2])) (fun e w' ⟨hb, h⟩ => ⟨hb, by
      rcases h with ⟨-, h⟩ | ⟨q, -⟩
      · exact h
      · exact absurd q h0⟩)
    have HZ := Aside0.mk h0
    clear hnew h0
    generalize (allF l).2 = e0 at *
    go_enter Tryz.func53, Tryz.ntmps53
    go_wp2_with (go_at_call 59; (with_reducible refine hnew2.mono ?_); rintro u_ w1 ⟨hb1, rfl⟩)
    go_ret2
    exact ⟨hb1, .inl ⟨HZ.out, rfl⟩⟩
end Go.Proofs.YtjiolfpahollkaaGreatDoor.Msh
end
section
set_option linter.unusedVariables false
set_option linter.unusedSimpArgs false
namespace Go.Proofs.YtjiolfpahollkaaGreatDoor.Adm
end Go.Proofs.YtjiolfpahollkaaGreatDoor.Adm
namespace Go.Proofs.YtjiolfpahollkaaGreatDoorW.PrintLast
end Go.Proofs.YtjiolfpahollkaaGreatDoorW.PrintLast
namespace Go.Proofs.YtjiolfpahollkaaGreatDoorW.PrintMore
end Go.Proofs.YtjiolfpahollkaaGreatDoorW.PrintMore
namespace Go.Proofs.YtjiolfpahollkaaGreatDoorW.PrintWords
end Go.Proofs.YtjiolfpahollkaaGreatDoorW.PrintWords
namespace Go.Proofs.YtjiolfpahollkaaGreatDoor.Msh
open Go.RowKit Go.Sort Go.Proofs.YtjiolfpahollkaaGreatDoor.Adm Go.Proofs.YtjiolfpahollkaaGreatDoorW.PrintWords Go.Proofs.YtjiolfpahollkaaGreatDoorW.PrintLast Go.Proofs.YtjiolfpahollkaaGreatDoorW.PrintMore
section
variable {α : Type} {p : α → Bool} {z : α} {ys zs : List α}
structure Dl (p : α → Bool) (z : α) (ys zs : List α) (kk j : Nat) : Prop where
  len : zs.length = ys.length
  lt : kk < j
  le : j ≤ ys.length
  res : zs.take kk = (ys.take j).filter fun x => !p x
  high : ∀ i, j ≤ i → zs.getD i z = ys.getD i z
theorem idxF_spec : ∀ (xs : List α) (n : Nat), (idxF p n xs = -1 ∧ ∀ x ∈ xs, p x = false) ∨ ∃ k, k < xs.length ∧ idxF p n xs = ((n + k : Nat) : Int) ∧ p (xs.getD k z) = true ∧ ∀ x ∈ xs.take k, p x = false
  | [], n => .inl ⟨rfl, by simp⟩
  | x :: xs, n => by
    unfold idxF
    by_cases h : p x = true
    · rw [if_pos h]
      exact .inr ⟨0, by simp, by simp, by simpa using h, by simp⟩
    · rw [if_neg h]
      rcases idxF_spec xs (n + 1) with ⟨h1, h2⟩ | ⟨k, h1, h2, h3, h4⟩
      · exact .inl ⟨h1, fun y hy => by
          rcases List.mem_cons.mp hy with e | e
          · rw [e]; simpa using h
          · exact h2 y e⟩
      · refine .inr ⟨k + 1, by simp; omega, by rw [h2]; congr 1; omega, by simpa using h3, fun y hy => ?_⟩
        rw [List.take_succ_cons] at hy
        rcases List.mem_cons.mp hy with e | e
        · rw [e]; simpa using h
        · exact h4 y e
theorem filter_none (h : ∀ x ∈ ys, p x = false) : (ys.filter fun x => !p x) = ys := List.filter_eq_self.mpr (fun x hx => by rw [h x hx]; rfl)
theorem getD_at {k : Nat} (h : k < ys.length) : ys.getD k z = ys[k] := by rw [List.getD_eq_getElem?_getD, List.getElem?_eq_getElem h]; rfl
theorem Dl.start {k : Nat} (hk : k < ys.length) (h : p (ys.getD k z) = true) (hn : ∀ x ∈ ys.take k, p x = false) : Dl p z ys ys k (k + 1) := by
  refine ⟨rfl, Nat.lt_succ_self _, hk, ?_, fun _ _ => rfl⟩
  rw [getD_at hk] at h
  rw [List.take_succ_eq_append_getElem hk, List.filter_append, filter_none hn, List.filter_cons_of_neg (by rw [h]; decide), List.filter_nil, List.append_nil]
theorem Dl.skip {kk j : Nat} (h : Dl p z ys zs kk j) (hj : j < ys.length) (hp : p (ys.getD j z) = true) : Dl p z ys zs kk (j + 1) := by
  rw [getD_at hj] at hp
  refine ⟨h.len, Nat.lt_succ_of_lt h.lt, hj, ?_, fun i hi => h.high i (by omega)⟩
  rw [List.take_succ_eq_append_getElem hj, List.filter_append, ← h.res, List.filter_cons_of_neg (by rw [hp]; decide), List.filter_nil, List.append_nil]
theorem Dl.keep {kk j : Nat} (h : Dl p z ys zs kk j) (hj : j < ys.length) (hp : p (ys.getD j z) = false) : Dl p z ys (zs.set kk (ys.getD j z)) (kk + 1) (j + 1) := by
  have hlt := h.lt
  have hlen := h.len
  refine ⟨by rw [List.length_set]; exact h.len, by omega, hj, ?_, fun i hi => ?_⟩
  · have hp' := hp
    rw [getD_at hj] at hp'
    rw [List.take_succ_eq_append_getElem hj, List.filter_append, ← h.res, List.filter_cons_of_pos (by rw [hp']; rfl), List.filter_nil, List.take_add_one, List.getElem?_set_self (by omega), List.take_set_of_le (Nat.le_refl _), getD_at hj]
    rfl
  · rw [← h.high i (by omega), List.getD_eq_getElem?_getD, List.getElem?_set_ne (by omega), List.getD_eq_getElem?_getD]
theorem Dl.done {kk : Nat} (h : Dl p z ys zs kk ys.length) : zs.take kk = ys.filter fun x => !p x := by rw [h.res, List.take_length]
end
section
variable {α : Type} {enc : α → Value} {h1 : ∀ x, (enc x).oneCell' = true} {e B : Nat}
theorem S_prefix {w : World} {M : Nat → Prop} {g n cap kk : Nat} {zs : List α} (h : Kd.R (Kd.scalar enc h1) e w B M (.slice (some ⟨g, 0, none⟩) n cap) zs) (hk : kk ≤ n) : Kd.R (Kd.scalar enc h1) e w B M (.slice (some ⟨g, 0, none⟩) kk cap) (zs.take kk) := by
  obtain ⟨rfl, _⟩ := Kd.R_reads' h
  have ho := Kd.own_of_R h
  have hl : (zs.take kk).length = kk := by rw [List.length_take]; omega
  refine Kd.R_of_own ?_ (fun q hq => h.1 q hq)
  rw [hl]
  rcases ho.2 with ⟨h0, _⟩ | ⟨g', cap', cur, hv, hb, hh, h1, h2, h3, h4⟩
  · cases h0
  · cases hv
    refine ⟨by rw [encs_length, hl, Nat.mul_one], .inr ⟨_, _, cur, rfl, hb, hh, by omega, h2, h3, ?_⟩⟩
    unfold encs at h4 ⊢
    rw [Nat.mul_one] at h4 ⊢
    rw [List.map_take, ← h4, List.take_take]
    congr 1
    omega
theorem S_zeros {z : α} {M : Nat → Prop} {g N cap : Nat} : ∀ (n o : Nat) (zs : List α) (w : World), Kd.R (Kd.scalar enc h1) e w B M (.slice (some ⟨g, 0, none⟩) N cap) zs → ∃ zs', Kd.R (Kd.scalar enc h1) e (w.setCells g o (List.replicate n (enc z))) B M (.slice (some ⟨g, 0, none⟩) N cap) zs' ∧ zs'.take o = zs.take o
  | 0, o, zs, w, h => ⟨zs, h, rfl⟩
  | n + 1, o, zs, w, h => by
    have h2 := Kd.R_putn h (o : Int) z
    rw [Int.toNat_natCast] at h2
    obtain ⟨zs', h3, h4⟩ := S_zeros n (o + 1) _ _ h2
    refine ⟨zs', h3, ?_⟩
    have := congrArg (List.take o) h4
    rw [List.take_take, List.take_take, Nat.min_eq_left (by omega), List.take_set_of_le (Nat.le_refl _)] at this
    exact this
structure Dm (enc : α → Value) (h1 : ∀ x, (enc x).oneCell' = true) (e B : Nat) (M : Nat → Prop) (w wr : World) (g cap : Nat) (zs : List α) : Prop where
  row : Kd.R (Kd.scalar enc h1) e wr B M (.slice (some ⟨g, 0, none⟩) zs.length cap) zs
  grn : w.grownBy wr (some g)
theorem grown_refl (w : World) (r : Option Nat) : w.grownBy w r := ⟨rfl, rfl, rfl, Nat.le_refl _, fun _ _ _ => rfl⟩
theorem grown_then {w w1 w2 : World} {r : Option Nat} (h : w.grownBy w1 r) (k : Below w1.heap.size w1 w2) : w.grownBy w2 r := ⟨k.os.trans h.os, k.tape.trans h.tape, k.output.trans h.output, Nat.le_trans h.size k.size, fun q hq hn => (k.block q (Nat.lt_of_lt_of_le hq h.size)).trans (h.block q hq hn)⟩
theorem grown_set {w w1 : World} {g j : Nat} (h : w.grownBy w1 (some g)) (v : Value) : w.grownBy (w1.setCell ⟨g, j, none⟩ v) (some g) := ⟨h.os, h.tape, h.output, by simpa using h.size, fun q hq hn => (Below.heap_setCell _ _ _ _ (fun e => hn (by rw [e]))).trans (h.block q hq hn)⟩
theorem grown_cells {w : World} {g : Nat} : ∀ (vs : List Value) (o : Nat) (w1 : World), w.grownBy w1 (some g) → w.grownBy (w1.setCells g o vs) (some g)
  | [], _, _, h => h
  | v :: vs, o, w1, h => by
    rw [World.setCells]
    exact grown_cells vs (o + 1) _ (grown_set h v)
variable {M : Nat → Prop} {w wr wq : World} {g cap : Nat} {zs : List α}
theorem Dm.below (h : Dm enc h1 e B M w wr g cap zs) (hb : Below wr.heap.size wr wq) : Dm enc h1 e B M w wq g cap zs := ⟨Kd.R_below h.row hb, grown_then h.grn hb⟩
theorem Dm.cell (h : Dm enc h1 e B M w wr g cap zs) (z : α) {i : Nat} (hi : i < zs.length) : wr.cell? ⟨g, i, none⟩ = some (enc (zs.getD i z)) ∧ wr.frozen? ⟨g, i, none⟩ = false := by
  have := Kd.R_celln z h.row (i : Int) (by omega) (by omega)
  rw [Int.toNat_natCast, rdOf, Int.toNat_natCast] at this
  exact this
theorem Dm.set (h : Dm enc h1 e B M w wr g cap zs) (i : Nat) (x : α) : Dm enc h1 e B M w (wr.setCell ⟨g, i, none⟩ (enc x)) g cap (zs.set i x) := by
  have h2 := Kd.R_putn h.row (i : Int) x
  rw [Int.toNat_natCast] at h2
  refine ⟨?_, grown_set h.grn _⟩
  rw [List.length_set]; exact h2
theorem Dm.cut (h : Dm enc h1 e B M w wr g cap zs) (z : α) {kk n : Nat} (hk : kk ≤ zs.length) : Kd.R (Kd.scalar enc h1) e (wr.setCells g kk (List.replicate n (enc z))) B M (.slice (some ⟨g, 0, none⟩) kk cap) (zs.take kk) ∧ w.grownBy (wr.setCells g kk (List.replicate n (enc z))) (some g) := by
  obtain ⟨zs', h2, h3⟩ := S_zeros (z := z) n kk _ _ h.row
  have h4 := S_prefix h2 hk
  rw [h3] at h4
  exact ⟨h4, grown_cells _ _ _ h.grn⟩
end
end Go.Proofs.YtjiolfpahollkaaGreatDoor.Msh
end
