/- Lemmas of MdC. Conditions stand in each. -/
import Derived.Test.YtaoichlepfiliaaGreatDoorQWMdu
import Derived.Test.YtaoichlepfiliaaGreatDoorQWMco
set_option linter.unusedSimpArgs false
set_option linter.unusedVariables false
section
namespace Go.Proofs.YtaoichlepfiliaaGreatDoor.Msh
open Go.RowKit Go.Sort Go.ChangeMaps Go.MapKept Go.Proofs.YtaoichlepfiliaaGreatDoor.Mp Go.Proofs.YtaoichlepfiliaaGreatDoor.Adm Go.Proofs.YtaoichlepfiliaaGreatDoor.Kfl Go.Proofs.YtaoichlepfiliaaGreatDoor.R Go.Proofs.YtaoichlepfiliaaGreatDoor.E Go.Proofs.YtaoichlepfiliaaGreatDoorW.PrintWords Go.Proofs.YtaoichlepfiliaaGreatDoorW.PrintLast
theorem sq_fixd {w : World} {mb n : Nat} {M : Nat → Prop} (h : MeshAt w mb sqL sqT (sqF n) M) (a b : Int) : Fixd (sqF n) a b ↔ (fixO (sqF n) a b).isSome = true := (fixO_fixd (mesh_mesh h).2).symm
theorem sq_L1 {w : World} {mb n : Nat} {M : Nat → Prop} {L : List (List Tr)} (h : MeshAt w mb sqL sqT (sqF n) M) (hL : IsParts (Fixd (sqF n)) sqT L) (hf : (fixO (sqF n) 1 2).isSome = false) : L = [sqT] :=
 hL.eq (sq_one (mesh_mesh h).1 (fixd_comm _) fun q => by rw [sq_fixd h, hf] at q; cases q)
theorem sq_L2 {w : World} {mb n : Nat} {M : Nat → Prop} {L : List (List Tr)} (h : MeshAt w mb sqL sqT (sqF n) M) (hL : IsParts (Fixd (sqF n)) sqT L) (hf : (fixO (sqF n) 1 2).isSome = true) : L = [[(0, 1, 2)], [(1, 3, 2)]] :=
 hL.eq (sq_two (mesh_mesh h).1 (fixd_comm _) ((sq_fixd h 1 2).mpr hf))
theorem sq_outer0 {w : World} {mb : Nat} {M : Nat → Prop} (h : MeshAt w mb sqL sqT (sqF 0) M) : Calls Tryz.prog 10 #[ptr mb] w fun e w' => e = .returned (.tuple #[.int .i64 2, .int .i64 0]) ∧ Fr M w w' :=
 (outer_call h).mono fun e w' ⟨L, hL, he, _, hf⟩ => by
  rw [sq_L1 h hL (by rfl)] at he
  exact ⟨he, hf⟩
theorem sq_outer4 {w : World} {mb : Nat} {M : Nat → Prop} (h : MeshAt w mb sqL sqT (sqF 4) M) : Calls Tryz.prog 10 #[ptr mb] w fun e w' => e = .returned (.tuple #[.int .i64 0, .int .i64 0]) ∧ Fr M w w' :=
 (outer_call h).mono fun e w' ⟨L, hL, he, _, hf⟩ => by
  rw [sq_L1 h hL (by rfl)] at he
  exact ⟨he, hf⟩
def pOne : S := ⟨4607182418800017408, 4607182418800017408⟩
def pHalf : S := ⟨4602678819172646912, 4602678819172646912⟩
theorem wd_one {p : S} (h : gp p = true) (hw : wdS p) : (∀ x ∈ [p], wdS x) ∧ ∀ x ∈ [p], gp x = true := ⟨fun x hx => by rw [List.mem_singleton.mp hx]; exact hw, fun x hx => by rw [List.mem_singleton.mp hx]; exact h⟩
theorem sq_holes4 {w : World} {mb c : Nat} {M : Nat → Prop} {A : Option Addr} (h : MeshAt w mb sqL sqT (sqF 4) M) (hC : Kd.C k71 w A 1 [pOne]) : Calls Tryz.prog 12 #[ptr mb, .slice A 1 c] w fun e w' => e = .returned (.tuple #[.int .i64 2, .int .i64 0]) ∧ Fr M w w' := by
 have hp := wd_one (p := pOne) (by kernel_rfl) (by unfold wdS pOne; decide)
 refine (holes_call (lp := [pOne]) (c := c) h hC (by decide) hp.1 hp.2).mono fun e w' ⟨L, hL, he, _, hf⟩ => ?_
 rw [sq_L1 h hL (by rfl), show (([sqT].filter fun p => p.any fun t => [pOne].any (liesB sqL t)).flatten.length) = 2 by kernel_rfl] at he
 exact ⟨he, hf⟩
theorem sq_holes5 {w : World} {mb c : Nat} {M : Nat → Prop} {A : Option Addr} (h : MeshAt w mb sqL sqT (sqF 5) M) (hC : Kd.C k71 w A 1 [pHalf]) : Calls Tryz.prog 12 #[ptr mb, .slice A 1 c] w fun e w' => e = .returned (.tuple #[.int .i64 1, .int .i64 0]) ∧ Fr M w w' := by
 have hp := wd_one (p := pHalf) (by kernel_rfl) (by unfold wdS pHalf; decide)
 refine (holes_call (lp := [pHalf]) (c := c) h hC (by decide) hp.1 hp.2).mono fun e w' ⟨L, hL, he, _, hf⟩ => ?_
 rw [sq_L2 h hL (by rfl), show (([[(0, 1, 2)], [(1, 3, 2)]].filter fun p => p.any fun t => [pHalf].any (liesB sqL t)).flatten.length) = 1 by kernel_rfl] at he
 exact ⟨he, hf⟩
theorem pr_slice {W : World} {base : Nat} {v : Value} {hs : List Sl} {L : List (List Tr)} (h : Pr W base v hs L) : ∃ A c, v = .slice A L.length c := by
 obtain ⟨A, c, he, -, -⟩ := Kd.R_reads h.row
 exact ⟨A, c, by rw [he, h.len]⟩
theorem pr_one {W : World} {base : Nat} {v : Value} {hs : List Sl} {p : List Tr} (h : Pr W base v hs [p]) : ∃ g c A2 c2, v = .slice (some ⟨g, 0, none⟩) 1 c ∧ W.cell? ⟨g, 0, none⟩ = some (.slice A2 p.length c2) := by
 have hl : hs.length = 1 := h.len
 obtain ⟨x, rfl⟩ := List.length_eq_one_iff.mp hl
 have h1 := sl_row.mp h.row
 obtain ⟨g, c, rfl, -⟩ := h1.shape (by simp)
 have h2 := h1.cell (j := 0) (u := encSl x) rfl
 obtain ⟨A, d, he, -, -⟩ := Kd.R_reads (h.at_ 0 x p rfl rfl)
 exact ⟨g, c, A, d, rfl, by rw [h2, he]⟩
section
variable {w : World} {mb : Nat} {M : Nat → Prop}
theorem sq_parts5 (h : MeshAt w mb sqL sqT (sqF 5) M) : Calls Tryz.prog 20 #[ptr mb] w fun e w' => ∃ A c, e = .returned (.tuple #[.slice A 2 c, .int .i64 0]) ∧ Below w.heap.size w w' :=
 (parts_call h).mono fun e w' ⟨v, hs, L, he, hP, hL, hb⟩ => by
  have := sq_L2 h hL (by rfl)
  subst this
  obtain ⟨A, c, rfl⟩ := pr_slice hP
  exact ⟨A, c, he, hb⟩
theorem sq_parts0 (h : MeshAt w mb sqL sqT (sqF 0) M) : Calls Tryz.prog 20 #[ptr mb] w fun e w' => ∃ g c A2 c2, e = .returned (.tuple #[.slice (some ⟨g, 0, none⟩) 1 c, .int .i64 0]) ∧ w'.cell? ⟨g, 0, none⟩ = some (.slice A2 2 c2) ∧ Below w.heap.size w w' :=
 (parts_call h).mono fun e w' ⟨v, hs, L, he, hP, hL, hb⟩ => by
  have := sq_L1 h hL (by rfl)
  subst this
  obtain ⟨g, c, A2, c2, rfl, hc⟩ := pr_one hP
  exact ⟨g, c, A2, c2, he, hc, hb⟩
def oneAt (x : S) : Obj := .cells #[.float .f64 x.f0, .float .f64 x.f1] 71
theorem one_row (W : World) (x : S) : Kd.C k71 (W.alloc (oneAt x)) (some ⟨W.heap.size, 0, none⟩) 1 [x] := blk_row flatP (blk_new _ _) (by rfl) (show 1 ≤ maxLen by decide)
theorem sq_holes4_new (h : MeshAt w mb sqL sqT (sqF 4) M) : Calls Tryz.prog 12 #[ptr mb, .slice (some ⟨w.heap.size, 0, none⟩) 1 1] (w.alloc (.cells #[.float .f64 4607182418800017408, .float .f64 4607182418800017408] 71)) fun e w' => e = .returned (.tuple #[.int .i64 2, .int .i64 0]) ∧ Below w.heap.size w (w.alloc (.cells #[.float .f64 4607182418800017408, .float .f64 4607182418800017408] 71)) ∧ Fr M (w.alloc (.cells #[.float .f64 4607182418800017408, .float .f64 4607182418800017408] 71)) w' :=
 (sq_holes4 (h.below (below_alloc (Below.refl _ _) _)) (one_row w pOne)).mono fun _ _ ⟨h1, h2⟩ => ⟨h1, below_alloc (Below.refl _ _) _, h2⟩
theorem sq_holes5_new (h : MeshAt w mb sqL sqT (sqF 5) M) : Calls Tryz.prog 12 #[ptr mb, .slice (some ⟨w.heap.size, 0, none⟩) 1 1] (w.alloc (.cells #[.float .f64 4602678819172646912, .float .f64 4602678819172646912] 71)) fun e w' => e = .returned (.tuple #[.int .i64 1, .int .i64 0]) ∧ Below w.heap.size w (w.alloc (.cells #[.float .f64 4602678819172646912, .float .f64 4602678819172646912] 71)) ∧ Fr M (w.alloc (.cells #[.float .f64 4602678819172646912, .float .f64 4602678819172646912] 71)) w' :=
 (sq_holes5 (h.below (below_alloc (Below.refl _ _) _)) (one_row w pHalf)).mono fun _ _ ⟨h1, h2⟩ => ⟨h1, below_alloc (Below.refl _ _) _, h2⟩
end
def Gone (w W : World) : Prop := Below w.heap.size w W
theorem Gone.on {w W W' : World} (h : Gone w W) (k : Below W.heap.size W W') : Gone w W' := h.trans (k.mono h.size)
theorem Gone.fr {w W W' : World} {M : Nat → Prop} (h : Gone w W) (hk : ∀ k, M k → w.heap.size ≤ k) (k : Fr M W W') : Gone w W' := h.trans (k.below hk h.size)
theorem Gone.old {w W : World} {M : Nat → Prop} (h : Gone w W) (hk : ∀ k, M k → W.heap.size ≤ k) : ∀ k, M k → w.heap.size ≤ k := fun k q => Nat.le_trans h.size (hk k q)
theorem square0 (W : World) : Calls Tryz.prog 31 #[.int .i64 0] W fun e w' => ∃ mb M, e = .returned (ptr mb) ∧ MeshAt w' mb sqL sqT (sqF 0) M ∧ (∀ k, M k → W.heap.size ≤ k) ∧ Below W.heap.size W w' := square_call 0 (by omega) W
theorem square4 (W : World) : Calls Tryz.prog 31 #[.int .i64 4] W fun e w' => ∃ mb M, e = .returned (ptr mb) ∧ MeshAt w' mb sqL sqT (sqF 4) M ∧ (∀ k, M k → W.heap.size ≤ k) ∧ Below W.heap.size W w' := square_call 4 (by omega) W
theorem square5 (W : World) : Calls Tryz.prog 31 #[.int .i64 5] W fun e w' => ∃ mb M, e = .returned (ptr mb) ∧ MeshAt w' mb sqL sqT (sqF 5) M ∧ (∀ k, M k → W.heap.size ≤ k) ∧ Below W.heap.size W w' := square_call 5 (by omega) W
set_option maxRecDepth 100000 in
set_option maxHeartbeats 8000000 in
theorem works_call (w : World) : Calls Tryz.prog 7 #[] w fun e w' => e = .returned (.bool true) ∧ Below w.heap.size w w' := by
 have HB : Aside0 (Gone w w) := ⟨Below.refl _ _⟩
 go_enter Tryz.func7, Tryz.ntmps7
 go_wp2_with (first
  | (go_at_call 31; (with_reducible first | refine (square0 _).mono ?_ | refine (square4 _).mono ?_ | refine (square5 _).mono ?_); rintro u_ w3 ⟨mb, M, rfl, hM, hk, hb⟩; have HK := Aside0.mk (HB.out.old hk); have HB := Aside0.mk (HB.out.on hb); clear hk hb)
  | (go_at_call 10; (with_reducible first | refine (sq_outer0 hM).mono ?_ | refine (sq_outer4 hM).mono ?_); rintro u_ w4 ⟨rfl, hf⟩; have HB := Aside0.mk (HB.out.fr HK.out hf); clear hf)
  | (go_at_call 12; (with_reducible first | refine (sq_holes4_new hM).mono ?_ | refine (sq_holes5_new hM).mono ?_); rintro u_ w4 ⟨rfl, hb, hf⟩; have HB := Aside0.mk ((HB.out.on hb).fr HK.out hf); clear hb hf)
  | (go_at_call 20; (with_reducible refine (sq_parts5 hM).mono ?_); rintro u_ w4 ⟨A5, c5, rfl, hb⟩; have HB := Aside0.mk (HB.out.on hb); clear hb)
  | (go_at_call 20; (with_reducible refine (sq_parts0 hM).mono ?_); rintro u_ w4 ⟨g0, c0, A0, d0, rfl, hc, hb⟩; have HB := Aside0.mk (HB.out.on hb); clear hb))
 go_ret
 exact ⟨rfl, HB.out⟩
end Go.Proofs.YtaoichlepfiliaaGreatDoor.Msh
end
section
namespace Go.Proofs.YtaoichlepfiliaaGreatDoor.Msh
open Go.RowKit Go.Proofs.YtaoichlepfiliaaGreatDoor.Mp Go.Proofs.YtaoichlepfiliaaGreatDoor.Adm
def Wk (l : List Tr) : Prop := l.Pairwise fun a b => ¬ lt3 b a
theorem put_at {t : Tr} : ∀ {l : List Tr} {k : Nat}, (∀ x ∈ l.take k, ¬ lt3 t x) → (∀ x ∈ l.drop k, lt3 t x) → put t l = l.take k ++ t :: l.drop k
 | [], k, _, _ => by simp [put]
 | x :: l, 0, _, h => by simp [put, h x (by simp)]
 | x :: l, k + 1, h, h2 => by
  have hx : ¬ lt3 t x := h x (by simp)
  rw [put, if_neg hx, put_at (k := k) (fun y hy => h y (by simp [hy])) (fun y hy => h2 y (by simpa using hy))]
  rfl
theorem lt3_asymm {a b : Tr} (h : lt3 a b) : ¬ lt3 b a := fun k => lt3_irrefl _ (lt3_trans h k)
theorem not_lt3_trans {a b c : Tr} (h : ¬ lt3 b a) (k : ¬ lt3 c b) : ¬ lt3 c a := by unfold lt3 at *; omega
theorem put_wk {t : Tr} : ∀ {l : List Tr}, Wk l → Wk (put t l)
 | [], _ => by unfold Wk put; simp
 | x :: l, h => by
  unfold Wk at h
  obtain ⟨h1, h2⟩ := List.pairwise_cons.mp h
  unfold put
  split
  ·rename_i hl
   refine List.pairwise_cons.mpr ⟨fun y hy => ?_, h⟩
   rcases List.mem_cons.mp hy with rfl | k
   ·exact lt3_asymm hl
   ·exact not_lt3_trans (lt3_asymm hl) (h1 y k)
  ·rename_i hl
   refine List.pairwise_cons.mpr ⟨fun y hy => ?_, put_wk h2⟩
   rcases put_mem.mp hy with rfl | k
   ·exact hl
   ·exact h1 y k
theorem tris_wk (T : List Tr) : Wk (tris T) := by
 have : ∀ (l L : List Tr), Wk L → Wk (l.foldl (fun l t => put t l) L) := fun l => by
  induction l with
  | nil => intro L h; exact h
  | cons t l ih => intro L h; exact ih _ (put_wk h)
 exact this _ _ (by unfold Wk; simp)
theorem put_back {t : Tr} {l : List Tr} {k : Nat} (hw : Wk l) (hk : k ≤ l.length) (h1 : ∀ x ∈ l.drop k, lt3 t x) (h2 : ∀ (h : 0 < k), ¬ lt3 t (l[k - 1]'(by omega))) : put t l = l.take k ++ t :: l.drop k := by
 refine put_at (fun x hx => ?_) h1
 obtain ⟨i, hi, rfl⟩ := List.getElem_of_mem hx
 rw [List.length_take] at hi
 rw [List.getElem_take]
 have := h2 (by omega)
 by_cases e : i = k - 1
 ·subst e; exact this
 ·exact fun q => this (by
   have hq := List.pairwise_iff_getElem.mp hw i (k - 1) (by omega) (by omega) (by omega)
   unfold lt3 at *; omega)
def refO (l : List S) (T : List Tr) (t : Tr) : List Tr := if makeE l T t = 0 then T ++ [t] else T
theorem makeE_eq {l : List S} {T : List Tr} (h : Made T) (t : Tr) : makeE l T t = makeE l (tris T) t := by
 have hf : Free T t ↔ Free (tris T) t := by unfold Free; rw [h.apx_eq, h.apx_eq, h.apx_eq]
 unfold makeE
 by_cases q : Free T t
 ·rw [if_pos q, if_pos (hf.mp q)]
 ·rw [if_neg q, if_neg (fun k => q (hf.mpr k))]
theorem makeE_zero {l : List S} {O : List Tr} {t : Tr} (h : makeE l O t = 0) : hasN l t.1 = true ∧ hasN l t.2.1 = true ∧ hasN l t.2.2 = true ∧ 0 < sgT l t ∧ Free O t := by
 unfold makeE at h
 split at h
 ·cases h
 ·split at h
  ·cases h
  ·split at h
   ·rename_i h1 h2 h3
    refine ⟨?_, ?_, ?_, by omega, h3⟩
    ·cases q : hasN l t.1 <;> simp_all
    ·cases q : hasN l t.2.1 <;> simp_all
    ·cases q : hasN l t.2.2 <;> simp_all
   ·cases h
theorem ref_step {l : List S} {T : List Tr} (h : Made T) (t : Tr) : Made (refO l T t) ∧ tris (refO l T t) = makeO l (tris T) t := by
 unfold refO makeO
 rw [← makeE_eq h]
 split
 ·rename_i h0
  obtain ⟨-, -, -, h4, h5⟩ := makeE_zero h0
  exact ⟨h.add (sgT_ds (a := t.1) (b := t.2.1) (c := t.2.2) (by show ¬ sgT l t ≤ 0; omega)) h5, tris_add T t⟩
 ·exact ⟨h, rfl⟩
def bothT (l : List S) (Ts : List Tr) : List Tr := Ts.foldl (refO l) []
def bothO (l : List S) (Ts : List Tr) : List Tr := Ts.foldl (makeO l) []
def bothF (l : List S) (Fs : List Tr) : List Tr := Fs.foldl (fun F t => fixF l F t.1 t.2.1 t.2.2) []
theorem both_law (l : List S) (Ts : List Tr) : Made (bothT l Ts) ∧ tris (bothT l Ts) = bothO l Ts := by
 have : ∀ (Ts T : List Tr), Made T → Made (Ts.foldl (refO l) T) ∧ tris (Ts.foldl (refO l) T) = Ts.foldl (makeO l) (tris T) := fun Ts => by
  induction Ts with
  | nil => intro T h; exact ⟨h, rfl⟩
  | cons t Ts ih =>
   intro T h
   obtain ⟨h1, h2⟩ := ref_step (l := l) h t
   have := ih _ h1
   rw [h2] at this
   exact this
 exact this Ts [] made_none
end Go.Proofs.YtaoichlepfiliaaGreatDoor.Msh
end
section
namespace Go.Proofs.YtaoichlepfiliaaGreatDoor.Msh
open Go.RowKit Go.Sort Go.ChangeMaps Go.MapKept Go.Proofs.YtaoichlepfiliaaGreatDoor.Mp Go.Proofs.YtaoichlepfiliaaGreatDoor.Adm Go.Proofs.YtaoichlepfiliaaGreatDoor.Kfl Go.Proofs.YtaoichlepfiliaaGreatDoor.R Go.Proofs.YtaoichlepfiliaaGreatDoor.E Go.Proofs.YtaoichlepfiliaaGreatDoorW.PrintWords Go.Proofs.YtaoichlepfiliaaGreatDoorW.PrintLast
structure RefIn (w : World) (xb : Nat) (A : Option Addr) (c : Nat) (vT vF : Value) (l : List S) (T F : List Tr) (X : Nat → Prop) : Prop where
 blk : w.heap[xb]? = some (.cells #[.slice A l.length c, vT, vF] 43 (0, 0))
 pts : Kd.R k71 71 w 0 X (.slice A l.length c) l
 tri : kTr.R 53 w 0 X vT T
 seg : kTr.R 78 w 0 X vF F
 mine : X xb
 old : ∀ k, X k → k < w.heap.size
 good : (∀ x ∈ l, gp x = true) ∧ l.length ≤ 1048576
def RefAt (w : World) (xb : Nat) (l : List S) (T F : List Tr) (X : Nat → Prop) : Prop := ∃ A c vT vF, RefIn w xb A c vT vF l T F X
section
variable {w w' : World} {xb : Nat} {l : List S} {T F : List Tr} {X : Nat → Prop}
theorem RefAt.move (h : RefAt w xb l T F X) (hs : w.heap.size ≤ w'.heap.size) (hm : ∀ k, X k → w'.heap[k]? = w.heap[k]?) : RefAt w' xb l T F X := by
 obtain ⟨A, c, vT, vF, h⟩ := h
 exact ⟨A, c, vT, vF, (hm xb h.mine).trans h.blk, Kd.R_move h.pts hm, Kd.R_move h.tri hm, Kd.R_move h.seg hm, h.mine, fun k hk => Nat.lt_of_lt_of_le (h.old k hk) hs, h.good⟩
theorem RefAt.old (h : RefAt w xb l T F X) : ∀ k, X k → k < w.heap.size := by
 obtain ⟨A, c, vT, vF, h⟩ := h
 exact h.old
theorem RefAt.below (h : RefAt w xb l T F X) (hb : Below w.heap.size w w') : RefAt w' xb l T F X := h.move hb.size (fun k hk => hb.block k (h.old k hk))
theorem RefAt.fr {M : Nat → Prop} (h : RefAt w xb l T F X) (hb : Fr M w w') (hd : ∀ k, X k → ¬ M k) : RefAt w' xb l T F X := h.move hb.size (fun k hk => hb.block k (h.old k hk) (hd k hk))
theorem rhas_call (h : RefAt w xb l T F X) (i : Int) : Calls Tryz.prog 69 #[ptr xb, .int .i64 i] w fun e w' => e = .returned (.bool (hasN l i)) ∧ w = w' := by
 obtain ⟨A, c, vT, vF, h⟩ := h
 have h0 : w.cell? ⟨xb, 0, none⟩ = some (.slice A l.length c) := by rw [blk_cell h.blk]; rfl
 clear h
 unfold hasN
 by_cases g0 : 0 ≤ i
 ·have e0 : decide (0 ≤ i) = true := decide_eq_true g0
  have e1 : decide (0 ≤ i ∧ i < l.length) = decide (i < (l.length : Int)) := by simp [g0]
  rw [e1]
  go_enter Tryz.func69, Tryz.ntmps69
  go_wp2
  go_ret
  exact ⟨rfl, rfl⟩
 ·have e0 : decide (0 ≤ i) = false := decide_eq_false g0
  have e1 : decide (0 ≤ i ∧ i < l.length) = false := by simp; omega
  rw [e1]
  go_enter Tryz.func69, Tryz.ntmps69
  go_wp2
  go_ret
  exact ⟨rfl, rfl⟩
end
theorem behind_at {T : List Tr} {a b c : Int} {i : Nat} (hi : i < T.length) (h0 : (T.take i).findSome? (third a b) = none) (h : third a b T[i] = some c) : behind T a b = some c := by
 have e : T = T.take i ++ T[i] :: T.drop (i + 1) := by rw [← List.drop_eq_getElem_cons hi, List.take_append_drop]
 have e2 : behind T a b = (T.take i ++ T[i] :: T.drop (i + 1)).findSome? (third a b) := congrArg (fun L => List.findSome? (third a b) L) e
 rw [e2, List.findSome?_append, h0, List.findSome?_cons, h]
 rfl
theorem behind_on {T : List Tr} {a b : Int} {i : Nat} (hi : i < T.length) (h0 : (T.take i).findSome? (third a b) = none) (h : third a b T[i] = none) : (T.take (i + 1)).findSome? (third a b) = none := by
 rw [List.take_succ_eq_append_getElem hi, List.findSome?_append, h0, List.findSome?_cons, h]
 rfl
theorem third_0 {a b x y z : Int} (h : x = a ∧ y = b) : third a b (x, y, z) = some z := by unfold third; rw [if_pos h]
theorem third_1 {a b x y z : Int} (h : ¬ (x = a ∧ y = b)) (h1 : y = a ∧ z = b) : third a b (x, y, z) = some x := by unfold third; rw [if_neg h, if_pos h1]
theorem third_2 {a b x y z : Int} (h : ¬ (x = a ∧ y = b)) (h1 : ¬ (y = a ∧ z = b)) (h2 : z = a ∧ x = b) : third a b (x, y, z) = some y := by unfold third; rw [if_neg h, if_neg h1, if_pos h2]
theorem third_3 {a b x y z : Int} (h : ¬ (x = a ∧ y = b)) (h1 : ¬ (y = a ∧ z = b)) (h2 : ¬ (z = a ∧ x = b)) : third a b (x, y, z) = none := by unfold third; rw [if_neg h, if_neg h1, if_neg h2]
section
variable {w w' : World} {xb : Nat} {l : List S} {T F : List Tr} {X : Nat → Prop}
set_option maxRecDepth 100000 in
set_option maxHeartbeats 8000000 in
theorem rapex_call (h : RefAt w xb l T F X) (hz : T.length ≤ 1000000) (a b : Int) : Calls Tryz.prog 71 #[ptr xb, .int .i64 a, .int .i64 b] w fun e w' => e = .returned (.tuple #[.int .i64 ((behind T a b).getD 0), .bool (behind T a b).isSome]) ∧ w = w' := by
 obtain ⟨A, c, vT, vF, h⟩ := h
 obtain ⟨A2, c2, rfl, -, hC⟩ := Kd.R_reads h.tri
 have h0 : w.cell? ⟨xb, 1, none⟩ = some (.slice A2 T.length c2) := by rw [blk_cell h.blk]; rfl
 clear h
 go_enter Tryz.func71, Tryz.ntmps71
 go_wp2
 go_loopw [8] (fun v8 wr => ∃ i : Nat, v8 = .int .i64 i ∧ i ≤ T.length ∧ w = wr ∧ Aside0 ((T.take i).findSome? (third a b) = none)) (fun v8 _ => T.length - (intOf v8).toNat)
 case atStart => exact ⟨0, rfl, Nat.zero_le _, rfl, ⟨by simp⟩⟩
 case round =>
  obtain ⟨i, rfl, hi, rfl, HF⟩ := hrel
  by_cases hlt : i < T.length
  ·obtain ⟨ad, rfl, x0, x1, x2⟩ := at_tr hC hlt hlt
   have d1 : decide ((i : Int) < (T.length : Int)) = true := by simp; omega
   have d2 : decide (i < T.length) = true := decide_eq_true hlt
   have i1 : IntKind.i64.wrap ((i : Int) + 1) = (i : Int) + 1 := wrapN (by omega) (by omega)
   have HON := Aside0.mk (fun (h : third a b T[i] = none) => behind_on hlt HF.out h)
   have HAT := Aside0.mk (fun (c : Int) (h : third a b T[i] = some c) => behind_at hlt HF.out h)
   clear HF
   generalize T[i] = t at *
   obtain ⟨x, y, z⟩ := t
   simp only at x0 x1 x2
   go_wp2
   go_loopw [9] (fun v9 wr => ∃ k : Nat, k ≤ 3 ∧ v9 = .int .i64 k ∧ w = wr ∧ Aside0 ((0 < k → ¬ (x = a ∧ y = b)) ∧ (1 < k → ¬ (y = a ∧ z = b)) ∧ (2 < k → ¬ (z = a ∧ x = b)))) (fun v9 _ => 3 - (intOf v9).toNat)
   case atStart => exact ⟨0, by omega, rfl, rfl, ⟨by omega, by omega, by omega⟩⟩
   case round =>
    obtain ⟨k, hk, rfl, rfl, HK⟩ := hrel
    rcases (show k = 0 ∨ k = 1 ∨ k = 2 ∨ k = 3 by omega) with rfl | rfl | rfl | rfl
    ·have j1 : IntKind.i64.wrap 1 = 1 := by decide
     have j2 : IntKind.i64.wrap 2 = 2 := by decide
     have j3 : IntKind.i64.wrap 3 = 3 := by decide
     have j4 : IntKind.i64.wrap 4 = 4 := by decide
     by_cases e1 : x = a
     ·have c1 : decide (x = a) = true := decide_eq_true e1
      have c2 : (x == a) = true := by simpa using e1
      by_cases e2 : y = b
      ·have c3 : decide (y = b) = true := decide_eq_true e2
       have c4 : (y == b) = true := by simpa using e2
       have HQ := Aside0.mk (And.intro e1 e2)
       clear e1 e2
       go_wp2
       go_ret2
       rw [HAT.out _ (third_0 (HQ.out))]
       exact ⟨rfl, rfl⟩
      ·have c3 : decide (y = b) = false := decide_eq_false e2
       have c4 : (y == b) = false := by simpa using e2
       have HQ : Aside0 (¬ (x = a ∧ y = b)) := ⟨fun h => e2 h.2⟩
       clear e1 e2
       go_wp2
       go_roundw
       case rel => exact ⟨1, by omega, rfl, trivial, ⟨fun _ => HQ.out, fun h => by omega, fun h => by omega⟩⟩
       case measure => simp [intOf]
     ·have c1 : decide (x = a) = false := decide_eq_false e1
      have c2 : (x == a) = false := by simpa using e1
      have HQ : Aside0 (¬ (x = a ∧ y = b)) := ⟨fun h => e1 h.1⟩
      clear e1
      go_wp2
      go_roundw
      case rel => exact ⟨1, by omega, rfl, trivial, ⟨fun _ => HQ.out, fun h => by omega, fun h => by omega⟩⟩
      case measure => simp [intOf]
    ·have j1 : IntKind.i64.wrap 1 = 1 := by decide
     have j2 : IntKind.i64.wrap 2 = 2 := by decide
     have j3 : IntKind.i64.wrap 3 = 3 := by decide
     have j4 : IntKind.i64.wrap 4 = 4 := by decide
     by_cases e1 : y = a
     ·have c1 : decide (y = a) = true := decide_eq_true e1
      have c2 : (y == a) = true := by simpa using e1
      by_cases e2 : z = b
      ·have c3 : decide (z = b) = true := decide_eq_true e2
       have c4 : (z == b) = true := by simpa using e2
       have HQ := Aside0.mk (And.intro e1 e2)
       clear e1 e2
       go_wp2
       go_ret2
       rw [HAT.out _ (third_1 (HK.out.1 (by omega)) HQ.out)]
       exact ⟨rfl, rfl⟩
      ·have c3 : decide (z = b) = false := decide_eq_false e2
       have c4 : (z == b) = false := by simpa using e2
       have HQ : Aside0 (¬ (y = a ∧ z = b)) := ⟨fun h => e2 h.2⟩
       clear e1 e2
       go_wp2
       go_roundw
       case rel => exact ⟨2, by omega, rfl, trivial, ⟨fun _ => HK.out.1 (by omega), fun _ => HQ.out, fun h => by omega⟩⟩
       case measure => simp [intOf]
     ·have c1 : decide (y = a) = false := decide_eq_false e1
      have c2 : (y == a) = false := by simpa using e1
      have HQ : Aside0 (¬ (y = a ∧ z = b)) := ⟨fun h => e1 h.1⟩
      clear e1
      go_wp2
      go_roundw
      case rel => exact ⟨2, by omega, rfl, trivial, ⟨fun _ => HK.out.1 (by omega), fun _ => HQ.out, fun h => by omega⟩⟩
      case measure => simp [intOf]
    ·have j1 : IntKind.i64.wrap 1 = 1 := by decide
     have j2 : IntKind.i64.wrap 2 = 2 := by decide
     have j3 : IntKind.i64.wrap 3 = 3 := by decide
     have j4 : IntKind.i64.wrap 4 = 4 := by decide
     by_cases e1 : z = a
     ·have c1 : decide (z = a) = true := decide_eq_true e1
      have c2 : (z == a) = true := by simpa using e1
      by_cases e2 : x = b
      ·have c3 : decide (x = b) = true := decide_eq_true e2
       have c4 : (x == b) = true := by simpa using e2
       have HQ := Aside0.mk (And.intro e1 e2)
       clear e1 e2
       go_wp2
       go_ret2
       rw [HAT.out _ (third_2 (HK.out.1 (by omega)) (HK.out.2.1 (by omega)) HQ.out)]
       exact ⟨rfl, rfl⟩
      ·have c3 : decide (x = b) = false := decide_eq_false e2
       have c4 : (x == b) = false := by simpa using e2
       have HQ : Aside0 (¬ (z = a ∧ x = b)) := ⟨fun h => e2 h.2⟩
       clear e1 e2
       go_wp2
       go_roundw
       case rel => exact ⟨3, by omega, rfl, trivial, ⟨fun _ => HK.out.1 (by omega), fun _ => HK.out.2.1 (by omega), fun _ => HQ.out⟩⟩
       case measure => simp [intOf]
     ·have c1 : decide (z = a) = false := decide_eq_false e1
      have c2 : (z == a) = false := by simpa using e1
      have HQ : Aside0 (¬ (z = a ∧ x = b)) := ⟨fun h => e1 h.1⟩
      clear e1
      go_wp2
      go_roundw
      case rel => exact ⟨3, by omega, rfl, trivial, ⟨fun _ => HK.out.1 (by omega), fun _ => HK.out.2.1 (by omega), fun _ => HQ.out⟩⟩
      case measure => simp [intOf]
    ·have HT := Aside0.mk (HON.out (third_3 (HK.out.1 (by omega)) (HK.out.2.1 (by omega)) (HK.out.2.2 (by omega))))
     go_wp2
     go_roundw
     case rel => exact ⟨i + 1, by simp, by omega, trivial, HT⟩
     case measure => simp [intOf]; omega
  ·have d1 : decide ((i : Int) < (T.length : Int)) = false := by simp; omega
   have d2 : decide (i < T.length) = false := decide_eq_false hlt
   have e : behind T a b = none := by have := HF.out; rwa [List.take_of_length_le (by omega)] at this
   have HQ := Aside0.mk e
   clear e
   go_wp2
   go_ret2
   rw [HQ.out]
   exact ⟨rfl, rfl⟩
end
end Go.Proofs.YtaoichlepfiliaaGreatDoor.Msh
end
