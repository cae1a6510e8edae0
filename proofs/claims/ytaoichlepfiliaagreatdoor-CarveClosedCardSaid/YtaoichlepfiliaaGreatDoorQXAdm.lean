/- Lemmas of Adm. Conditions stand in each. -/
import Derived.Test.YtaoichlepfiliaaGreatDoorQXO1
import Derived.Deep.RegionHeld3
import Derived.Test.YtaoichlepfiliaaGreatDoorQXMsa
import Derived.Test.YtaoichlepfiliaaGreatDoorQXMcb
set_option linter.unusedSimpArgs false
set_option linter.unusedVariables false
section
namespace Go.Proofs.YtaoichlepfiliaaGreatDoor.Adm
open Go.RowKit Go.Proofs.YtaoichlepfiliaaGreatDoor.FltP Go.Proofs.YtaoichlepfiliaaGreatDoor.R Go.Proofs.YtaoichlepfiliaaGreatDoor.E Go.Proofs.YtaoichlepfiliaaGreatDoor.O Go.Proofs.YtaoichlepfiliaaGreatDoorW.PrintWords Go.Proofs.YtaoichlepfiliaaGreatDoorW.PrintLast
abbrev S := S71
def gp (x : S) : Bool := goodB x.f0 && goodB x.f1
def Wd (l : List S) : Prop := ∀ x ∈ l, x.f0 < 2 ^ 64 ∧ x.f1 < 2 ^ 64
theorem rd_at {l : List S} {n : Nat} (h : n < l.length) : rd_T71 l (n : Int) ∈ l := by
 unfold rd_T71; rw [Int.toNat_natCast, List.getD_eq_getElem?_getD, List.getElem?_eq_getElem h]; exact List.getElem_mem h
theorem rd_get {l : List S} {n : Nat} (h : n < l.length) : rd_T71 l (n : Int) = l[n] := by
 unfold rd_T71; rw [Int.toNat_natCast, List.getD_eq_getElem?_getD, List.getElem?_eq_getElem h]; rfl
theorem drop_S {l : List S} {n : Nat} (h : n < l.length) : l.drop n = rd_T71 l (n : Int) :: l.drop (n + 1) := by
 rw [rd_get h]; exact List.drop_eq_getElem_cons h
def idxF {α : Type} (p : α → Bool) : Nat → List α → Int
 | _, [] => -1
 | n, x :: xs => if p x = true then n else idxF p (n + 1) xs
set_option maxHeartbeats 1000000 in
theorem bad_calls (x : S) (h0 : x.f0 < 2 ^ 64) (h1 : x.f1 < 2 ^ 64) (W : World) :
 Calls Tryz.prog 92 #[.agg #[.float .f64 x.f0, .float .f64 x.f1]] W fun e w' => e = .returned (.bool (!gp x)) ∧ Below W.heap.size W w' := by
 have hm := may_some h0 h1
 unfold gp
 generalize (goodB x.f0 && goodB x.f1) = g at hm ⊢
 have hu32 := Tryz.underlying71
 go_enter Tryz.func92, Tryz.ntmps92
 go_wp2_with (go_at_call 78; (with_reducible refine (admit_May.calls _ _ _ _ hm).mono ?_); rintro y w1 ⟨rfl, hd⟩)
 go_ret
 exact ⟨rfl, ((Below.refl _ _).alloc (Nat.le_refl _) _).trans (hd.mono (by simp))⟩
set_option maxRecDepth 100000 in
set_option maxHeartbeats 1000000 in
theorem index_calls (A : Option Addr) (c : Nat) (l : List S) (w : World) (hl : Kd.C k71 w A l.length l) (hc : l.length ≤ c) (hw : Wd l) :
 Calls Tryz.prog 55 #[.slice A l.length c, .func (.func 92) #[] #[]] w fun e w' => e = .returned (.int .i64 (idxF (fun x => !gp x) 0 l)) ∧ Below w.heap.size w w' := by
 have hu32 := Tryz.underlying71
 have hm := hl.2.1
 go_enter Tryz.func55, Tryz.ntmps55
 go_wp2
 go_loopw [8] (fun x wr => ∃ (n : Nat), x = .int .i64 n ∧ n ≤ l.length ∧ Below w.heap.size w wr ∧ Aside0 (idxF (fun x => !gp x) n (l.drop n) = idxF (fun x => !gp x) 0 l)) (fun x _ => l.length - (intOf x).toNat)
 case atStart => exact ⟨0, rfl, Nat.zero_le _, Below.refl _ _, ⟨rfl⟩⟩
 case round =>
  obtain ⟨n, rfl, hn, hB, hi⟩ := hrel
  by_cases hlt : n < l.length
  ·have d1 : decide ((n : Int) < (l.length : Int)) = true := by simp; omega
   have d2 : decide (n < l.length) = true := by simp; omega
   have d3 : decide ((0 : Int) ≤ n) = true := by simp
   obtain ⟨ad, rfl, hx0, hx1⟩ := at_T71 (Kd.C_below hl hB) n (by omega) (by omega)
   rw [Int.toNat_natCast] at hx0 hx1
   replace hi := hi.out
   rw [drop_S hlt, idxF] at hi
   have hwd := hw _ (rd_at hlt)
   have hcl := fun W => bad_calls (rd_T71 l (n : Int)) hwd.1 hwd.2 W
   generalize rd_T71 l (n : Int) = x at *
   cases hg : gp x
   ·rw [hg] at hi hcl
    rw [if_pos (by rfl)] at hi
    replace hi := Aside0.mk hi
    simp only [Bool.not_false] at hcl
    go_wp2_with (go_at_call 92; (with_reducible refine (hcl _).mono ?_); rintro y w1 ⟨rfl, hb1⟩)
    go_ret
    rw [← hi.out]
    exact ⟨rfl, hB.trans (hb1.mono hB.size)⟩
   ·rw [hg] at hi hcl
    rw [if_neg (by decide)] at hi
    replace hi := Aside0.mk hi
    simp only [Bool.not_true] at hcl
    go_wp2_with (go_at_call 92; (with_reducible refine (hcl _).mono ?_); rintro y w1 ⟨rfl, hb1⟩)
    go_roundw
    case rel => exact ⟨n + 1, by go_num, by omega, hB.trans (hb1.mono hB.size), hi⟩
    case measure => simp [intOf]; omega
  ·have d1 : decide ((n : Int) < (l.length : Int)) = false := by simp; omega
   have d2 : decide (n < l.length) = false := by simp; omega
   replace hi := hi.out
   rw [List.drop_eq_nil_of_le (by omega), idxF] at hi
   replace hi := Aside0.mk hi
   go_wp2
   go_ret
   rw [← hi.out]
   exact ⟨rfl, hB⟩
def allF (l : List S) : Int × Int := if l.length > 1048576 then (0, 3) else if idxF (fun x => !gp x) 0 l ≥ 0 then (idxF (fun x => !gp x) 0 l, 10) else (0, 0)
set_option maxRecDepth 100000 in
set_option maxHeartbeats 1000000 in
theorem all_calls (A : Option Addr) (c : Nat) (l : List S) (w : World) (hl : Kd.C k71 w A l.length l) (hc : l.length ≤ c) (hw : Wd l) :
 Calls Tryz.prog 63 #[.slice A l.length c] w fun e w' => e = .returned (.tuple #[.int .i64 (allF l).1, .int .i64 (allF l).2]) ∧ Below w.heap.size w w' := by
 have hi := index_calls A c l w hl hc hw
 unfold allF
 generalize idxF (fun x => !gp x) 0 l = r at hi ⊢
 by_cases h1 : l.length > 1048576
 ·have d1 : decide ((1048576 : Int) < (l.length : Int)) = true := by simp; omega
  have d2 : decide (1048576 < l.length) = true := by simp; omega
  rw [if_pos h1]
  go_enter Tryz.func63, Tryz.ntmps63
  go_wp2
  go_ret2
  exact ⟨rfl, Below.refl _ _⟩
 ·have d1 : decide ((1048576 : Int) < (l.length : Int)) = false := by simp; omega
  have d2 : decide (1048576 < l.length) = false := by simp; omega
  rw [if_neg h1]
  by_cases h2 : r ≥ 0
  ·have d3 : decide ((0 : Int) ≤ r) = true := by simp; omega
   rw [if_pos h2]
   go_enter Tryz.func63, Tryz.ntmps63
   go_wp2_with (go_at_call 55; (with_reducible refine hi.mono ?_); rintro y w1 ⟨rfl, hb1⟩)
   go_ret2
   exact ⟨rfl, hb1⟩
  ·have d3 : decide ((0 : Int) ≤ r) = false := by simp; omega
   rw [if_neg h2]
   go_enter Tryz.func63, Tryz.ntmps63
   go_wp2_with (go_at_call 55; (with_reducible refine hi.mono ?_); rintro y w1 ⟨rfl, hb1⟩)
   go_ret2
   exact ⟨rfl, hb1⟩
end Go.Proofs.YtaoichlepfiliaaGreatDoor.Adm
end
section
namespace Go.Proofs.YtaoichlepfiliaaGreatDoor.Msh
open Go.RowKit Go.Proofs.YtaoichlepfiliaaGreatDoor.Mp Go.Proofs.YtaoichlepfiliaaGreatDoor.R Go.Proofs.YtaoichlepfiliaaGreatDoor.E Go.Proofs.YtaoichlepfiliaaGreatDoorW.PrintWords Go.Proofs.YtaoichlepfiliaaGreatDoorW.PrintLast
open Go.Proofs.YtaoichlepfiliaaGreatDoor.Adm
def Spk (w : World) (E : Int → Int → Prop) (s : Int → Option Value) (M : Nat → Prop) : Prop :=
 ∀ x v, s x = some v → ∃ xs : List Int, w.ownsRow 0 3 1 v xs.length (encs (Value.int .i64) xs) ∧ xs.Nodup ∧ (∀ y ∈ xs, E x y) ∧ (∀ k, v.ownBlock = some k → M k) ∧ ∀ y u, s y = some u → y ≠ x → ∀ k, v.ownBlock = some k → u.ownBlock ≠ some k
structure Raw (w : World) (mb : Nat) (A : Option Addr) (c ab sb fb : Nat) (l : List S) (cnt : Int) (f g : Int × Int → Option Value) (s : Int → Option Value) (E : Int → Int → Prop) (M : Nat → Prop) : Prop where
 blk : w.heap[mb]? = some (.cells #[.slice A l.length c, .map (some ab), .map (some sb), .int .i64 cnt, .map (some fb)] 90 (0, 0))
 pts : Kd.R k71 71 w 0 M (.slice A l.length c) l
 apex : MapF encE okE w ab f
 fixed : MapF encE okE w fb g
 spokes : MapF (fun x : Int => Value.int .i64 x) W64 w sb s
 rows : Spk w E s M
 ne : ab ≠ sb ∧ ab ≠ fb ∧ sb ≠ fb
 mine : M mb ∧ M ab ∧ M sb ∧ M fb
 old : ∀ k, M k → k < w.heap.size
theorem Raw.move {w w' : World} {mb : Nat} {A : Option Addr} {c ab sb fb : Nat} {l : List S} {cnt : Int} {f g : Int × Int → Option Value} {s : Int → Option Value} {E : Int → Int → Prop} {M : Nat → Prop} (h : Raw w mb A c ab sb fb l cnt f g s E M) (hs : w.heap.size ≤ w'.heap.size) (hm : ∀ k, M k → w'.heap[k]? = w.heap[k]?) : Raw w' mb A c ab sb fb l cnt f g s E M := by
 refine ⟨(hm mb h.mine.1).trans h.blk, Kd.R_move h.pts hm, h.apex.move (hm ab h.mine.2.1), h.fixed.move (hm fb h.mine.2.2.2), h.spokes.move (hm sb h.mine.2.2.1), fun x v hx => ?_, h.ne, h.mine, fun k hk => Nat.lt_of_lt_of_le (h.old k hk) hs⟩
 obtain ⟨xs, h1, h2, h3, h4, h5⟩ := h.rows x v hx
 exact ⟨xs, own_move h1 (fun k hk => hm k (h4 k hk)), h2, h3, h4, h5⟩
structure MeshIn (w : World) (mb : Nat) (A : Option Addr) (c ab sb fb : Nat) (l : List S) (O F : List Tr) (f g : Int × Int → Option Value) (s : Int → Option Value) (M : Nat → Prop) : Prop extends Raw w mb A c ab sb fb l (O.length : Nat) f g s (fun x y => (f (x, y)).isSome = true) M where
 apx : Apx f O
 fxs : Fxs g F
 mesh : Mesh O
 up2 : Up2 F
 good : (∀ x ∈ l, gp x = true) ∧ l.length ≤ 1048576
 rng : ∀ t ∈ O, (0 ≤ t.1 ∧ t.1 < l.length) ∧ (0 ≤ t.2.1 ∧ t.2.1 < l.length) ∧ (0 ≤ t.2.2 ∧ t.2.2 < l.length)
 frng : ∀ t ∈ F, (0 ≤ t.1 ∧ t.1 < l.length) ∧ (0 ≤ t.2.1 ∧ t.2.1 < l.length)
def MeshAt (w : World) (mb : Nat) (l : List S) (O F : List Tr) (M : Nat → Prop) : Prop := ∃ A c ab sb fb f g s, MeshIn w mb A c ab sb fb l O F f g s M
theorem MeshAt.move {w w' : World} {mb : Nat} {l : List S} {O F : List Tr} {M : Nat → Prop} (h : MeshAt w mb l O F M) (hs : w.heap.size ≤ w'.heap.size) (hm : ∀ k, M k → w'.heap[k]? = w.heap[k]?) : MeshAt w' mb l O F M := by
 obtain ⟨A, c, ab, sb, fb, f, g, s, h⟩ := h
 exact ⟨A, c, ab, sb, fb, f, g, s, { toRaw := h.toRaw.move hs hm, apx := h.apx, fxs := h.fxs, mesh := h.mesh, up2 := h.up2, good := h.good, rng := h.rng, frng := h.frng }⟩
theorem MeshAt.old {w : World} {mb : Nat} {l : List S} {O F : List Tr} {M : Nat → Prop} (h : MeshAt w mb l O F M) : ∀ k, M k → k < w.heap.size := by
 obtain ⟨A, c, ab, sb, fb, f, g, s, h⟩ := h
 exact h.old
theorem MeshAt.below {w w' : World} {mb : Nat} {l : List S} {O F : List Tr} {M : Nat → Prop} (h : MeshAt w mb l O F M) (hb : Below w.heap.size w w') : MeshAt w' mb l O F M :=
 h.move hb.size (fun k hk => hb.block k (h.old k hk))
theorem MeshAt.fr {w w' : World} {mb : Nat} {l : List S} {O F : List Tr} {M M' : Nat → Prop} (h : MeshAt w mb l O F M) (hb : Fr M' w w') (hd : ∀ k, M k → ¬ M' k) : MeshAt w' mb l O F M :=
 h.move hb.size (fun k hk => hb.block k (h.old k hk) (hd k hk))
abbrev ptr (b : Nat) : Value := .pointer (some ⟨b, 0, none⟩)
theorem i64_min : IntKind.i64.min = -9223372036854775808 := by decide
theorem i64_max : IntKind.i64.max = 9223372036854775807 := by decide
theorem w64_iff {x : Int} : W64 x ↔ -9223372036854775808 ≤ x ∧ x ≤ 9223372036854775807 := by
 unfold W64
 simp [Lit.wf, i64_min, i64_max]
theorem w64 {x : Int} (h0 : -9223372036854775808 ≤ x) (h1 : x ≤ 9223372036854775807) : W64 x := w64_iff.mpr ⟨h0, h1⟩
section
variable {w : World} {mb : Nat} {l : List S} {O F : List Tr} {M : Nat → Prop}
theorem MeshAt.cell0 (h : MeshAt w mb l O F M) : ∃ A c, w.cell? ⟨mb, 0, none⟩ = some (.slice A l.length c) ∧ l.length ≤ c ∧ Kd.C k71 w A l.length l := by
 obtain ⟨A, c, ab, sb, fb, f, g, s, h⟩ := h
 have h1 := Kd.R_reads' h.pts
 exact ⟨A, c, by rw [blk_cell h.blk]; rfl, h1.2.1, h1.2.2⟩
theorem len_call (h : MeshAt w mb l O F M) : Calls Tryz.prog 93 #[ptr mb] w fun e w' => e = .returned (.int .i64 (l.length : Nat)) ∧ w = w' := by
 obtain ⟨A, c, h0, -, -⟩ := h.cell0
 go_enter Tryz.func93, Tryz.ntmps93
 go_wp2
 go_ret
 exact ⟨rfl, rfl⟩
theorem has_call (h : MeshAt w mb l O F M) (i : Int) : Calls Tryz.prog 66 #[ptr mb, .int .i64 i] w fun e w' => e = .returned (.bool (decide (0 ≤ i ∧ i < l.length))) ∧ w = w' := by
 have hl := len_call h
 by_cases h0 : 0 ≤ i
 ·have e0 : decide (0 ≤ i) = true := decide_eq_true h0
  have e1 : decide (0 ≤ i ∧ i < l.length) = decide (i < (l.length : Int)) := by simp [h0]
  rw [e1]
  go_enter Tryz.func66, Tryz.ntmps66
  go_wp2_with (go_at_call 93; (with_reducible refine hl.mono ?_); rintro e w' ⟨rfl, rfl⟩)
  go_ret
  exact ⟨rfl, rfl⟩
 ·have e0 : decide (0 ≤ i) = false := decide_eq_false h0
  have e1 : decide (0 ≤ i ∧ i < l.length) = false := by simp; omega
  rw [e1]
  go_enter Tryz.func66, Tryz.ntmps66
  go_wp2
  go_ret
  exact ⟨rfl, rfl⟩
theorem count_call (h : MeshAt w mb l O F M) : Calls Tryz.prog 25 #[ptr mb] w fun e w' => e = .returned (.int .i64 (O.length : Nat)) ∧ w = w' := by
 obtain ⟨A, c, ab, sb, fb, f, g, s, h⟩ := h
 have h0 : w.cell? ⟨mb, 3, none⟩ = some (.int .i64 (O.length : Nat)) := by rw [blk_cell h.blk]; rfl
 clear h
 go_enter Tryz.func25, Tryz.ntmps25
 go_wp2
 go_ret
 exact ⟨rfl, rfl⟩
theorem zeroI (W : World) : (zeroValue 3).run Tryz.prog W = .ok (.int .i64 0) W := Tryz.zeroValue3 W
theorem apex_call (h : MeshAt w mb l O F M) {a b : Int} (ha : W64 a) (hb : W64 b) : Calls Tryz.prog 22 #[ptr mb, .int .i64 a, .int .i64 b] w fun e w' => e = .returned (.tuple #[.int .i64 ((behind O a b).getD 0), .bool (behind O a b).isSome]) ∧ w = w' := by
 obtain ⟨A, c, ab, sb, fb, f, g, s, h⟩ := h
 have h0 : w.cell? ⟨mb, 1, none⟩ = some (.map (some ab)) := by rw [blk_cell h.blk]; rfl
 have hf := h.apx.ask h.mesh a b
 have hv : (f (a, b)).getD (.int .i64 0) = .int .i64 ((behind O a b).getD 0) := by rw [hf]; cases behind O a b <;> rfl
 have hq : (f (a, b)).isSome = (behind O a b).isSome := by rw [hf]; cases behind O a b <;> rfl
 have hm := h.apex
 clear h hf
 generalize (behind O a b).getD 0 = v at *
 generalize (behind O a b).isSome = q at *
 go_enter Tryz.func22, Tryz.ntmps22
 have HV := Aside0.mk (And.intro hv hq)
 clear hv hq
 go_wp2_with (refine wp_lookup2 (y := (a, b)) kE Tryz.underlying87 zeroI rfl (.tmp 16) (.tmp 19) rfl rfl rfl hm ⟨ha, hb⟩ HV.out.1 HV.out.2 ?_)
 go_ret2
 exact ⟨rfl, rfl⟩
end
end Go.Proofs.YtaoichlepfiliaaGreatDoor.Msh
end
section
namespace Go.Proofs.YtaoichlepfiliaaGreatDoor.Msh
open Go.RowKit Go.Sort Go.Proofs.YtaoichlepfiliaaGreatDoor.Mp Go.Proofs.YtaoichlepfiliaaGreatDoor.Adm Go.Proofs.YtaoichlepfiliaaGreatDoor.R Go.Proofs.YtaoichlepfiliaaGreatDoor.E Go.Proofs.YtaoichlepfiliaaGreatDoorW.PrintWords Go.Proofs.YtaoichlepfiliaaGreatDoorW.PrintLast
theorem own_call (a b : Int) (w : World) : Calls Tryz.prog 53 #[.int .i64 a, .int .i64 b] w fun e w' => e = .returned (encE (min a b, max a b)) ∧ Gr w w' := by
 unfold encE
 have hG := Gr.refl w
 simp only
 go_enter Tryz.func53, Tryz.ntmps53
 go_wp2
 refine bodyPost_ret (v := .agg #[.int .i64 (min a b), .int .i64 (max a b)]) ?_ rfl ⟨rfl, hG.alloc _⟩
 simp [results, Tryz.results53, go_sem]
theorem heldP {w W : World} {L : World → Prop} {p : Addr} {v : Value} (h0 : w.cell? p = some v) (hL : ∀ W, Gr w W → L W) (h : Gr w W) : W.cell? p = some v ∧ L W := ⟨h.cell h0, hL W h⟩
theorem around_call (a b c : Int) (w : World) : Calls Tryz.prog 68 #[.int .i64 a, .int .i64 b, .int .i64 c] w fun e w' => e = .returned (.agg #[.int .i64 a, .int .i64 b, .int .i64 b, .int .i64 c, .int .i64 c, .int .i64 a]) ∧ Gr w w' := by
 have hG := Gr.refl w
 go_enter Tryz.func68, Tryz.ntmps68
 go_wp2
 refine bodyPost_ret (v := .agg #[.int .i64 a, .int .i64 b, .int .i64 b, .int .i64 c, .int .i64 c, .int .i64 a]) ?_ rfl ⟨rfl, ?_⟩
 ·simp [results, Tryz.results68, go_sem]
 ·exact hG.alloc _
abbrev ptV (x : S) : Value := .agg #[.float .f64 x.f0, .float .f64 x.f1]
def ptO (l : List S) (i : Int) : S := if 0 ≤ i ∧ i < l.length then rd_T71 l i else ⟨0, 0⟩
section
variable {w : World} {mb : Nat} {l : List S} {O F : List Tr} {M : Nat → Prop}
set_option maxRecDepth 100000 in
set_option maxHeartbeats 4000000 in
theorem fixed_call (h : MeshAt w mb l O F M) {a b : Int} (ha : W64 a) (hb : W64 b) : Calls Tryz.prog 23 #[ptr mb, .int .i64 a, .int .i64 b] w fun e w' => e = .returned (.tuple #[.int .i64 ((fixO F a b).getD 0), .bool (fixO F a b).isSome]) ∧ Gr w w' := by
 obtain ⟨A, c, ab, sb, fb, f, g, s, h⟩ := h
 have h0 : w.cell? ⟨mb, 4, none⟩ = some (.map (some fb)) := by rw [blk_cell h.blk]; rfl
 have hg := h.fxs.ask h.up2 a b
 have hv : (g (min a b, max a b)).getD (.int .i64 0) = .int .i64 ((fixO F a b).getD 0) := by rw [hg]; cases fixO F a b <;> rfl
 have hq : (g (min a b, max a b)).isSome = (fixO F a b).isSome := by rw [hg]; cases fixO F a b <;> rfl
 have hk : okE (min a b, max a b) := ⟨by have := w64_iff.mp ha; have := w64_iff.mp hb; exact w64 (by omega) (by omega), by have := w64_iff.mp ha; have := w64_iff.mp hb; exact w64 (by omega) (by omega)⟩
 have hl : ∀ W, Gr w W → (Instr.lookup 87 (.map (some fb)) (encE (min a b, max a b)) true).run Tryz.prog W = .ok (.tuple #[.int .i64 ((fixO F a b).getD 0), .bool (fixO F a b).isSome]) W := fun W hG => by
  have := (h.fixed.below hG.below).lookup (w := W) kE Tryz.underlying87 (zeroI W) hk true
  rw [hv, hq] at this
  exact this
 have hown := fun W => own_call a b W
 clear h hg hv hq hk
 generalize (fixO F a b).getD 0 = v at *
 generalize (fixO F a b).isSome = q at *
 generalize encE (min a b, max a b) = ek at *
 have HL := Aside0.mk hl
 clear hl
 go_enter Tryz.func23, Tryz.ntmps23
 go_upto_region 3 with (fail)
 go_region_held3 (fun W' => W'.cell? ⟨mb, 4, none⟩ = some (.map (some fb)) ∧ (Instr.lookup 87 (.map (some fb)) ek true).run Tryz.prog W' = .ok (.tuple #[.int .i64 v, .bool q]) W')
  ((with_reducible refine heldP (w := w) h0 HL.out ?_; (repeat (first | assumption | exact Gr.refl _ | apply Gr.drew | apply Gr.alloc | apply Gr.drewN))))
  ((go_at_call 53; (with_reducible refine (hown _).mono ?_); rintro u_ w5 ⟨rfl, hg5⟩; have hG5 := Gr.trans (a := w) (by (with_reducible (repeat (first | assumption | exact Gr.refl _ | apply Gr.drew | apply Gr.alloc | apply Gr.drewN)))) hg5; clear hg5))
 all_goals
  go_wp2
  go_ret2
  exact ⟨rfl, hG5⟩
theorem point_call (h : MeshAt w mb l O F M) (i : Int) : Calls Tryz.prog 79 #[ptr mb, .int .i64 i] w fun e w' => e = .returned (.tuple #[ptV (ptO l i), .bool (decide (0 ≤ i ∧ i < l.length))]) ∧ Gr w w' := by
 have hh := fun W (hG : Gr w W) => has_call (h.below hG.below) i
 obtain ⟨A, c, h0, hc, hC⟩ := h.cell0
 by_cases hi : 0 ≤ i ∧ i < l.length
 ·have e1 : decide (0 ≤ i ∧ i < (l.length : Int)) = true := decide_eq_true hi
  rw [e1] at hh ⊢
  unfold ptO
  rw [if_pos hi]
  have hbx : (w.alloc (.cells #[.float .f64 0, .float .f64 0] 71)).cell? ⟨mb, 0, none⟩ = some (.slice A l.length c) := ((Gr.refl w).alloc _).cell h0
  obtain ⟨ad, rfl, hx0, hx1⟩ := at_T71 (Kd.C_alloc hC (.cells #[.float .f64 0, .float .f64 0] 71)) i hi.1 hi.2
  obtain ⟨hi0, hi1⟩ := hi
  have d0 : decide (i < (l.length : Int)) = true := decide_eq_true hi1
  go_enter Tryz.func79, Tryz.ntmps79
  go_wp2_with (go_at_call 66; (with_reducible refine (hh _ ((Gr.refl w).alloc _)).mono ?_); rintro u_ w5 ⟨rfl, rfl⟩)
  refine bodyPost_ret (v := .tuple #[ptV (rd_T71 l i), .bool true]) ?_ rfl ⟨rfl, (Gr.refl w).alloc _⟩
  simp [results, Tryz.results79, go_sem]
 ·have e1 : decide (0 ≤ i ∧ i < (l.length : Int)) = false := decide_eq_false hi
  rw [e1] at hh ⊢
  unfold ptO
  rw [if_neg hi]
  go_enter Tryz.func79, Tryz.ntmps79
  go_wp2_with (go_at_call 66; (with_reducible refine (hh _ ((Gr.refl w).alloc _)).mono ?_); rintro u_ w5 ⟨rfl, rfl⟩)
  refine bodyPost_ret (v := .tuple #[ptV ⟨0, 0⟩, .bool false]) ?_ rfl ⟨rfl, (Gr.refl w).alloc _⟩
  simp [results, Tryz.results79, go_sem]
end
end Go.Proofs.YtaoichlepfiliaaGreatDoor.Msh
end
section
namespace Go.Proofs.YtaoichlepfiliaaGreatDoor.Msh
open Go.RowKit Go.Proofs.YtaoichlepfiliaaGreatDoor.Mp Go.Proofs.YtaoichlepfiliaaGreatDoor.R Go.Proofs.YtaoichlepfiliaaGreatDoor.E Go.Proofs.YtaoichlepfiliaaGreatDoorW.PrintWords Go.Proofs.YtaoichlepfiliaaGreatDoorW.PrintLast
open Go.Proofs.YtaoichlepfiliaaGreatDoor.Adm
theorem own_not_map {w : World} {base : Nat} {e : TypeId} {size n b : Nat} {v : Value} {xs : List Value} (h : w.ownsRow base e size v n xs) {o : Obj} (hb : w.heap[b]? = some o) (ho : ∀ cs fr, o ≠ .cells cs e fr) : v.ownBlock ≠ some b := by
 intro q
 obtain ⟨cells, hc⟩ := own_typed h b q
 rw [hb] at hc
 injection hc with hc
 exact ho _ _ hc
theorem map_obj {α : Type} {enc : α → Value} {ok : α → Prop} {w : World} {b : Nat} {f : α → Option Value} (h : MapF enc ok w b f) : ∃ o, w.heap[b]? = some o ∧ ∀ cs e fr, o ≠ .cells cs e fr := by
 obtain ⟨es, clock, hb, -⟩ := h
 exact ⟨_, hb, by intros; simp⟩
section
variable {w w' : World} {mb : Nat} {A : Option Addr} {c ab sb fb : Nat} {l : List S} {cnt : Int} {f g f' g' : Int × Int → Option Value} {s s' : Int → Option Value} {E E' : Int → Int → Prop} {M : Nat → Prop}
theorem Raw.row_ne (h : Raw w mb A c ab sb fb l cnt f g s E M) {b : Nat} {o : Obj} (hb : w.heap[b]? = some o) (ho : ∀ cs e fr, o ≠ .cells cs e fr) : (∀ x v, s x = some v → v.ownBlock ≠ some b) ∧ (Value.slice A l.length c).ownBlock ≠ some b := by
 refine ⟨fun x v hx => ?_, ?_⟩
 ·obtain ⟨xs, h1, -⟩ := h.rows x v hx
  exact own_not_map h1 hb (fun cs fr => ho cs _ fr)
 ·obtain ⟨inner, h1⟩ := Kd.R_own h.pts
  exact own_not_map h1 hb (fun cs fr => ho cs _ fr)
theorem pts_move {d : Kd S} {e base : Nat} {v : Value} (h : d.R e w base M v l) (hd : ∀ w base ok ok' x cs, d.M w base ok x cs → d.M w' base ok' x cs) (hm : ∀ k, v.ownBlock = some k → w'.heap[k]? = w.heap[k]?) : d.R e w' base M v l := by
 obtain ⟨h0, inner, h1, h2⟩ := h
 exact ⟨h0, inner, own_move h1 hm, h2.imp_ (fun _ _ q => hd _ _ _ _ _ _ q)⟩
theorem Raw.apex_set (h : Raw w mb A c ab sb fb l cnt f g s E M) (hm : MapF encE okE w' ab f') (ho : ∀ k, k ≠ ab → w'.heap[k]? = w.heap[k]?) (hs : w.heap.size ≤ w'.heap.size) : Raw w' mb A c ab sb fb l cnt f' g s E M := by
 obtain ⟨o, hb, hn⟩ := map_obj h.apex
 obtain ⟨q1, q2⟩ := h.row_ne hb hn
 refine ⟨(ho mb (fun e => ?_)).trans h.blk, pts_move h.pts (fun _ _ _ _ _ _ q => q) (fun k hk => ho k (fun e => q2 (by rw [hk, e]))), hm, h.fixed.move (ho fb (fun e => h.ne.2.1 e.symm)), h.spokes.move (ho sb (fun e => h.ne.1 e.symm)), fun x v hx => ?_, h.ne, h.mine, fun k hk => Nat.lt_of_lt_of_le (h.old k hk) hs⟩
 ·have := h.blk
  rw [e, hb] at this
  injection this with this
  exact hn _ _ _ this
 ·obtain ⟨xs, h1, h2, h3, h4, h5⟩ := h.rows x v hx
  exact ⟨xs, own_move h1 (fun k hk => ho k (fun e => q1 x v hx (by rw [hk, e]))), h2, h3, h4, h5⟩
theorem Raw.fixed_set (h : Raw w mb A c ab sb fb l cnt f g s E M) (hm : MapF encE okE w' fb g') (ho : ∀ k, k ≠ fb → w'.heap[k]? = w.heap[k]?) (hs : w.heap.size ≤ w'.heap.size) : Raw w' mb A c ab sb fb l cnt f g' s E M := by
 obtain ⟨o, hb, hn⟩ := map_obj h.fixed
 obtain ⟨q1, q2⟩ := h.row_ne hb hn
 refine ⟨(ho mb (fun e => ?_)).trans h.blk, pts_move h.pts (fun _ _ _ _ _ _ q => q) (fun k hk => ho k (fun e => q2 (by rw [hk, e]))), h.apex.move (ho ab h.ne.2.1), hm, h.spokes.move (ho sb h.ne.2.2), fun x v hx => ?_, h.ne, h.mine, fun k hk => Nat.lt_of_lt_of_le (h.old k hk) hs⟩
 ·have := h.blk
  rw [e, hb] at this
  injection this with this
  exact hn _ _ _ this
 ·obtain ⟨xs, h1, h2, h3, h4, h5⟩ := h.rows x v hx
  exact ⟨xs, own_move h1 (fun k hk => ho k (fun e => q1 x v hx (by rw [hk, e]))), h2, h3, h4, h5⟩
theorem Raw.count_set (h : Raw w mb A c ab sb fb l cnt f g s E M) (n : Int) : Raw (w.setCell ⟨mb, 3, none⟩ (.int .i64 n)) mb A c ab sb fb l n f g s E M := by
 have ho : ∀ k, k ≠ mb → (w.setCell ⟨mb, 3, none⟩ (.int .i64 n)).heap[k]? = w.heap[k]? := fun k hk => Below.heap_setCell _ _ _ _ hk
 have hne : ∀ {α : Type} {enc : α → Value} {ok : α → Prop} {b : Nat} {f : α → Option Value}, MapF enc ok w b f → b ≠ mb := fun q e => by
  obtain ⟨o, hb, hn⟩ := map_obj q
  rw [e, h.blk] at hb
  injection hb with hb
  exact hn _ _ _ hb.symm
 have hty : ∀ {e : TypeId} {size n : Nat} {v : Value} {xs : List Value}, e ≠ 90 → w.ownsRow 0 e size v n xs → ∀ k, v.ownBlock = some k → k ≠ mb := fun he hr k hk q => own_not_map hr h.blk (fun cs fr e => by injection e with _ e; exact he e.symm) (by rw [hk, q])
 refine ⟨?_, pts_move h.pts (fun _ _ _ _ _ _ q => q) (fun k hk => ?_), h.apex.move (ho _ (hne h.apex)), h.fixed.move (ho _ (hne h.fixed)), h.spokes.move (ho _ (hne h.spokes)), fun x v hx => ?_, h.ne, h.mine, fun k hk => by simpa using h.old k hk⟩
 ·rw [blk_set h.blk]; rfl
 ·obtain ⟨inner, h1⟩ := Kd.R_own h.pts
  exact ho k (hty (by decide) h1 k hk)
 ·obtain ⟨xs, h1, h2, h3, h4, h5⟩ := h.rows x v hx
  exact ⟨xs, own_move h1 (fun k hk => ho k (hty (by decide) h1 k hk)), h2, h3, h4, h5⟩
theorem Raw.spoke_set (h : Raw w mb A c ab sb fb l cnt f g s E M) {x : Int} {v v1 : Value} {xs1 : List Int} (hm : MapF (fun x : Int => Value.int .i64 x) W64 w' sb (upd s x (some v1)))
 (ho : ∀ k, k < w.heap.size → k ≠ sb → some k ≠ v.ownBlock → w'.heap[k]? = w.heap[k]?) (hv : v = (s x).getD (.slice none 0 0)) (hs : w.heap.size ≤ w'.heap.size)
 (hr : w'.ownsRow 0 3 1 v1 xs1.length (encs (Value.int .i64) xs1)) (hn : xs1.Nodup) (hE : ∀ y ∈ xs1, E' x y) (hEE : ∀ z y, z ≠ x → E z y → E' z y) (h1 : v1.ownBlock = v.ownBlock ∨ ∀ k, v1.ownBlock = some k → w.heap.size ≤ k ∧ k < w'.heap.size) :
 Raw w' mb A c ab sb fb l cnt f g (upd s x (some v1)) E' (fun k => M k ∨ w.heap.size ≤ k ∧ k < w'.heap.size) := by
 obtain ⟨o, hb, hne⟩ := map_obj h.spokes
 obtain ⟨q1, q2⟩ := h.row_ne hb hne
 have hvb : ∀ k, v.ownBlock = some k → M k ∧ ∃ cells, w.heap[k]? = some (.cells cells 3 (0, 0)) := fun k hk => by
  cases e : s x with
  | none => rw [hv, e] at hk; simp [Value.ownBlock] at hk
  | some u =>
   rw [hv, e] at hk
   obtain ⟨xs, r1, -, -, r4, -⟩ := h.rows x u e
   exact ⟨r4 k hk, own_typed r1 k hk⟩
 have other : ∀ k, k < w.heap.size → k ≠ sb → (∀ cells, w.heap[k]? ≠ some (.cells cells 3 (0, 0))) → w'.heap[k]? = w.heap[k]? := fun k hk h0 hc => ho k hk h0 (fun q => by
  obtain ⟨-, cells, hcc⟩ := hvb k q.symm
  exact hc cells hcc)
 have hmap : ∀ {α : Type} {enc : α → Value} {ok : α → Prop} {b : Nat} {f : α → Option Value}, MapF enc ok w b f → b ≠ sb → w'.heap[b]? = w.heap[b]? := fun q e => by
  obtain ⟨o', hb', hn'⟩ := map_obj q
  exact other _ (blk_lt hb') e (fun cells hc => by rw [hb'] at hc; injection hc with hc; exact hn' _ _ _ hc)
 refine ⟨?_, pts_move h.pts (fun _ _ _ _ _ _ q => q) (fun k hk => ?_) |> fun q => Kd.R_mono q (fun k hk => .inl hk), h.apex.move (hmap h.apex h.ne.1), h.fixed.move (hmap h.fixed (fun e => h.ne.2.2 e.symm)), hm, fun z u hz => ?_, h.ne, ⟨.inl h.mine.1, .inl h.mine.2.1, .inl h.mine.2.2.1, .inl h.mine.2.2.2⟩, fun k hk => ?_⟩
 ·refine (other mb (blk_lt h.blk) (fun e => ?_) (fun cells hc => ?_)).trans h.blk
  ·have := h.blk
   rw [e, hb] at this
   injection this with this
   exact hne _ _ _ this
  ·rw [h.blk] at hc
   injection hc with hc
   injection hc with _ hc
   exact absurd hc (by decide)
 ·obtain ⟨inner, h1⟩ := Kd.R_own h.pts
  obtain ⟨cells, hc⟩ := own_typed h1 k hk
  exact other k (own_lt h1 k hk) (fun e => q2 (by rw [hk, e])) (fun cells' hc' => by rw [hc] at hc'; injection hc' with hc'; injection hc' with _ hc'; exact absurd hc' (by decide))
 ·unfold upd at hz
  split at hz
  ·rename_i e
   subst e
   injection hz with hz
   subst hz
   refine ⟨xs1, hr, hn, hE, fun k hk => ?_, fun y u hy hyx k hk hk' => ?_⟩
   ·rcases h1 with q | q
    ·rw [q] at hk
     exact .inl (hvb k hk).1
    ·exact .inr (q k hk)
   ·unfold upd at hy
    rw [if_neg hyx] at hy
    obtain ⟨ys, r1, -, -, r4, r5⟩ := h.rows y u hy
    rcases h1 with q | q
    ·rw [q] at hk
     cases e : s z with
     | none => rw [hv, e] at hk; simp [Value.ownBlock] at hk
     | some u' =>
      rw [hv, e] at hk
      exact r5 z u' e (fun q => hyx q.symm) k hk' hk
    ·have := own_lt r1 k hk'
     have := (q k hk).1
     omega
  ·rename_i e
   obtain ⟨ys, r1, r2, r3, r4, r5⟩ := h.rows z u hz
   refine ⟨ys, own_move r1 (fun k hk => ho k (own_lt r1 k hk) (fun q => q1 z u hz (by rw [hk, q])) (fun q => ?_)), r2, fun y hy => hEE z y e (r3 y hy), fun k hk => .inl (r4 k hk), fun y u' hy hyz k hk hk' => ?_⟩
   ·cases e' : s x with
    | none => rw [hv, e'] at q; simp [Value.ownBlock] at q
    | some u' =>
     rw [hv, e'] at q
     exact r5 x u' e' (fun q => e q.symm) k hk q.symm
   ·unfold upd at hy
    split at hy
    ·rename_i e2
     subst e2
     injection hy with hy
     subst hy
     rcases h1 with q | q
     ·rw [q] at hk'
      cases e' : s y with
      | none => rw [hv, e'] at hk'; simp [Value.ownBlock] at hk'
      | some u2 =>
       rw [hv, e'] at hk'
       exact r5 y u2 e' hyz k hk hk'
     ·have := own_lt r1 k hk
      have := (q k hk').1
      omega
    ·exact r5 y u' hy hyz k hk hk'
 ·rcases hk with hk | hk
  ·exact Nat.lt_of_lt_of_le (h.old k hk) hs
  ·exact hk.2
end
end Go.Proofs.YtaoichlepfiliaaGreatDoor.Msh
end
