/- What the proof needs of Adm: only what is used is left (wip/tools/prune.py). Conditions stand in each sentence. -/
import Derived.Test.YtjiolfpahollkaaGreatDoorQNFst
import Derived.Deep.RegionHeld3
import Derived.Test.YtjiolfpahollkaaGreatDoorQNMpc
import Derived.Test.YtjiolfpahollkaaGreatDoorQNHld
import Derived.Test.YtjiolfpahollkaaGreatDoorQNMmr
section
set_option linter.unusedVariables false
set_option linter.unusedSimpArgs false
namespace Go.Proofs.YtjiolfpahollkaaGreatDoor.E
end Go.Proofs.YtjiolfpahollkaaGreatDoor.E
namespace Go.Proofs.YtjiolfpahollkaaGreatDoor.FltP
end Go.Proofs.YtjiolfpahollkaaGreatDoor.FltP
namespace Go.Proofs.YtjiolfpahollkaaGreatDoor.O
end Go.Proofs.YtjiolfpahollkaaGreatDoor.O
namespace Go.Proofs.YtjiolfpahollkaaGreatDoor.R
end Go.Proofs.YtjiolfpahollkaaGreatDoor.R
namespace Go.Proofs.YtjiolfpahollkaaGreatDoorW.PrintLast
end Go.Proofs.YtjiolfpahollkaaGreatDoorW.PrintLast
namespace Go.Proofs.YtjiolfpahollkaaGreatDoorW.PrintMore
end Go.Proofs.YtjiolfpahollkaaGreatDoorW.PrintMore
namespace Go.Proofs.YtjiolfpahollkaaGreatDoorW.PrintWords
end Go.Proofs.YtjiolfpahollkaaGreatDoorW.PrintWords
namespace Go.Proofs.YtjiolfpahollkaaGreatDoor.Adm
open Go.RowKit Go.Proofs.YtjiolfpahollkaaGreatDoor.FltP Go.Proofs.YtjiolfpahollkaaGreatDoor.R Go.Proofs.YtjiolfpahollkaaGreatDoor.E Go.Proofs.YtjiolfpahollkaaGreatDoor.O Go.Proofs.YtjiolfpahollkaaGreatDoorW.PrintWords Go.Proofs.YtjiolfpahollkaaGreatDoorW.PrintLast Go.Proofs.YtjiolfpahollkaaGreatDoorW.PrintMore
abbrev S := S68
def gp (x : S) : Bool := goodB x.f0 && goodB x.f1
def Wd (l : List S) : Prop := ∀ x ∈ l, x.f0 < 2 ^ 64 ∧ x.f1 < 2 ^ 64
theorem rd_at {l : List S} {n : Nat} (h : n < l.length) : rd_T68 l (n : Int) ∈ l := by
  unfold rd_T68; rw [Int.toNat_natCast, List.getD_eq_getElem?_getD, List.getElem?_eq_getElem h]; exact List.getElem_mem h
theorem rd_get {l : List S} {n : Nat} (h : n < l.length) : rd_T68 l (n : Int) = l[n] := by
  unfold rd_T68; rw [Int.toNat_natCast, List.getD_eq_getElem?_getD, List.getElem?_eq_getElem h]; rfl
theorem drop_S {l : List S} {n : Nat} (h : n < l.length) : l.drop n = rd_T68 l (n : Int) :: l.drop (n + 1) := by
  rw [rd_get h]; exact List.drop_eq_getElem_cons h
def idxF {α : Type} (p : α → Bool) : Nat → List α → Int
  | _, [] => -1
  | n, x :: xs => if p x = true then n else idxF p (n + 1) xs
set_option maxHeartbeats 1000000 in
theorem bad_calls (x : S) (h0 : x.f0 < 2 ^ 64) (h1 : x.f1 < 2 ^ 64) (W : World) :
    Calls Tryz.prog 163 #[.agg #[.float .f64 x.f0, .float .f64 x.f1]] W fun e w' => e = .returned (.bool (!gp x)) ∧ Below W.heap.size W w' := by
  have hm := may_some h0 h1
  unfold gp
  generalize (goodB x.f0 && goodB x.f1) = g at hm ⊢
  have hu32 := Tryz.underlying68
  go_enter Tryz.func163, Tryz.ntmps163
  go_wp2_with (go_at_call 124; (with_reducible refine (admit_May.calls _ _ _ _ hm).mono ?_); rintro y w1 ⟨rfl, hd⟩)
  go_ret
  exact ⟨rfl, ((Below.refl _ _).alloc (Nat.le_refl _) _).trans (hd.mono (by simp))⟩
set_option maxRecDepth 100000 in
set_option maxHeartbeats 1000000 in
theorem index_calls (A : Option Addr) (c : Nat) (l : List S) (w : World) (hl : Kd.C k68 w A l.length l) (hc : l.length ≤ c) (hw : Wd l) :
    Calls Tryz.prog 81 #[.slice A l.length c, .func (.func 163) #[] #[]] w fun e w' => e = .returned (.int .i64 (idxF (fun x => !gp x) 0 l)) ∧ Below w.heap.size w w' := by
  have hu32 := Tryz.underlying68
  have hm := hl.2.1
  go_enter Tryz.func81, Tryz.ntmps81
  go_wp2
  go_loopw [8] (fun x wr => ∃ (n : Nat), x = .int .i64 n ∧ n ≤ l.length ∧ Below w.heap.size w wr ∧ Aside0 (idxF (fun x => !gp x) n (l.drop n) = idxF (fun x => !gp x) 0 l)) (fun x _ => l.length - (intOf x).toNat)
  case atStart => exact ⟨0, rfl, Nat.zero_le _, Below.refl _ _, ⟨rfl⟩⟩
  case round =>
    obtain ⟨n, rfl, hn, hB, hi⟩ := hrel
    by_cases hlt : n < l.length
    · have d1 : decide ((n : Int) < (l.length : Int)) = true := by simp; omega
      have d2 : decide (n < l.length) = true := by simp; omega
      have d3 : decide ((0 : Int) ≤ n) = true := by simp
      obtain ⟨ad, rfl, hx0, hx1⟩ := at_T68 (Kd.C_below hl hB) n (by omega) (by omega)
      rw [Int.toNat_natCast] at hx0 hx1
      replace hi := hi.out
      rw [drop_S hlt, idxF] at hi
      have hwd := hw _ (rd_at hlt)
      have hcl := fun W => bad_calls (rd_T68 l (n : Int)) hwd.1 hwd.2 W
      generalize rd_T68 l (n : Int) = x at *
      cases hg : gp x
      · rw [hg] at hi hcl
        rw [if_pos (by rfl)] at hi
        replace hi := Aside0.mk hi
        simp only [Bool.not_false] at hcl
        go_wp2_with (go_at_call 163; (with_reducible refine (hcl _).mono ?_); rintro y w1 ⟨rfl, hb1⟩)
        go_ret
        rw [← hi.out]
        exact ⟨rfl, hB.trans (hb1.mono hB.size)⟩
      · rw [hg] at hi hcl
        rw [if_neg (by decide)] at hi
        replace hi := Aside0.mk hi
        simp only [Bool.not_true] at hcl
        go_wp2_with (go_at_call 163; (with_reducible refine (hcl _).mono ?_); rintro y w1 ⟨rfl, hb1⟩)
        go_roundw
        case rel => exact ⟨n + 1, by go_num, by omega, hB.trans (hb1.mono hB.size), hi⟩
        case measure => simp [intOf]; omega
    · have d1 : decide ((n : Int) < (l.length : Int)) = false := by simp; omega
      have d2 : decide (n < l.length) = false := by simp; omega
      replace hi := hi.out
      rw [List.drop_eq_nil_of_le (by omega), idxF] at hi
      replace hi := Aside0.mk hi
      go_wp2
      go_ret
      rw [← hi.out]
      exact ⟨rfl, hB⟩
def allF (l : List S) : Int × Int := if l.length > 1048576 then (0, 3) else if idxF (fun x => !gp x) 0 l ≥ 0 then (idxF (fun x => !gp x) 0 l, 10) else (0, 0)
set_option maxRecDepth 100000 in
set_option maxHeartbeats 1000000 in
theorem all_calls (A : Option Addr) (c : Nat) (l : List S) (w : World) (hl : Kd.C k68 w A l.length l) (hc : l.length ≤ c) (hw : Wd l) :
    Calls Tryz.prog 111 #[.slice A l.length c] w fun e w' => e = .returned (.tuple #[.int .i64 (allF l).1, .int .i64 (allF l).2]) ∧ Below w.heap.size w w' := by
  have hi := index_calls A c l w hl hc hw
  unfold allF
  generalize idxF (fun x => !gp x) 0 l = r at hi ⊢
  by_cases h1 : l.length > 1048576
  · have d1 : decide ((1048576 : Int) < (l.length : Int)) = true := by simp; omega
    have d2 : decide (1048576 < l.length) = true := by simp; omega
    rw [if_pos h1]
    go_enter Tryz.func111, Tryz.ntmps111
    go_wp2
    go_ret2
    exact ⟨rfl, Below.refl _ _⟩
  · have d1 : decide ((1048576 : Int) < (l.length : Int)) = false := by simp; omega
    have d2 : decide (1048576 < l.length) = false := by simp; omega
    rw [if_neg h1]
    by_cases h2 : r ≥ 0
    · have d3 : decide ((0 : Int) ≤ r) = true := by simp; omega
      rw [if_pos h2]
      go_enter Tryz.func111, Tryz.ntmps111
      go_wp2_with (go_at_call 81; (with_reducible refine hi.mono ?_); rintro y w1 ⟨rfl, hb1⟩)
      go_ret2
      exact ⟨rfl, hb1⟩
    · have d3 : decide ((0 : Int) ≤ r) = false := by simp; omega
      rw [if_neg h2]
      go_enter Tryz.func111, Tryz.ntmps111
      go_wp2_with (go_at_call 81; (with_reducible refine hi.mono ?_); rintro y w1 ⟨rfl, hb1⟩)
      go_ret2
      exact ⟨rfl, hb1⟩
end Go.Proofs.YtjiolfpahollkaaGreatDoor.Adm
end
section
set_option linter.unusedVariables false
set_option linter.unusedSimpArgs false
namespace Go.Proofs.YtjiolfpahollkaaGreatDoor.Adm
end Go.Proofs.YtjiolfpahollkaaGreatDoor.Adm
namespace Go.Proofs.YtjiolfpahollkaaGreatDoor.E
end Go.Proofs.YtjiolfpahollkaaGreatDoor.E
namespace Go.Proofs.YtjiolfpahollkaaGreatDoor.Mp
end Go.Proofs.YtjiolfpahollkaaGreatDoor.Mp
namespace Go.Proofs.YtjiolfpahollkaaGreatDoor.R
end Go.Proofs.YtjiolfpahollkaaGreatDoor.R
namespace Go.Proofs.YtjiolfpahollkaaGreatDoorW.PrintLast
end Go.Proofs.YtjiolfpahollkaaGreatDoorW.PrintLast
namespace Go.Proofs.YtjiolfpahollkaaGreatDoorW.PrintMore
end Go.Proofs.YtjiolfpahollkaaGreatDoorW.PrintMore
namespace Go.Proofs.YtjiolfpahollkaaGreatDoorW.PrintWords
end Go.Proofs.YtjiolfpahollkaaGreatDoorW.PrintWords
namespace Go.Proofs.YtjiolfpahollkaaGreatDoor.Msh
open Go.RowKit Go.Proofs.YtjiolfpahollkaaGreatDoor.Mp Go.Proofs.YtjiolfpahollkaaGreatDoor.R Go.Proofs.YtjiolfpahollkaaGreatDoor.E Go.Proofs.YtjiolfpahollkaaGreatDoorW.PrintWords Go.Proofs.YtjiolfpahollkaaGreatDoorW.PrintLast Go.Proofs.YtjiolfpahollkaaGreatDoorW.PrintMore
open Go.Proofs.YtjiolfpahollkaaGreatDoor.Adm
def Spk (w : World) (E : Int → Int → Prop) (s : Int → Option Value) (M : Nat → Prop) : Prop :=
  ∀ x v, s x = some v → ∃ xs : List Int, w.ownsRow 0 3 1 v xs.length (encs (Value.int .i64) xs) ∧ xs.Nodup ∧ (∀ y ∈ xs, E x y) ∧ (∀ k, v.ownBlock = some k → M k) ∧ ∀ y u, s y = some u → y ≠ x → ∀ k, v.ownBlock = some k → u.ownBlock ≠ some k
structure Raw (w : World) (mb : Nat) (A : Option Addr) (c ab sb fb : Nat) (l : List S) (cnt : Int) (f g : Int × Int → Option Value) (s : Int → Option Value) (E : Int → Int → Prop) (M : Nat → Prop) : Prop where
  blk : w.heap[mb]? = some (.cells #[.slice A l.length c, .map (some ab), .map (some sb), .int .i64 cnt, .map (some fb)] 119 (0, 0))
  pts : Kd.R k68 68 w 0 M (.slice A l.length c) l
  apex : MapF encE okE w ab f
  fixed : MapF encE okE w fb g
  spokes : MapF (fun x : Int => Value.int .i64 x) W64 w sb s
  rows : Spk w E s M
  ne : ab ≠ sb ∧ ab ≠ fb ∧ sb ≠ fb
  mine : M mb ∧ M ab ∧ M sb ∧ M fb
  old : ∀ k, M k → k < w.heap.size
theorem Raw.move {w w' : World} {mb : Nat} {A : Option Addr} {c ab sb fb : Nat} {l : List S} {cnt : Int} {f g : Int × Int → Option Value} {s : Int → Option Value} {E : Int → Int → Prop} {M : Nat → Prop} (h : Raw w mb A c ab sb fb l cnt f g s E M) (hs : w.heap.size ≤ w'.heap.size) (hm : ∀ k, M k → w'.heap[k]? = w.heap[k]?) : Raw w' mb A c ab sb fb l cnt f g s E M := by
  refine ⟨(hm mb h.mine.1).trans h.blk, Kd.R_move h.pts hm, h.apex.move (hm ab h.mine.2.1), h.fixed.move (hm fb h.mine.2.2.2), h.spokes.move (hm sb h.mine.2.2.1), fun x v hx => ?_, h.ne, h.mine, fun k hk => Nat.lt_of_lt_of_le (h.old k hk) hs⟩
  obtain ⟨xs, h1, h2, h3, h4, h5⟩ := h.rows x v hx
  exact ⟨xs, own_move h1 (fun k hk => hm k (h4 k hk)), h2, h3, h4, h5⟩
structure MeshIn (w : World) (mb : Nat) (A : Option Addr) (c ab sb fb : Nat) (l : List S) (O F : List Tr) (f g : Int × Int → Option Value) (s : Int → Option Value) (M : Nat → Prop) : Prop extends Raw w mb A c ab sb fb l (O.length : Nat) f g s (fun x y => (f (x, y)).isSome = true) M where
  apx : Apx f O
  fxs : Fxs g F
  mesh : Mesh O
  up2 : Up2 F
  good : (∀ x ∈ l, gp x = true) ∧ l.length ≤ 1048576
  rng : ∀ t ∈ O, (0 ≤ t.1 ∧ t.1 < l.length) ∧ (0 ≤ t.2.1 ∧ t.2.1 < l.length) ∧ (0 ≤ t.2.2 ∧ t.2.2 < l.length)
  frng : ∀ t ∈ F, (0 ≤ t.1 ∧ t.1 < l.length) ∧ (0 ≤ t.2.1 ∧ t.2.1 < l.length)
def MeshAt (w : World) (mb : Nat) (l : List S) (O F : List Tr) (M : Nat → Prop) : Prop := ∃ A c ab sb fb f g s, MeshIn w mb A c ab sb fb l O F f g s M
theorem MeshAt.move {w w' : World} {mb : Nat} {l : List S} {O F : List Tr} {M : Nat → Prop} (h : MeshAt w mb l O F M) (hs : w.heap.size ≤ w'.heap.size) (hm : ∀ k, M k → w'.heap[k]? = w.heap[k]?) : MeshAt w' mb l O F M := by
  obtain ⟨A, c, ab, sb, fb, f, g, s, h⟩ := h
  exact ⟨A, c, ab, sb, fb, f, g, s, { toRaw := h.toRaw.move hs hm, apx := h.apx, fxs := h.fxs, mesh := h.mesh, up2 := h.up2, good := h.good, rng := h.rng, frng := h.frng }⟩
theorem MeshAt.old {w : World} {mb : Nat} {l : List S} {O F : List Tr} {M : Nat → Prop} (h : MeshAt w mb l O F M) : ∀ k, M k → k < w.heap.size := by
  obtain ⟨A, c, ab, sb, fb, f, g, s, h⟩ := h
  exact h.old
theorem MeshAt.below {w w' : World} {mb : Nat} {l : List S} {O F : List Tr} {M : Nat → Prop} (h : MeshAt w mb l O F M) (hb : Below w.heap.size w w') : MeshAt w' mb l O F M :=
  h.move hb.size (fun k hk => hb.block k (h.old k hk))
theorem MeshAt.fr {w w' : World} {mb : Nat} {l : List S} {O F : List Tr} {M M' : Nat → Prop} (h : MeshAt w mb l O F M) (hb : Fr M' w w') (hd : ∀ k, M k → ¬ M' k) : MeshAt w' mb l O F M :=
  h.move hb.size (fun k hk => hb.block k (h.old k hk) (hd k hk))
abbrev ptr (b : Nat) : Value := .pointer (some ⟨b, 0, none⟩)
theorem i64_min : IntKind.i64.min = -9223372036854775808 := by decide
theorem i64_max : IntKind.i64.max = 9223372036854775807 := by decide
theorem w64_iff {x : Int} : W64 x ↔ -9223372036854775808 ≤ x ∧ x ≤ 9223372036854775807 := by
  unfold W64
  simp [Lit.wf, i64_min, i64_max]
theorem w64 {x : Int} (h0 : -9223372036854775808 ≤ x) (h1 : x ≤ 9223372036854775807) : W64 x := w64_iff.mpr ⟨h0, h1⟩
section
variable {w : World} {mb : Nat} {l : List S} {O F : List Tr} {M : Nat → Prop}
theorem MeshAt.cell0 (h : MeshAt w mb l O F M) : ∃ A c, w.cell? ⟨mb, 0, none⟩ = some (.slice A l.length c) ∧ l.length ≤ c ∧ Kd.C k68 w A l.length l := by
  obtain ⟨A, c, ab, sb, fb, f, g, s, h⟩ := h
  have h1 := Kd.R_reads' h.pts
  exact ⟨A, c, by rw [blk_cell h.blk]; rfl, h1.2.1, h1.2.2⟩
theorem len_call (h : MeshAt w mb l O F M) : Calls Tryz.prog 154 #[ptr mb] w fun e w' => e = .returned (.int .i64 (l.length : Nat)) ∧ w = w' := by
  obtain ⟨A, c, h0, -, -⟩ := h.cell0
  go_enter Tryz.func154, Tryz.ntmps154
  go_wp2
  go_ret
  exact ⟨rfl, rfl⟩
theorem has_call (h : MeshAt w mb l O F M) (i : Int) : Calls Tryz.prog 105 #[ptr mb, .int .i64 i] w fun e w' => e = .returned (.bool (decide (0 ≤ i ∧ i < l.length))) ∧ w = w' := by
  have hl := len_call h
  by_cases h0 : 0 ≤ i
  · have e0 : decide (0 ≤ i) = true := decide_eq_true h0
    have e1 : decide (0 ≤ i ∧ i < l.length) = decide (i < (l.length : Int)) := by simp [h0]
    rw [e1]
    go_enter Tryz.func105, Tryz.ntmps105
    go_wp2_with (go_at_call 154; (with_reducible refine hl.mono ?_); rintro e w' ⟨rfl, rfl⟩)
    go_ret
    exact ⟨rfl, rfl⟩
  · have e0 : decide (0 ≤ i) = false := decide_eq_false h0
    have e1 : decide (0 ≤ i ∧ i < l.length) = false := by simp; omega
    rw [e1]
    go_enter Tryz.func105, Tryz.ntmps105
    go_wp2
    go_ret
    exact ⟨rfl, rfl⟩
theorem zeroI (W : World) : (zeroValue 3).run Tryz.prog W = .ok (.int .i64 0) W := Tryz.zeroValue3 W
theorem apex_call (h : MeshAt w mb l O F M) {a b : Int} (ha : W64 a) (hb : W64 b) : Calls Tryz.prog 29 #[ptr mb, .int .i64 a, .int .i64 b] w fun e w' => e = .returned (.tuple #[.int .i64 ((behind O a b).getD 0), .bool (behind O a b).isSome]) ∧ w = w' := by
  obtain ⟨A, c, ab, sb, fb, f, g, s, h⟩ := h
  have h0 : w.cell? ⟨mb, 1, none⟩ = some (.map (some ab)) := by rw [blk_cell h.blk]; rfl
  have hf := h.apx.ask h.mesh a b
  have hv : (f (a, b)).getD (.int .i64 0) = .int .i64 ((behind O a b).getD 0) := by rw [hf]; cases behind O a b <;> rfl
  have hq : (f (a, b)).isSome = (behind O a b).isSome := by rw [hf]; cases behind O a b <;> rfl
  have hm := h.apex
  clear h hf
  generalize (behind O a b).getD 0 = v at *
  generalize (behind O a b).isSome = q at *
  go_enter Tryz.func29, Tryz.ntmps29
  have HV := Aside0.mk (And.intro hv hq)
  clear hv hq
  go_wp2_with (refine wp_lookup2 (y := (a, b)) kE Tryz.underlying116 zeroI rfl (.tmp 16) (.tmp 19) rfl rfl rfl hm ⟨ha, hb⟩ HV.out.1 HV.out.2 ?_)
  go_ret2
  exact ⟨rfl, rfl⟩
end
end Go.Proofs.YtjiolfpahollkaaGreatDoor.Msh
end
section
set_option linter.unusedVariables false
set_option linter.unusedSimpArgs false
namespace Go.Proofs.YtjiolfpahollkaaGreatDoor.Adm
end Go.Proofs.YtjiolfpahollkaaGreatDoor.Adm
namespace Go.Proofs.YtjiolfpahollkaaGreatDoor.E
end Go.Proofs.YtjiolfpahollkaaGreatDoor.E
namespace Go.Proofs.YtjiolfpahollkaaGreatDoor.Mp
end Go.Proofs.YtjiolfpahollkaaGreatDoor.Mp
namespace Go.Proofs.YtjiolfpahollkaaGreatDoor.R
end Go.Proofs.YtjiolfpahollkaaGreatDoor.R
namespace Go.Proofs.YtjiolfpahollkaaGreatDoorW.PrintLast
end Go.Proofs.YtjiolfpahollkaaGreatDoorW.PrintLast
namespace Go.Proofs.YtjiolfpahollkaaGreatDoorW.PrintMore
end Go.Proofs.YtjiolfpahollkaaGreatDoorW.PrintMore
namespace Go.Proofs.YtjiolfpahollkaaGreatDoorW.PrintWords
end Go.Proofs.YtjiolfpahollkaaGreatDoorW.PrintWords
namespace Go.Proofs.YtjiolfpahollkaaGreatDoor.Msh
open Go.RowKit Go.Sort Go.Proofs.YtjiolfpahollkaaGreatDoor.Mp Go.Proofs.YtjiolfpahollkaaGreatDoor.Adm Go.Proofs.YtjiolfpahollkaaGreatDoor.R Go.Proofs.YtjiolfpahollkaaGreatDoor.E Go.Proofs.YtjiolfpahollkaaGreatDoorW.PrintWords Go.Proofs.YtjiolfpahollkaaGreatDoorW.PrintLast Go.Proofs.YtjiolfpahollkaaGreatDoorW.PrintMore
theorem own_call (a b : Int) (w : World) : Calls Tryz.prog 79 #[.int .i64 a, .int .i64 b] w fun e w' => e = .returned (encE (min a b, max a b)) ∧ Gr w w' := by
  unfold encE
  have hG := Gr.refl w
  simp only
  go_enter Tryz.func79, Tryz.ntmps79
  go_wp2
  refine bodyPost_ret (v := .agg #[.int .i64 (min a b), .int .i64 (max a b)]) ?_ rfl ⟨rfl, hG.alloc _⟩
  simp [results, Tryz.results79, go_sem]
theorem heldP {w W : World} {L : World → Prop} {p : Addr} {v : Value} (h0 : w.cell? p = some v) (hL : ∀ W, Gr w W → L W) (h : Gr w W) : W.cell? p = some v ∧ L W := ⟨h.cell h0, hL W h⟩
theorem around_call (a b c : Int) (w : World) : Calls Tryz.prog 115 #[.int .i64 a, .int .i64 b, .int .i64 c] w fun e w' => e = .returned (.agg #[.int .i64 a, .int .i64 b, .int .i64 b, .int .i64 c, .int .i64 c, .int .i64 a]) ∧ Gr w w' := by
  have hG := Gr.refl w
  go_enter Tryz.func115, Tryz.ntmps115
  go_wp2
  refine bodyPost_ret (v := .agg #[.int .i64 a, .int .i64 b, .int .i64 b, .int .i64 c, .int .i64 c, .int .i64 a]) ?_ rfl ⟨rfl, ?_⟩
  · simp [results, Tryz.results115, go_sem]
  · exact hG.alloc _
abbrev ptV (x : S) : Value := .agg #[.float .f64 x.f0, .float .f64 x.f1]
def ptO (l : List S) (i : Int) : S := if 0 ≤ i ∧ i < l.length then rd_T68 l i else ⟨0, 0⟩
section
variable {w : World} {mb : Nat} {l : List S} {O F : List Tr} {M : Nat → Prop}
set_option maxRecDepth 100000 in
set_option maxHeartbeats 4000000 in
theorem fixed_call (h : MeshAt w mb l O F M) {a b : Int} (ha : W64 a) (hb : W64 b) : Calls Tryz.prog 30 #[ptr mb, .int .i64 a, .int .i64 b] w fun e w' => e = .returned (.tuple #[.int .i64 ((fixO F a b).getD 0), .bool (fixO F a b).isSome]) ∧ Gr w w' := by
  obtain ⟨A, c, ab, sb, fb, f, g, s, h⟩ := h
  have h0 : w.cell? ⟨mb, 4, none⟩ = some (.map (some fb)) := by rw [blk_cell h.blk]; rfl
  have hg := h.fxs.ask h.up2 a b
  have hv : (g (min a b, max a b)).getD (.int .i64 0) = .int .i64 ((fixO F a b).getD 0) := by rw [hg]; cases fixO F a b <;> rfl
  have hq : (g (min a b, max a b)).isSome = (fixO F a b).isSome := by rw [hg]; cases fixO F a b <;> rfl
  have hk : okE (min a b, max a b) := ⟨by have := w64_iff.mp ha; have := w64_iff.mp hb; exact w64 (by omega) (by omega), by have := w64_iff.mp ha; have := w64_iff.mp hb; exact w64 (by omega) (by omega)⟩
  have hl : ∀ W, Gr w W → (Instr.lookup 116 (.map (some fb)) (encE (min a b, max a b)) true).run Tryz.prog W = .ok (.tuple #[.int .i64 ((fixO F a b).getD 0), .bool (fixO F a b).isSome]) W := fun W hG => by
    have := (h.fixed.below hG.below).lookup (w := W) kE Tryz.underlying116 (zeroI W) hk true
    rw [hv, hq] at this
    exact this
  have hown := fun W => own_call a b W
  clear h hg hv hq hk
  generalize (fixO F a b).getD 0 = v at *
  generalize (fixO F a b).isSome = q at *
  generalize encE (min a b, max a b) = ek at *
  have HL := Aside0.mk hl
  clear hl
  go_enter Tryz.func30, Tryz.ntmps30
  go_upto_region 3 with (fail)
  go_region_held3 (fun W' => W'.cell? ⟨mb, 4, none⟩ = some (.map (some fb)) ∧ (Instr.lookup 116 (.map (some fb)) ek true).run Tryz.prog W' = .ok (.tuple #[.int .i64 v, .bool q]) W')
    ((with_reducible refine heldP (w := w) h0 HL.out ?_; (repeat (first | assumption | exact Gr.refl _ | apply Gr.drew | apply Gr.alloc | apply Gr.drewN))))
    ((go_at_call 79; (with_reducible refine (hown _).mono ?_); rintro u_ w5 ⟨rfl, hg5⟩; have hG5 := Gr.trans (a := w) (by (with_reducible (repeat (first | assumption | exact Gr.refl _ | apply Gr.drew | apply Gr.alloc | apply Gr.drewN)))) hg5; clear hg5))
  all_goals
    go_wp2
    go_ret2
    exact ⟨rfl, hG5⟩
theorem point_call (h : MeshAt w mb l O F M) (i : Int) : Calls Tryz.prog 58 #[ptr mb, .int .i64 i] w fun e w' => e = .returned (.tuple #[ptV (ptO l i), .bool (decide (0 ≤ i ∧ i < l.length))]) ∧ Gr w w' := by
  have hh := fun W (hG : Gr w W) => has_call (h.below hG.below) i
  obtain ⟨A, c, h0, hc, hC⟩ := h.cell0
  by_cases hi : 0 ≤ i ∧ i < l.length
  · have e1 : decide (0 ≤ i ∧ i < (l.length : Int)) = true := decide_eq_true hi
    rw [e1] at hh ⊢
    unfold ptO
    rw [if_pos hi]
    have hbx : (w.alloc (.cells #[.float .f64 0, .float .f64 0] 68)).cell? ⟨mb, 0, none⟩ = some (.slice A l.length c) := ((Gr.refl w).alloc _).cell h0
    obtain ⟨ad, rfl, hx0, hx1⟩ := at_T68 (Kd.C_alloc hC (.cells #[.float .f64 0, .float .f64 0] 68)) i hi.1 hi.2
    obtain ⟨hi0, hi1⟩ := hi
    have d0 : decide (i < (l.length : Int)) = true := decide_eq_true hi1
    go_enter Tryz.func58, Tryz.ntmps58
    go_wp2_with (go_at_call 105; (with_reducible refine (hh _ ((Gr.refl w).alloc _)).mono ?_); rintro u_ w5 ⟨rfl, rfl⟩)
    refine bodyPost_ret (v := .tuple #[ptV (rd_T68 l i), .bool true]) ?_ rfl ⟨rfl, (Gr.refl w).alloc _⟩
    simp [results, Tryz.results58, go_sem]
  · have e1 : decide (0 ≤ i ∧ i < (l.length : Int)) = false := decide_eq_false hi
    rw [e1] at hh ⊢
    unfold ptO
    rw [if_neg hi]
    go_enter Tryz.func58, Tryz.ntmps58
    go_wp2_with (go_at_call 105; (with_reducible refine (hh _ ((Gr.refl w).alloc _)).mono ?_); rintro u_ w5 ⟨rfl, rfl⟩)
    refine bodyPost_ret (v := .tuple #[ptV ⟨0, 0⟩, .bool false]) ?_ rfl ⟨rfl, (Gr.refl w).alloc _⟩
    simp [results, Tryz.results58, go_sem]
end
end Go.Proofs.YtjiolfpahollkaaGreatDoor.Msh
end
