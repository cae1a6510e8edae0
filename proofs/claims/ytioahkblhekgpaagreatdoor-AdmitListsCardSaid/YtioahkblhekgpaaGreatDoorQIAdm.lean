/- What the proof needs of Adm: only what is used is left (wip/tools/prune.py). Conditions stand in each sentence. -/
import Derived.Test.YtioahkblhekgpaaGreatDoorQIFst
set_option linter.unusedVariables false
set_option linter.unusedSimpArgs false
namespace Go.Proofs.YtioahkblhekgpaaGreatDoor.E
end Go.Proofs.YtioahkblhekgpaaGreatDoor.E
namespace Go.Proofs.YtioahkblhekgpaaGreatDoor.FltP
end Go.Proofs.YtioahkblhekgpaaGreatDoor.FltP
namespace Go.Proofs.YtioahkblhekgpaaGreatDoor.O
end Go.Proofs.YtioahkblhekgpaaGreatDoor.O
namespace Go.Proofs.YtioahkblhekgpaaGreatDoor.R
end Go.Proofs.YtioahkblhekgpaaGreatDoor.R
namespace Go.Proofs.YtioahkblhekgpaaGreatDoorW.PrintLast
end Go.Proofs.YtioahkblhekgpaaGreatDoorW.PrintLast
namespace Go.Proofs.YtioahkblhekgpaaGreatDoorW.PrintMore
end Go.Proofs.YtioahkblhekgpaaGreatDoorW.PrintMore
namespace Go.Proofs.YtioahkblhekgpaaGreatDoorW.PrintWords
end Go.Proofs.YtioahkblhekgpaaGreatDoorW.PrintWords
namespace Go.Proofs.YtioahkblhekgpaaGreatDoor.Adm
open Go.RowKit Go.Proofs.YtioahkblhekgpaaGreatDoor.FltP Go.Proofs.YtioahkblhekgpaaGreatDoor.R Go.Proofs.YtioahkblhekgpaaGreatDoor.E Go.Proofs.YtioahkblhekgpaaGreatDoor.O Go.Proofs.YtioahkblhekgpaaGreatDoorW.PrintWords Go.Proofs.YtioahkblhekgpaaGreatDoorW.PrintLast Go.Proofs.YtioahkblhekgpaaGreatDoorW.PrintMore
abbrev S := S32
def gp (x : S) : Bool := goodB x.f0 && goodB x.f1
def Wd (l : List S) : Prop := ∀ x ∈ l, x.f0 < 2 ^ 64 ∧ x.f1 < 2 ^ 64
theorem rd_at {l : List S} {n : Nat} (h : n < l.length) : rd_T32 l (n : Int) ∈ l := by
  unfold rd_T32; rw [Int.toNat_natCast, List.getD_eq_getElem?_getD, List.getElem?_eq_getElem h]; exact List.getElem_mem h
theorem rd_get {l : List S} {n : Nat} (h : n < l.length) : rd_T32 l (n : Int) = l[n] := by
  unfold rd_T32; rw [Int.toNat_natCast, List.getD_eq_getElem?_getD, List.getElem?_eq_getElem h]; rfl
theorem drop_S {l : List S} {n : Nat} (h : n < l.length) : l.drop n = rd_T32 l (n : Int) :: l.drop (n + 1) := by
  rw [rd_get h]; exact List.drop_eq_getElem_cons h
def idxF {α : Type} (p : α → Bool) : Nat → List α → Int
  | _, [] => -1
  | n, x :: xs => if p x = true then n else idxF p (n + 1) xs
set_option maxHeartbeats 1000000 in
theorem bad_calls (x : S) (h0 : x.f0 < 2 ^ 64) (h1 : x.f1 < 2 ^ 64) (W : World) :
    Calls Tryz.prog 43 #[.agg #[.float .f64 x.f0, .float .f64 x.f1]] W fun e w' => e = .returned (.bool (!gp x)) ∧ Below W.heap.size W w' := by
  have hm := may_some h0 h1
  unfold gp
  generalize (goodB x.f0 && goodB x.f1) = g at hm ⊢
  have hu32 := Tryz.underlying32
  go_enter Tryz.func43, Tryz.ntmps43
  go_wp2_with (go_at_call 28; (with_reducible refine (admit_May.calls _ _ _ _ hm).mono ?_); rintro y w1 ⟨rfl, hd⟩)
  go_ret
  exact ⟨rfl, ((Below.refl _ _).alloc (Nat.le_refl _) _).trans (hd.mono (by simp))⟩
set_option maxRecDepth 100000 in
set_option maxHeartbeats 1000000 in
theorem index_calls (A : Option Addr) (c : Nat) (l : List S) (w : World) (hl : Kd.C k32 w A l.length l) (hc : l.length ≤ c) (hw : Wd l) :
    Calls Tryz.prog 42 #[.slice A l.length c, .func (.func 43) #[] #[]] w fun e w' => e = .returned (.int .i64 (idxF (fun x => !gp x) 0 l)) ∧ Below w.heap.size w w' := by
  have hu32 := Tryz.underlying32
  have hm := hl.2.1
  go_enter Tryz.func42, Tryz.ntmps42
  go_wp2
  go_loopw [8] (fun x wr => ∃ (n : Nat), x = .int .i64 n ∧ n ≤ l.length ∧ Below w.heap.size w wr ∧ Aside0 (idxF (fun x => !gp x) n (l.drop n) = idxF (fun x => !gp x) 0 l)) (fun x _ => l.length - (intOf x).toNat)
  case atStart => exact ⟨0, rfl, Nat.zero_le _, Below.refl _ _, ⟨rfl⟩⟩
  case round =>
    obtain ⟨n, rfl, hn, hB, hi⟩ := hrel
    by_cases hlt : n < l.length
    · have d1 : decide ((n : Int) < (l.length : Int)) = true := by simp; omega
      have d2 : decide (n < l.length) = true := by simp; omega
      have d3 : decide ((0 : Int) ≤ n) = true := by simp
      obtain ⟨ad, rfl, hx0, hx1⟩ := at_T32 (Kd.C_below hl hB) n (by omega) (by omega)
      rw [Int.toNat_natCast] at hx0 hx1
      replace hi := hi.out
      rw [drop_S hlt, idxF] at hi
      have hwd := hw _ (rd_at hlt)
      have hcl := fun W => bad_calls (rd_T32 l (n : Int)) hwd.1 hwd.2 W
      generalize rd_T32 l (n : Int) = x at *
      cases hg : gp x
      · rw [hg] at hi hcl
        rw [if_pos (by rfl)] at hi
        replace hi := Aside0.mk hi
        simp only [Bool.not_false] at hcl
        go_wp2_with (go_at_call 43; (with_reducible refine (hcl _).mono ?_); rintro y w1 ⟨rfl, hb1⟩)
        go_ret
        rw [← hi.out]
        exact ⟨rfl, hB.trans (hb1.mono hB.size)⟩
      · rw [hg] at hi hcl
        rw [if_neg (by decide)] at hi
        replace hi := Aside0.mk hi
        simp only [Bool.not_true] at hcl
        go_wp2_with (go_at_call 43; (with_reducible refine (hcl _).mono ?_); rintro y w1 ⟨rfl, hb1⟩)
        go_roundw
        case rel => exact ⟨n + 1, by go_num, by omega, hB.trans (hb1.mono hB.size), hi⟩
        case measure => simp [intOf]; omega
    · have d1 : decide ((n : Int) < (l.length : Int)) = false := by simp; omega
      have d2 : decide (n < l.length) = false := by simp; omega
      replace hi := hi.out
      rw [List.drop_eq_nil_of_le (by omega), idxF] at hi
      replace hi := Aside0.mk hi
      go_wp2
      go_ret
      rw [← hi.out]
      exact ⟨rfl, hB⟩
def allF (l : List S) : Int × Int := if l.length > 1048576 then (0, 3) else if idxF (fun x => !gp x) 0 l ≥ 0 then (idxF (fun x => !gp x) 0 l, 10) else (0, 0)
set_option maxRecDepth 100000 in
set_option maxHeartbeats 1000000 in
theorem all_calls (A : Option Addr) (c : Nat) (l : List S) (w : World) (hl : Kd.C k32 w A l.length l) (hc : l.length ≤ c) (hw : Wd l) :
    Calls Tryz.prog 12 #[.slice A l.length c] w fun e w' => e = .returned (.tuple #[.int .i64 (allF l).1, .int .i64 (allF l).2]) ∧ Below w.heap.size w w' := by
  have hi := index_calls A c l w hl hc hw
  unfold allF
  generalize idxF (fun x => !gp x) 0 l = r at hi ⊢
  by_cases h1 : l.length > 1048576
  · have d1 : decide ((1048576 : Int) < (l.length : Int)) = true := by simp; omega
    have d2 : decide (1048576 < l.length) = true := by simp; omega
    rw [if_pos h1]
    go_enter Tryz.func12, Tryz.ntmps12
    go_wp2
    go_ret2
    exact ⟨rfl, Below.refl _ _⟩
  · have d1 : decide ((1048576 : Int) < (l.length : Int)) = false := by simp; omega
    have d2 : decide (1048576 < l.length) = false := by simp; omega
    rw [if_neg h1]
    by_cases h2 : r ≥ 0
    · have d3 : decide ((0 : Int) ≤ r) = true := by simp; omega
      rw [if_pos h2]
      go_enter Tryz.func12, Tryz.ntmps12
      go_wp2_with (go_at_call 42; (with_reducible refine hi.mono ?_); rintro y w1 ⟨rfl, hb1⟩)
      go_ret2
      exact ⟨rfl, hb1⟩
    · have d3 : decide ((0 : Int) ≤ r) = false := by simp; omega
      rw [if_neg h2]
      go_enter Tryz.func12, Tryz.ntmps12
      go_wp2_with (go_at_call 42; (with_reducible refine hi.mono ?_); rintro y w1 ⟨rfl, hb1⟩)
      go_ret2
      exact ⟨rfl, hb1⟩
set_option maxRecDepth 100000 in
theorem good_calls (A : Option Addr) (c : Nat) (l : List S) (w : World) (hl : Kd.C k32 w A l.length l) (hc : l.length ≤ c) (hw : Wd l) :
    Calls Tryz.prog 45 #[.slice A l.length c] w fun e w' => e = .returned (.bool ((allF l).2 == 0)) ∧ Below w.heap.size w w' := by
  have hi := all_calls A c l w hl hc hw
  generalize allF l = r at hi ⊢
  go_enter Tryz.func45, Tryz.ntmps45
  go_wp2_with (go_at_call 12; (with_reducible refine hi.mono ?_); rintro y w1 ⟨rfl, hb1⟩)
  go_ret
  exact ⟨rfl, hb1⟩
end Go.Proofs.YtioahkblhekgpaaGreatDoor.Adm
