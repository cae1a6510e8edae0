/- What the proof needs of Pts, Door: only what is used is left (wip/tools/prune.py). Conditions stand in each sentence. -/
import Derived.Test.YtioahkblhekgpaaGreatDoorRows
import Derived.ProofKit
import Derived.OpenShut
import Derived.LaidMore
import Derived.Deep.Slices
import Derived.Lib.SmallJoins
import Derived.Carry
import Derived.Stop.Joined
import Derived.Test.YtioahkblhekgpaaGreatDoorQKWrk
set_option linter.unusedVariables false
set_option linter.unusedSimpArgs false
namespace Go.Proofs.YtioahkblhekgpaaGreatDoor.E
end Go.Proofs.YtioahkblhekgpaaGreatDoor.E
namespace Go.Proofs.YtioahkblhekgpaaGreatDoorW.PrintWords
end Go.Proofs.YtioahkblhekgpaaGreatDoorW.PrintWords
namespace Go.Proofs.YtioahkblhekgpaaGreatDoor.Pts
open Go.Deep Go.ChangeShapes Go.WideShapes Go.ChangeAt Go.RowKit Go.Joins Go.Proofs.YtioahkblhekgpaaGreatDoor.E Go.Proofs.YtioahkblhekgpaaGreatDoorW.PrintWords
theorem own : ownKnob Tryz.prog.godebug = none := by kernel_rfl
theorem laidOut : laidOutB Tryz.prog = true := by kernel_rfl
theorem cellsPt : Tryz.prog.cellsOf 32 = 2 := by kernel_rfl
theorem cellsF : Tryz.prog.cellsOf 30 = 1 := by kernel_rfl
theorem trod_f64 {H : Type} {enc : TypeId × Value → H} {P : Program} {w : World} {base : Nat} {spare : Nat → Bool} {held : Bool} {fuel : Nat} {t : TypeId} {cs : List Value} {x : DataW H × List MemPlace} (ht : P.underlying t = some (.float .f64)) (h : DataW.trod enc P w base spare held fuel t cs = some x) : ∃ b, cs = [.float .f64 b] ∧ x = (.lit (.float .f64 b), []) ∧ b < 2 ^ 64 := by
 cases fuel with
 | zero => simp [DataW.trod] at h
 | succ n =>
  unfold DataW.trod at h
  rw [ht] at h
  split at h <;> first | (simp_all; done) | skip
  rename_i k k' b hk
  cases hk
  split at h
  ·rename_i hw
   obtain ⟨rfl, hw⟩ := hw
   injection h with h
   exact ⟨b, rfl, h.symm, by simpa [Lit.wf] using hw⟩
  ·cases h
theorem two_of {cs : List Value} (h : cs.length = 2) : ∃ a b, cs = [a, b] := by
 match cs, h with
 | [a, b], _ => exact ⟨a, b, rfl⟩
set_option maxRecDepth 100000 in
theorem pt_cells {H : Type} {enc : TypeId × Value → H} {W : World} {base : Nat} {spare : Nat → Bool} {held : Bool} {n : Nat} {cs : List Value} {y : DataW H × List MemPlace} (hl : cs.length = 2) (h : DataW.trod enc Tryz.prog W base spare held n 32 cs = some y) :
 ∃ x : S32, cs = [.float .f64 x.f0, .float .f64 x.f1] ∧ x.f0 < 2 ^ 64 ∧ x.f1 < 2 ^ 64 := by
 obtain ⟨y0, y1, m, hx, _, h0, h1⟩ := trod_struct2 Tryz.underlying32 h
 obtain ⟨c0, c1, rfl⟩ := two_of hl
 ·have h0' : DataW.trod enc Tryz.prog W base spare held m 30 [c0] = some y0 := by simpa [cellsF] using h0
  have h1' : DataW.trod enc Tryz.prog W base spare held m 30 [c1] = some y1 := by simpa [cellsF] using h1
  obtain ⟨b0, e0, -, w0⟩ := trod_f64 Tryz.underlying30 h0'
  obtain ⟨b1, e1, -, w1⟩ := trod_f64 Tryz.underlying30 h1'
  injection e0 with e0 _
  injection e1 with e1 _
  subst e0 e1
  exact ⟨⟨b0, b1⟩, rfl, w0, w1⟩
instance : Inhabited S32 := ⟨⟨0, 0⟩⟩
set_option maxRecDepth 100000 in
theorem open_pts {H : Type} {enc : TypeId × Value → H} {W : World} {base : Nat} {spare : Nat → Bool} {held : Bool} {v : Value} {d : DataW H} {p : List MemPlace} {r : Reach} {b0 : Nat}
 (hv : Value.okWide Tryz.prog W r b0 22 v) (h : DataW.Trod enc Tryz.prog W base spare held 22 v d p) :
 ∃ (A : Option Addr) (l : List S32) (c : Nat), v = .slice A l.length c ∧ Kd.C k32 W A l.length l ∧ l.length ≤ c ∧ Adm.Wd l := by
 obtain ⟨A, n, c, rfl⟩ := okWide_slice Tryz.underlying22 hv
 obtain ⟨fuel, hf⟩ := h
 rcases open_slice Tryz.underlying22 hf with ⟨hcs, _⟩ | ⟨a, len, cap, m, n', D, Pl, hcs, _, hl, hm, hmm, _, hx⟩
 ·have e : Value.slice A n c = .slice none 0 0 := by simpa [Value.cells] using hcs
  injection e with e1 e2 e3
  subst e1 e2 e3
  exact ⟨none, [], 0, rfl, ⟨rfl, Nat.zero_le _, fun h => absurd h (Nat.lt_irrefl 0)⟩, Nat.le_refl _, fun x hx => by simp at hx⟩
 ·have e : Value.slice A n c = .slice (some a) len cap := by simpa [Value.cells] using hcs
  injection e with e1 e2 e3
  subst e1 e2 e3
  have hml : n ≤ m := by rw [hmm]; split <;> omega
  obtain ⟨F, hF⟩ := choose_lt (α := S32) (n := n) (p := fun i x => W.cell? (a.add (i * 2)) = some (.float .f64 x.f0) ∧ W.cell? (a.add (i * 2 + 1)) = some (.float .f64 x.f1) ∧ x.f0 < 2 ^ 64 ∧ x.f1 < 2 ^ 64) (fun i hi => by
   obtain ⟨cs', h1, h2⟩ := hx i (by omega)
   rw [cellsPt] at h1
   obtain ⟨_, hlen, hc⟩ := World.cells?_some h1
   obtain ⟨x, rfl, w0, w1⟩ := pt_cells hlen h2
   exact ⟨x, by have := hc 0 (by decide); rw [Deep.add_add] at this; exact this, by have := hc 1 (by decide); rw [Deep.add_add] at this; exact this, w0, w1⟩)
  refine ⟨some a, (List.range n).map F, c, by simp, ⟨by simp, ?_, fun _ => ⟨a, rfl, fun j x hj => ?_⟩⟩, by simpa using hl, fun x hx => ?_⟩
  ·have : maxLen = 9223372036854775807 := rfl
   simp; omega
  ·have hj' : j < n := by
    have := (List.getElem?_eq_some_iff.mp hj).1
    simpa using this
   obtain rfl : F j = x := by simpa [hj'] using hj
   obtain ⟨c0, c1, -, -⟩ := hF j hj'
   refine ⟨_, rfl, k32_mk W (F j), fun i u hi => ?_⟩
   match i, hi with
   | 0, hi => simp at hi; subst hi; exact c0
   | 1, hi => simp at hi; subst hi; exact c1
   | i + 2, hi => simp at hi
  ·obtain ⟨j, hj, rfl⟩ := List.mem_map.mp hx
   exact (hF j (List.mem_range.mp hj)).2.2
end Go.Proofs.YtioahkblhekgpaaGreatDoor.Pts
namespace Go.Proofs.YtioahkblhekgpaaGreatDoor.Pts
open Go.ChangeShapes Go.WideShapes Go.ChangeAt Go.RowKit
set_option maxRecDepth 100000 in
theorem door_met (os : Os) (args : Array Value) : laidMetH Tryz.prog [("math/bits.deBruijn32tab", Rows.laid_math_bits_deBruijn32tab)] ((World.doorLaid Tryz.prog 3000 os).forCall (fun _ _ => 0) ⟨#[], args, []⟩).memory :=
 laidMetH_of_parts3 (fuel := 8) (laidMet_of_run' 8 (by kernel_rfl) (by kernel_rfl)) (by kernel_rfl) (by kernel_rfl)
end Go.Proofs.YtioahkblhekgpaaGreatDoor.Pts
