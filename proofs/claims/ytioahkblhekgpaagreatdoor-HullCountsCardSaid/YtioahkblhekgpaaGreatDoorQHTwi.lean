/- What the proof needs of Twi: only what is used is left (wip/tools/prune.py). Conditions stand in each sentence. -/
import Derived.Maps.OwnOps
import Derived.Test.YtioahkblhekgpaaGreatDoorQHUnw
set_option linter.unusedVariables false
set_option linter.unusedSimpArgs false
namespace Go.Proofs.YtioahkblhekgpaaGreatDoor.E
end Go.Proofs.YtioahkblhekgpaaGreatDoor.E
namespace Go.Proofs.YtioahkblhekgpaaGreatDoor.FltP
end Go.Proofs.YtioahkblhekgpaaGreatDoor.FltP
namespace Go.Proofs.YtioahkblhekgpaaGreatDoor.O
end Go.Proofs.YtioahkblhekgpaaGreatDoor.O
namespace Go.Proofs.YtioahkblhekgpaaGreatDoor.R
end Go.Proofs.YtioahkblhekgpaaGreatDoor.R
namespace Go.Proofs.YtioahkblhekgpaaGreatDoorW.PrintLast
end Go.Proofs.YtioahkblhekgpaaGreatDoorW.PrintLast
namespace Go.Proofs.YtioahkblhekgpaaGreatDoorW.PrintMore
end Go.Proofs.YtioahkblhekgpaaGreatDoorW.PrintMore
namespace Go.Proofs.YtioahkblhekgpaaGreatDoorW.PrintWords
end Go.Proofs.YtioahkblhekgpaaGreatDoorW.PrintWords
namespace Go.Proofs.YtioahkblhekgpaaGreatDoor.Adm
open Go.RowKit Go.Proofs.YtioahkblhekgpaaGreatDoor.FltP Go.Proofs.YtioahkblhekgpaaGreatDoor.R Go.Proofs.YtioahkblhekgpaaGreatDoor.E Go.Proofs.YtioahkblhekgpaaGreatDoor.O Go.Proofs.YtioahkblhekgpaaGreatDoorW.PrintWords Go.Proofs.YtioahkblhekgpaaGreatDoorW.PrintLast Go.Proofs.YtioahkblhekgpaaGreatDoorW.PrintMore
def plus0 (x : Nat) : Nat := (floatBits .add .f64 x 0).getD 0
theorem plus0_ok {x : Nat} (h : Fini x) : floatBits .add .f64 x 0 = some (plus0 x) ∧ Fini (plus0 x) ∧ fval (plus0 x) = fval x := by
  have hR : Rnd.R (fval x + fval 0) = fval x := by rw [show fval 0 = 0 from by decide, Int.add_zero]; exact Rnd.R_rep (Rnd.fval_rep x)
  obtain ⟨r, h1, h2, h3⟩ := add_fin h (y := 0) ⟨by decide, by decide⟩ (by rw [hR, natAbs_fval]; exact h.lt)
  have : plus0 x = r := by unfold plus0; rw [h1]; rfl
  rw [this]
  exact ⟨h1, h2, by rw [h3, hR]⟩
def norm (x : S) : S := ⟨plus0 x.f0, plus0 x.f1⟩
def tw (P : Nat → Geo.Pt) (n : Nat) : Nat := ((List.range (n + 1)).find? fun k => decide (P k = P n)).getD 0
theorem tw_spec (P : Nat → Geo.Pt) (n : Nat) : tw P n ≤ n ∧ P (tw P n) = P n ∧ Geo.First P (tw P n) := by
  unfold tw
  cases h : (List.range (n + 1)).find? fun k => decide (P k = P n) with
  | none =>
    have := List.find?_eq_none.mp h n (by simp)
    simp at this
  | some k =>
    have h1 := List.find?_some h
    have h2 := List.mem_of_find?_eq_some h
    simp at h1 h2
    refine ⟨by show k ≤ n; omega, h1, fun j hj he => ?_⟩
    change j < k at hj
    have h3 : P j = P n := he.trans h1
    obtain ⟨_, us, vs, e, h4⟩ := List.find?_eq_some_iff_append.mp h
    have hlen : us.length = k := by
      have : (List.range (n + 1))[us.length]? = some k := by rw [e]; simp
      rw [List.getElem?_range (by
        have := congrArg List.length e; simp at this; omega)] at this
      exact Option.some.inj this
    have hj' : j ∈ us := by
      have : (List.range (n + 1))[j]? = us[j]? := by rw [e, List.getElem?_append_left (by omega)]
      rw [List.getElem?_range (by omega)] at this
      exact List.mem_of_getElem? this.symm
    have := h4 j hj'
    simp at this
    exact this h3
theorem tw_unique {P : Nat → Geo.Pt} {n k : Nat} (h2 : P k = P n) (h3 : Geo.First P k) : tw P n = k := by
  obtain ⟨_, t2, t3⟩ := tw_spec P n
  rcases Nat.lt_trichotomy (tw P n) k with h | h | h
  · exact absurd (t2.trans h2.symm) (h3 _ h)
  · exact h
  · exact absurd (h2.trans t2.symm) (t3 _ h)
theorem tw_first {P : Nat → Geo.Pt} {i : Nat} : tw P i = i ↔ Geo.First P i := ⟨fun h => h ▸ (tw_spec P i).2.2, fun h => tw_unique rfl h⟩
set_option maxRecDepth 100000 in
set_option maxHeartbeats 2000000 in
def WdB (l : List S) : Bool := l.all fun x => decide (x.f0 < 2 ^ 64) && decide (x.f1 < 2 ^ 64)
theorem wd_of {l : List S} (h : WdB l = true) : Wd l := fun x hx => by
  have := List.all_eq_true.mp h x hx
  rw [Bool.and_eq_true] at this
  exact ⟨of_decide_eq_true this.1, of_decide_eq_true this.2⟩
end Go.Proofs.YtioahkblhekgpaaGreatDoor.Adm
