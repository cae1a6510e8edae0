/- What the proof needs of Twi, Wrk: only what is used is left (wip/tools/prune.py). Conditions stand in each sentence. -/
import Derived.Maps.OwnOps
import Derived.Test.YtioahkblhekgpaaGreatDoorQKUnw
import Derived.Test.YtioahkblhekgpaaGreatDoorQKFla
set_option linter.unusedVariables false
set_option linter.unusedSimpArgs false
namespace Go.Proofs.YtioahkblhekgpaaGreatDoor.E
end Go.Proofs.YtioahkblhekgpaaGreatDoor.E
namespace Go.Proofs.YtioahkblhekgpaaGreatDoor.FltP
end Go.Proofs.YtioahkblhekgpaaGreatDoor.FltP
namespace Go.Proofs.YtioahkblhekgpaaGreatDoor.O
end Go.Proofs.YtioahkblhekgpaaGreatDoor.O
namespace Go.Proofs.YtioahkblhekgpaaGreatDoor.R
end Go.Proofs.YtioahkblhekgpaaGreatDoor.R
namespace Go.Proofs.YtioahkblhekgpaaGreatDoorW.PrintLast
end Go.Proofs.YtioahkblhekgpaaGreatDoorW.PrintLast
namespace Go.Proofs.YtioahkblhekgpaaGreatDoorW.PrintMore
end Go.Proofs.YtioahkblhekgpaaGreatDoorW.PrintMore
namespace Go.Proofs.YtioahkblhekgpaaGreatDoorW.PrintWords
end Go.Proofs.YtioahkblhekgpaaGreatDoorW.PrintWords
namespace Go.Proofs.YtioahkblhekgpaaGreatDoor.Adm
open Go.RowKit Go.Proofs.YtioahkblhekgpaaGreatDoor.FltP Go.Proofs.YtioahkblhekgpaaGreatDoor.R Go.Proofs.YtioahkblhekgpaaGreatDoor.E Go.Proofs.YtioahkblhekgpaaGreatDoor.O Go.Proofs.YtioahkblhekgpaaGreatDoorW.PrintWords Go.Proofs.YtioahkblhekgpaaGreatDoorW.PrintLast Go.Proofs.YtioahkblhekgpaaGreatDoorW.PrintMore
def tw (P : Nat → Geo.Pt) (n : Nat) : Nat := ((List.range (n + 1)).find? fun k => decide (P k = P n)).getD 0
theorem tw_spec (P : Nat → Geo.Pt) (n : Nat) : tw P n ≤ n ∧ P (tw P n) = P n ∧ Geo.First P (tw P n) := by
 unfold tw
 cases h : (List.range (n + 1)).find? fun k => decide (P k = P n) with
 | none =>
  have := List.find?_eq_none.mp h n (by simp)
  simp at this
 | some k =>
  have h1 := List.find?_some h
  have h2 := List.mem_of_find?_eq_some h
  simp at h1 h2
  refine ⟨by show k ≤ n; omega, h1, fun j hj he => ?_⟩
  change j < k at hj
  have h3 : P j = P n := he.trans h1
  obtain ⟨_, us, vs, e, h4⟩ := List.find?_eq_some_iff_append.mp h
  have hlen : us.length = k := by
   have : (List.range (n + 1))[us.length]? = some k := by rw [e]; simp
   rw [List.getElem?_range (by
    have := congrArg List.length e; simp at this; omega)] at this
   exact Option.some.inj this
  have hj' : j ∈ us := by
   have : (List.range (n + 1))[j]? = us[j]? := by rw [e, List.getElem?_append_left (by omega)]
   rw [List.getElem?_range (by omega)] at this
   exact List.mem_of_getElem? this.symm
  have := h4 j hj'
  simp at this
  exact this h3
theorem tw_unique {P : Nat → Geo.Pt} {n k : Nat} (h2 : P k = P n) (h3 : Geo.First P k) : tw P n = k := by
 obtain ⟨_, t2, t3⟩ := tw_spec P n
 rcases Nat.lt_trichotomy (tw P n) k with h | h | h
 ·exact absurd (t2.trans h2.symm) (h3 _ h)
 ·exact h
 ·exact absurd (h2.trans t2.symm) (t3 _ h)
theorem tw_first {P : Nat → Geo.Pt} {i : Nat} : tw P i = i ↔ Geo.First P i := ⟨fun h => h ▸ (tw_spec P i).2.2, fun h => tw_unique rfl h⟩
def twAll (l : List S) : List Nat := if (allF l).2 = 0 then (List.range l.length).map (tw (PT l)) else []
set_option maxRecDepth 100000 in
set_option maxHeartbeats 2000000 in
def WdB (l : List S) : Bool := l.all fun x => decide (x.f0 < 2 ^ 64) && decide (x.f1 < 2 ^ 64)
theorem wd_of {l : List S} (h : WdB l = true) : Wd l := fun x hx => by
 have := List.all_eq_true.mp h x hx
 rw [Bool.and_eq_true] at this
 exact ⟨of_decide_eq_true this.1, of_decide_eq_true this.2⟩
end Go.Proofs.YtioahkblhekgpaaGreatDoor.Adm
namespace Go.Proofs.YtioahkblhekgpaaGreatDoor.Adm
open Go.RowKit Go.Proofs.YtioahkblhekgpaaGreatDoor.FltP Go.Proofs.YtioahkblhekgpaaGreatDoor.R Go.Proofs.YtioahkblhekgpaaGreatDoor.E Go.Proofs.YtioahkblhekgpaaGreatDoor.O Go.Proofs.YtioahkblhekgpaaGreatDoorW.PrintWords Go.Proofs.YtioahkblhekgpaaGreatDoorW.PrintLast Go.Proofs.YtioahkblhekgpaaGreatDoorW.PrintMore
def fst (P : Nat → Geo.Pt) (i : Nat) : Bool := decide (tw P i = i)
theorem fst_iff {P : Nat → Geo.Pt} {n : Nat} : ∀ i, i < n → (fst P i = true ↔ Geo.First P i) := fun i _ => by unfold fst; rw [decide_eq_true_iff]; exact tw_first
theorem unlAll_eq {l : List S} (h : (allF l).2 = 0) : unlAll l = (orderN l).filter (fst (PT l)) := by
 unfold unlAll ordAll
 rw [if_pos h]
 exact Geo.compact_spec fst_iff (orderN_sorted l)
theorem flat_iff {l : List S} (h : (allF l).2 = 0) : flatAll l = true ↔ Geo.AllFlat (PT l) l.length := by
 have ho := orderN_sorted l
 have hu := unl_lt l
 have ha := Geo.unlike_asc (P := PT l) fst_iff ho
 have hall : ∀ i, i < l.length → ∃ k ∈ unlAll l, PT l k = PT l i := fun i hi => by rw [unlAll_eq h]; exact Geo.unlike_all fst_iff ho hi
 rw [← unlAll_eq h] at ha
 rw [Geo.allflat_unlike hu hall]
 unfold flatAll
 rw [if_pos h]
 generalize unlAll l = u at *
 by_cases h3 : u.length < 3
 ·rw [if_pos h3]
  exact ⟨fun _ => Geo.flat_few h3, fun _ => rfl⟩
 ·rw [if_neg h3]
  match u, h3, ha with
  | [], h3, _ => exact absurd (by decide) h3
  | [a], h3, _ => exact absurd (show [a].length < 3 by simp) h3
  | a :: b :: r, _, ha =>
   have hab : PT l a ≠ PT l b := Geo.ahead_ne ((List.pairwise_cons.mp ha).1 b (by simp))
   rw [Geo.flat_three hab]
   show (!(r.any fun i => decide (sgnAt l a b i ≠ 0))) = true ↔ _
   rw [Bool.not_eq_true', List.any_eq_false]
   constructor
   ·intro hh c hc
    have := hh c hc
    simp only [decide_not, Bool.not_eq_true', decide_eq_false_iff_not] at this
    unfold sgnAt at this
    exact Int.sign_eq_zero_iff_zero.mp (by simpa using this)
   ·intro hh c hc
    have : sgnAt l a b c = 0 := by unfold sgnAt; rw [hh c hc]; rfl
    simp [this]
theorem sorted_of {l : List S} {o : List Nat} (h : o.Pairwise (Geo.Lt (PT l))) (hm : ∀ x, x ∈ o ↔ x < l.length) : orderN l = o := (orderN_sorted l).eq ⟨h, hm⟩
instance (P : Nat → Geo.Pt) (i j : Nat) : Decidable (Geo.Lt P i j) := by unfold Geo.Lt; exact inferInstance
end Go.Proofs.YtioahkblhekgpaaGreatDoor.Adm
