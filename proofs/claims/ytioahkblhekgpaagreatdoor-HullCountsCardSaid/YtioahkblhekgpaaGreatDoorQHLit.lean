/- What the proof needs of Lit: only what is used is left (wip/tools/prune.py). Conditions stand in each sentence. -/
import Derived.Test.YtioahkblhekgpaaGreatDoorQHAdm
set_option linter.unusedVariables false
set_option linter.unusedSimpArgs false
namespace Go.Proofs.YtioahkblhekgpaaGreatDoor.E
end Go.Proofs.YtioahkblhekgpaaGreatDoor.E
namespace Go.Proofs.YtioahkblhekgpaaGreatDoor.FltP
end Go.Proofs.YtioahkblhekgpaaGreatDoor.FltP
namespace Go.Proofs.YtioahkblhekgpaaGreatDoor.O
end Go.Proofs.YtioahkblhekgpaaGreatDoor.O
namespace Go.Proofs.YtioahkblhekgpaaGreatDoor.R
end Go.Proofs.YtioahkblhekgpaaGreatDoor.R
namespace Go.Proofs.YtioahkblhekgpaaGreatDoorW.PrintLast
end Go.Proofs.YtioahkblhekgpaaGreatDoorW.PrintLast
namespace Go.Proofs.YtioahkblhekgpaaGreatDoorW.PrintMore
end Go.Proofs.YtioahkblhekgpaaGreatDoorW.PrintMore
namespace Go.Proofs.YtioahkblhekgpaaGreatDoorW.PrintWords
end Go.Proofs.YtioahkblhekgpaaGreatDoorW.PrintWords
namespace Go.Proofs.YtioahkblhekgpaaGreatDoor.Adm
open Go.RowKit Go.Proofs.YtioahkblhekgpaaGreatDoor.FltP Go.Proofs.YtioahkblhekgpaaGreatDoor.R Go.Proofs.YtioahkblhekgpaaGreatDoor.E Go.Proofs.YtioahkblhekgpaaGreatDoor.O Go.Proofs.YtioahkblhekgpaaGreatDoorW.PrintWords Go.Proofs.YtioahkblhekgpaaGreatDoorW.PrintLast Go.Proofs.YtioahkblhekgpaaGreatDoorW.PrintMore
def flt (l : List S) : List Value := l.flatMap fun x => [.float .f64 x.f0, .float .f64 x.f1]
theorem flt_get : ∀ (l : List S) (j : Nat) (p : S), l[j]? = some p → (flt l)[j * 2]? = some (.float .f64 p.f0) ∧ (flt l)[j * 2 + 1]? = some (.float .f64 p.f1)
  | [], j, p, h => by simp at h
  | x :: l, 0, p, h => by simp at h; subst h; exact ⟨rfl, rfl⟩
  | x :: l, j + 1, p, h => by
    have ih := flt_get l j p (by simpa using h)
    have e : flt (x :: l) = .float .f64 x.f0 :: .float .f64 x.f1 :: flt l := rfl
    rw [e, show (j + 1) * 2 = j * 2 + 1 + 1 from by omega]
    exact ⟨by simpa using ih.1, by simpa using ih.2⟩
theorem lit_C {w : World} {B t n : Nat} {arr : Array Value} (l : List S) (ha : arr.toList = flt l) (h : w.heap[B]? = some (.cells arr t (0, 0))) (hn : l.length = n) (hm : n ≤ 1000) : Kd.C k32 w (some ⟨B, 0, none⟩) n l := by
  refine ⟨hn, by omega, fun _ => ⟨_, rfl, fun j p hj => ?_⟩⟩
  obtain ⟨g1, g2⟩ := flt_get l j p hj
  have hw : ∀ i, arr[i]? = (flt l)[i]? := fun i => by rw [← ha]; exact Array.getElem?_toList.symm
  refine ⟨[.float .f64 p.f0, .float .f64 p.f1], rfl, ⟨[.float .f64 p.f0], [.float .f64 p.f1], rfl, rfl, rfl⟩, fun i u hi => ?_⟩
  have hs : k32.sz = 2 := rfl
  rw [hs, Addr.add_lit]
  match i, hi with
  | 0, hi => simp at hi; subst hi; exact (blk_cell h (0 + (j * 2 + 0))).trans ((hw _).trans (show (flt l)[0 + (j * 2 + 0)]? = some (.float .f64 p.f0) from by rw [Nat.zero_add, Nat.add_zero]; exact g1))
  | 1, hi => simp at hi; subst hi; exact (blk_cell h (0 + (j * 2 + 1))).trans ((hw _).trans (show (flt l)[0 + (j * 2 + 1)]? = some (.float .f64 p.f1) from by rw [Nat.zero_add]; exact g2))
  | i + 2, hi => simp at hi
end Go.Proofs.YtioahkblhekgpaaGreatDoor.Adm
