/- AdmitPoints, the pure law: admit.May and admit.Cmp answer as the document's words do, for any four words of 64 bits. -/
import Derived.Test.YthcklcfdeejkpaaM2
import Derived.Test.YthcklcfdeejkpaaNum
namespace Go.Proofs.Ythcklcfdeejkpaa.Pure
open Go.RowKit Go.Proofs.Ythcklcfdeejkpaa.R Go.Proofs.Ythcklcfdeejkpaa.M Go.Proofs.Ythcklcfdeejkpaa.FltP Go.Proofs.YthcklcfdeejkpaaW.PrintWords Go.Proofs.YthcklcfdeejkpaaW.PrintLast

theorem refmay {x y : Nat} (hx : x < 2 ^ 64) (hy : y < 2 ^ 64) : trivetref05_May.f x y = some (goodB x && goodB y) := by
  have e1 : M.trivetref05_Coordinate.f x = some (goodB x) := by unfold M.trivetref05_Coordinate.f; rw [if_pos hx]
  have e2 : M.trivetref05_Coordinate.f y = some (goodB y) := by unfold M.trivetref05_Coordinate.f; rw [if_pos hy]
  unfold trivetref05_May.f
  rw [e1]; simp only [Option.bind_some]
  cases hb : goodB x
  · rw [if_neg (by decide)]; rfl
  · rw [if_pos rfl, e2]; rfl
theorem AdmitPoints (px py qx qy : Nat) (h1 : px < 2 ^ 64) (h2 : py < 2 ^ 64) (h3 : qx < 2 ^ 64) (h4 : qy < 2 ^ 64) : ∃ k, trivetlaw07_AdmitPoints.f k px py qx qy = some true := by
  refine Ev.rounds (r := true) ?_
  have j1 : Ev (fun k => trivetlaw07_AdmitPoints.j1 k (if (goodB px && goodB py) = true ∧ (goodB qx && goodB qy) = true then hold px py qx qy else 0) px py qx qy) true := by
    refine Ev.step (f := fun k => (admit_Cmp.f k px py qx qy).bind fun t113 => some (t113 == (if (goodB px && goodB py) = true ∧ (goodB qx && goodB qy) = true then hold px py qx qy else 0))) (fun k => ?_) (Ev.bind (cmp_ev' h1 h2 h3 h4) (by rw [beq_self_eq_true]; exact Ev.now _))
    simp only [trivetlaw07_AdmitPoints.j1]
    rw [may_some h1 h2, refmay h1 h2]; simp only [Option.bind_some]
    rw [if_pos (by simp), may_some h3 h4, refmay h3 h4]; simp only [Option.bind_some]
    rw [if_pos (by simp)]
  by_cases hp : (goodB px && goodB py) = true
  · by_cases hq : (goodB qx && goodB qy) = true
    · rw [if_pos ⟨hp, hq⟩] at j1
      have hp' := hp; have hq' := hq
      simp only [Bool.and_eq_true] at hp' hq'
      refine Ev.congr (f := fun k => trivetlaw07_AdmitPoints.j0 k 0 true px py qx qy) (fun k => ?_) (Ev.step (f := fun k => (trivetref07_Hold.f k px py qx qy).bind fun t108 => trivetlaw07_AdmitPoints.j1 k t108 px py qx qy) (fun k => by simp only [trivetlaw07_AdmitPoints.j0]; rw [if_pos trivial]) (Ev.bind (refhold_ev (goodB_fin hp'.1) (goodB_fin hp'.2) (goodB_fin hq'.1) (goodB_fin hq'.2)) j1))
      unfold trivetlaw07_AdmitPoints.f
      rw [refmay h1 h2, hp]; simp only [Option.bind_some]
      rw [if_pos trivial, refmay h3 h4, hq]; rfl
    · rw [if_neg (fun h => hq h.2)] at j1
      refine Ev.congr (f := fun k => trivetlaw07_AdmitPoints.j0 k 0 false px py qx qy) (fun k => ?_) (Ev.step (f := fun k => trivetlaw07_AdmitPoints.j1 k 0 px py qx qy) (fun k => by simp only [trivetlaw07_AdmitPoints.j0]; rw [if_neg (by decide)]) j1)
      unfold trivetlaw07_AdmitPoints.f
      rw [refmay h1 h2, hp]; simp only [Option.bind_some]
      rw [if_pos trivial, refmay h3 h4, Bool.not_eq_true _ |>.mp hq]; rfl
  · rw [if_neg (fun h => hp h.1)] at j1
    refine Ev.congr (f := fun k => trivetlaw07_AdmitPoints.j0 k 0 false px py qx qy) (fun k => ?_) (Ev.step (f := fun k => trivetlaw07_AdmitPoints.j1 k 0 px py qx qy) (fun k => by simp only [trivetlaw07_AdmitPoints.j0]; rw [if_neg (by decide)]) j1)
    unfold trivetlaw07_AdmitPoints.f
    rw [refmay h1 h2]; simp only [Option.bind_some]
    rw [if_neg hp]
end Go.Proofs.Ythcklcfdeejkpaa.Pure
