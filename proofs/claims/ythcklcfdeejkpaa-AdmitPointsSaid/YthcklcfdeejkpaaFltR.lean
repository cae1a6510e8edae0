/- Which coordinates may be, as admit tells it; how two points are held against each other; how Frexp parts a float. By values in units of 2 ^ (-1074). Conditions stand in each sentence. -/
import Derived.Test.YthcklcfdeejkpaaFltQ
namespace Go.Proofs.Ythcklcfdeejkpaa.FltP
set_option exponentiation.threshold 4000
open Go.RowKit Go.Proofs.Ythcklcfdeejkpaa.R Go.Proofs.YthcklcfdeejkpaaW.PrintWords Go.Proofs.YthcklcfdeejkpaaW.PrintLast Go.Proofs.YthcklcfdeejkpaaW.PrintMore Ieee

/-- At most 2 ^ 100, and a multiple of 2 ^ (-100). -/
def GoodF (x : Nat) : Prop := Fini x ∧ fmag x ≤ 2 ^ 1174 ∧ 2 ^ 974 ∣ fmag x
instance (x : Nat) : Decidable (Fini x) := inferInstanceAs (Decidable (_ ∧ _))
instance (x : Nat) : Decidable (GoodF x) := inferInstanceAs (Decidable (_ ∧ _ ∧ _))
def goodB (x : Nat) : Bool := decide (GoodF x)

theorem order_nan_l {x : Nat} (h : 2047 * 2 ^ 52 < x % 2 ^ 63) (y : Nat) : FloatKind.f64.format.order x y = none := by
  rw [fmt_eq]; unfold Format.order; rw [read_nan h]; rfl
theorem order_nan_r {y : Nat} (h : 2047 * 2 ^ 52 < y % 2 ^ 63) (x : Nat) : FloatKind.f64.format.order x y = none := by
  rw [fmt_eq]; unfold Format.order; rw [read_nan h]; cases dbl.read x <;> rfl
theorem order_inf_fin {x y : Nat} (h : x % 2 ^ 63 = 2047 * 2 ^ 52) (hy : Fini y) : FloatKind.f64.format.order x y = some (if fsgn x then .lt else .gt) := by
  rw [fmt_eq]; unfold Format.order; rw [read_inf h, read_fin hy]; rfl
theorem cls (x : Nat) (h : x < 2 ^ 64) : Fini x ∨ x % 2 ^ 63 = 2047 * 2 ^ 52 ∨ 2047 * 2 ^ 52 < x % 2 ^ 63 := by
  unfold Fini; omega
theorem big_fin : Fini 5057542381537067008 ∧ fmag 5057542381537067008 = 2 ^ 1174 ∧ fsig 5057542381537067008 = 2 ^ 52 ∧ fpl 5057542381537067008 = 1122 ∧ fsgn 5057542381537067008 = false := by
  refine ⟨⟨by decide, by decide⟩, ?_, by decide, by decide, by decide⟩
  rw [fmag_sig, show fsig 5057542381537067008 = 2 ^ 52 from by decide, show fpl 5057542381537067008 = 1122 from by decide, ← Nat.pow_add]
theorem cmp_lt {a b : Int} : (compare a b == Ordering.lt) = decide (a < b) := by
  simp only [compare, compareOfLessAndEq]; split
  · simp; omega
  · split
    · simp; omega
    · simp; omega
theorem cmp_eq {a b : Int} : (compare a b == Ordering.eq) = decide (a = b) := by
  simp only [compare, compareOfLessAndEq]; split
  · simp; omega
  · split <;> simp_all
theorem cmp_gt {a b : Int} : (compare a b == Ordering.gt) = decide (b < a) := by
  simp only [compare, compareOfLessAndEq]; split
  · simp; omega
  · split
    · simp; omega
    · simp; omega
theorem some_beq (a b : Ordering) : (some a == some b) = (a == b) := rfl
theorem lt_fin {x y : Nat} (hx : Fini x) (hy : Fini y) : (FloatKind.f64.format.order x y == some .lt) = decide (fval x < fval y) := by rw [fmt_eq]; rw [order_fin hx hy, some_beq, cmp_lt]
theorem eq_fin {x y : Nat} (hx : Fini x) (hy : Fini y) : (FloatKind.f64.format.order x y == some .eq) = decide (fval x = fval y) := by rw [fmt_eq]; rw [order_fin hx hy, some_beq, cmp_eq]
theorem gt_fin {x y : Nat} (hx : Fini x) (hy : Fini y) : (FloatKind.f64.format.order x y == some .gt) = decide (fval y < fval x) := by rw [fmt_eq]; rw [order_fin hx hy, some_beq, cmp_gt]

theorem coordinate_some {x : Nat} (h : x < 2 ^ 64) : admit_coordinate.f x = some (goodB x) := by
  unfold admit_coordinate.f
  rw [abs_some h]
  simp only [Option.bind_some]
  obtain ⟨b1, b2, b3, b4, b5⟩ := big_fin
  have bv : fval 5057542381537067008 = ((2 ^ 1174 : Nat) : Int) := by rw [fval_nonneg (by decide), b2]
  rcases cls x h with hf | hi | hn
  · have hcond : ((FloatKind.f64.format.order (x % 2 ^ 63) 5057542381537067008 == some .lt || FloatKind.f64.format.order (x % 2 ^ 63) 5057542381537067008 == some .eq) = true) ↔ fmag x ≤ 2 ^ 1174 := by
      rw [lt_fin hf.pos b1, eq_fin hf.pos b1, bv, fval_nonneg (b := x % 2 ^ 63) (by omega), fmag_pos]
      simp only [Bool.or_eq_true, decide_eq_true_eq]
      generalize 2 ^ 1174 = z; omega
    by_cases hle : fmag x ≤ 2 ^ 1174
    · rw [if_pos (hcond.2 hle)]
      have hex : fsig x * fsig 5057542381537067008 * 2 ^ (fpl x + fpl 5057542381537067008 - 1074) = fmag x * 2 ^ 100 := by
        rw [b3, b4, fmag_sig, Nat.mul_assoc, Nat.mul_assoc, ← Nat.pow_add, ← Nat.pow_add, show 52 + (fpl x + 1122 - 1074) = fpl x + 100 from by omega]
      have hrn : rnd (fmag x * 2 ^ 100) = fmag x * 2 ^ 100 := rnd_exact (m := fsig x) (e := fpl x + 100) (by rw [fmag_sig, Nat.mul_assoc, ← Nat.pow_add]) (fsig_lt x)
      have hsm : fmag x * 2 ^ 100 < 2 ^ 2098 := by
        have := Nat.mul_le_mul_right (2 ^ 100) hle
        rw [← Nat.pow_add] at this
        exact Nat.lt_of_le_of_lt this (Nat.pow_lt_pow_right (by decide) (by omega))
      obtain ⟨r, e1, e2, e3, e4⟩ := mul_val hf b1 (.inl (by rw [b4]; omega)) (by rw [hex, hrn]; exact hsm)
      rw [hex, hrn] at e3
      rw [b5, Bool.xor_false] at e4
      rw [e1]; simp only [Option.bind_some]
      obtain ⟨t, e5, e6, e7, e8⟩ := trunc_val e2
      rw [e5]; simp only [Option.bind_some]
      rw [eq_fin e2 e6]
      refine congrArg some (decide_eq_decide.2 ?_)
      have key : fval r = fval t ↔ fmag r = fmag t := by
        unfold fval; rw [e8]; cases fsgn r <;> simp <;> omega
      rw [key, e7, e3]
      have hd : fmag x * 2 ^ 100 = fmag x * 2 ^ 100 / 2 ^ 1074 * 2 ^ 1074 ↔ 2 ^ 1074 ∣ fmag x * 2 ^ 100 := ⟨fun h => ⟨_, h.trans (Nat.mul_comm _ _)⟩, fun h => (Nat.div_mul_cancel h).symm⟩
      rw [hd]
      constructor
      · intro hdv
        refine ⟨hf, hle, ?_⟩
        rw [show 1074 = 974 + 100 from rfl, Nat.pow_add] at hdv
        exact Nat.dvd_of_mul_dvd_mul_right (Nat.two_pow_pos _) hdv
      · intro hg
        rw [show 1074 = 974 + 100 from rfl, Nat.pow_add]
        exact Nat.mul_dvd_mul_right hg.2.2 _
    · rw [if_neg (fun h => hle (hcond.1 h))]
      exact congrArg some (decide_eq_false (fun hg : GoodF x => hle hg.2.1)).symm
  · have hp : x % 2 ^ 63 % 2 ^ 63 = 2047 * 2 ^ 52 := by rw [Nat.mod_mod]; exact hi
    have hs : fsgn (x % 2 ^ 63) = false := by unfold fsgn; rw [show x % 2 ^ 63 / 2 ^ 63 % 2 = 0 from by omega]; rfl
    rw [if_neg (by rw [order_inf_fin hp b1, hs]; decide)]
    exact congrArg some (decide_eq_false (fun hg : GoodF x => by have := hg.1.1; omega)).symm
  · have hp : 2047 * 2 ^ 52 < x % 2 ^ 63 % 2 ^ 63 := by rw [Nat.mod_mod]; exact hn
    rw [if_neg (by rw [order_nan_l hp]; decide)]
    exact congrArg some (decide_eq_false (fun hg : GoodF x => by have := hg.1.1; omega)).symm
theorem may_some {x y : Nat} (hx : x < 2 ^ 64) (hy : y < 2 ^ 64) : admit_May.f x y = some (goodB x && goodB y) := by
  unfold admit_May.f
  rw [coordinate_some hx]; simp only [Option.bind_some]
  cases hb : goodB x
  · rw [if_neg (by decide)]; rfl
  · rw [if_pos rfl, coordinate_some hy]; rfl

/-! ### holding points against each other -/
def sgn3 (a b : Int) : Int := if a < b then -1 else if b < a then 1 else 0
theorem compare_some {x y : Nat} (hx : Fini x) (hy : Fini y) : cmp_Compare_float64.f x y = some (sgn3 (fval x) (fval y)) := by
  unfold cmp_Compare_float64.f cmp_isNaN_float64.f
  simp only [Option.bind_some]
  have h1 : (FloatKind.f64.format.order x x != some .eq) = false := by rw [bne, eq_fin hx hx]; simp
  have h2 : (FloatKind.f64.format.order y y != some .eq) = false := by rw [bne, eq_fin hy hy]; simp
  rw [if_neg (by rw [h1]; decide), if_neg (by rw [h2]; decide)]
  unfold sgn3
  by_cases a : fval x < fval y
  · rw [if_pos (by rw [lt_fin hx hy]; simpa using a), if_pos a]
  · rw [if_neg (by rw [lt_fin hx hy]; simpa using a), if_neg a]
    by_cases b : fval y < fval x
    · rw [if_pos (by rw [gt_fin hx hy]; simpa using b), if_pos b]
    · rw [if_neg (by rw [gt_fin hx hy]; simpa using b), if_neg b]
/-- By X, then by Y. -/
def hold (px py qx qy : Nat) : Int := if sgn3 (fval px) (fval qx) = 0 then sgn3 (fval py) (fval qy) else sgn3 (fval px) (fval qx)
theorem w64' {a b : Int} (h : a = b) (h1 : -9223372036854775808 ≤ b) (h2 : b ≤ 9223372036854775807) : wrap64 a = b := by subst h; unfold wrap64; omega
theorem or_ev (a b : Int) : Ev (fun k => cmp_Or_int.f k [a, b]) (if a = 0 then b else a) := by
  refine Ev.congr (f := fun k => cmp_Or_int.l0 k 0 [a, b] 2 0) (fun k => by unfold cmp_Or_int.f; rfl) ?_
  by_cases ha : a = 0
  · rw [if_pos ha]
    refine Ev.step (f := fun k => cmp_Or_int.l0 k 0 [a, b] 2 1) (fun k => ?_) ?_
    · simp only [cmp_Or_int.l0]
      rw [if_pos (by omega), if_pos (by omega), if_pos (by simp), if_pos (by simpa [rd] using ha), show wrap64 (0 + 1) = 1 from w64' rfl (by omega) (by omega)]
    · by_cases hb : b = 0
      · subst hb
        refine Ev.step (f := fun k => cmp_Or_int.l0 k 0 [a, 0] 2 2) (fun k => ?_) (Ev.step (f := fun _ => some 0) (fun k => ?_) (Ev.now _))
        · simp only [cmp_Or_int.l0]
          rw [if_pos (by omega), if_pos (by omega), if_pos (by simp), if_pos (by simp [rd]), show wrap64 (1 + 1) = 2 from w64' rfl (by omega) (by omega)]
        · simp only [cmp_Or_int.l0]
          rw [if_neg (by omega)]
      · refine Ev.step (f := fun _ => some b) (fun k => ?_) (Ev.now _)
        simp only [cmp_Or_int.l0]
        rw [if_pos (by omega), if_pos (by omega), if_pos (by simp), if_neg (by simpa [rd] using hb)]
        rfl
  · rw [if_neg ha]
    refine Ev.step (f := fun _ => some a) (fun k => ?_) (Ev.now _)
    simp only [cmp_Or_int.l0]
    rw [if_pos (by omega), if_pos (by omega), if_pos (by simp), if_neg (by simpa [rd] using ha)]
    rfl
theorem hold_ev {px py qx qy : Nat} (h1 : Fini px) (h2 : Fini py) (h3 : Fini qx) (h4 : Fini qy) : Ev (fun k => admit_hold.f k px py qx qy) (hold px py qx qy) := by
  refine Ev.congr (f := fun k => (cmp_Or_int.f k [sgn3 (fval px) (fval qx), sgn3 (fval py) (fval qy)]).bind fun t => some t) (fun k => ?_) (Ev.bind (or_ev _ _) (Ev.now _))
  unfold admit_hold.f
  rw [compare_some h1 h3, compare_some h2 h4]; rfl
theorem goodB_fin {x : Nat} (h : goodB x = true) : Fini x := (of_decide_eq_true h).1
theorem cmp_ev' {px py qx qy : Nat} (h1 : px < 2 ^ 64) (h2 : py < 2 ^ 64) (h3 : qx < 2 ^ 64) (h4 : qy < 2 ^ 64) :
    Ev (fun k => admit_Cmp.f k px py qx qy) (if (goodB px && goodB py) = true ∧ (goodB qx && goodB qy) = true then hold px py qx qy else 0) := by
  by_cases hp : (goodB px && goodB py) = true
  · by_cases hq : (goodB qx && goodB qy) = true
    · rw [if_pos ⟨hp, hq⟩]
      simp only [Bool.and_eq_true] at hp hq
      refine Ev.congr (f := fun k => (admit_hold.f k px py qx qy).bind fun t => some t) (fun k => ?_) (Ev.bind (hold_ev (goodB_fin hp.1) (goodB_fin hp.2) (goodB_fin hq.1) (goodB_fin hq.2)) (Ev.now _))
      unfold admit_Cmp.f
      rw [may_some h1 h2, may_some h3 h4, hp.1, hp.2, hq.1, hq.2]; rfl
    · rw [if_neg (fun h => hq h.2)]
      refine Ev.congr (f := fun _ => some 0) (fun k => ?_) (Ev.now _)
      unfold admit_Cmp.f
      rw [may_some h1 h2, may_some h3 h4]
      simp only [Option.bind_some]
      rw [if_pos hp, if_neg hq]
  · rw [if_neg (fun h => hp h.1)]
    refine Ev.congr (f := fun _ => some 0) (fun k => ?_) (Ev.now _)
    unfold admit_Cmp.f
    rw [may_some h1 h2]
    simp only [Option.bind_some]
    rw [if_neg hp]
theorem refhold_ev {px py qx qy : Nat} (h1 : Fini px) (h2 : Fini py) (h3 : Fini qx) (h4 : Fini qy) : Ev (fun k => trivetref07_Hold.f k px py qx qy) (hold px py qx qy) := by
  have e1 := lt_fin h1 h3
  have e2 := eq_fin h1 h3
  have e3 := lt_fin h2 h4
  have e4 := eq_fin h2 h4
  have j0 (b : Bool) (r : Int) (h : (if b = true then -1 else if fval px = fval qx then (if fval py = fval qy then 0 else 1) else (1 : Int)) = r) : Ev (fun k => trivetref07_Hold.j0 k b px py qx qy) r := by
    refine Ev.step (f := fun _ => some r) (fun k => ?_) (Ev.now _)
    simp only [trivetref07_Hold.j0, e2, e4, decide_eq_true_eq]
    rw [← h]
    split
    · rfl
    · split
      · split <;> rfl
      · rfl
  rcases Int.lt_trichotomy (fval px) (fval qx) with h | h | h
  · refine Ev.congr (fun k => ?_) (j0 true _ ?_)
    · unfold trivetref07_Hold.f; rw [if_pos (by rw [e1]; simpa using h)]
    · rw [if_pos rfl]; unfold hold sgn3; rw [if_pos h]; rfl
  · refine Ev.congr (fun k => ?_) (j0 (decide (fval py < fval qy)) _ ?_)
    · unfold trivetref07_Hold.f; rw [if_neg (by rw [e1]; simp; omega), if_pos (by rw [e2]; simpa using h), e3]
    · unfold hold sgn3
      simp only [decide_eq_true_eq]
      rw [if_pos h, if_neg (by omega : ¬ fval px < fval qx), if_neg (by omega : ¬ fval qx < fval px), if_pos rfl]
      split
      · rfl
      · split <;> split <;> omega
  · refine Ev.congr (fun k => ?_) (j0 false _ ?_)
    · unfold trivetref07_Hold.f; rw [if_neg (by rw [e1]; simp; omega), if_neg (by rw [e2]; simp; omega)]
    · rw [if_neg (by decide), if_neg (by omega)]; unfold hold sgn3; rw [if_neg (by omega : ¬ fval px < fval qx), if_pos h]; rfl
end Go.Proofs.Ythcklcfdeejkpaa.FltP
