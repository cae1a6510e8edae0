/- What Go's math functions (Abs, Frexp, Trunc) and the operations on float64 come to, by values in units of 2 ^ (-1074). Conditions stand in each sentence. -/
import Derived.Test.YthcklcfdeejkpaaFltP
import Derived.Test.YthcklcfdeejkpaaR
import Derived.Laws.BitsLemmas
namespace Go.Proofs.Ythcklcfdeejkpaa.FltP
set_option exponentiation.threshold 4000
open Go.RowKit Go.Proofs.Ythcklcfdeejkpaa.R Go.Proofs.YthcklcfdeejkpaaW.PrintWords Go.Proofs.YthcklcfdeejkpaaW.PrintLast Go.Proofs.YthcklcfdeejkpaaW.PrintMore Ieee

theorem fmt_eq : FloatKind.f64.format = dbl := rfl
theorem fval_nonneg {b : Nat} (h : b < 2 ^ 63) : fval b = fmag b := by unfold fval fsgn; rw [show b / 2 ^ 63 % 2 = 0 from by omega]; rfl
theorem Fini.pos {b : Nat} (h : Fini b) : Fini (b % 2 ^ 63) := ⟨by have := h.1; omega, by omega⟩
theorem fmag_pos (b : Nat) : fmag (b % 2 ^ 63) = fmag b := by unfold fmag; rw [Nat.mod_mod, show b % 2 ^ 63 % 2 ^ 52 = b % 2 ^ 52 from by omega]
theorem natAbs_fval (b : Nat) : (fval b).natAbs = fmag b := by unfold fval; split <;> omega
theorem fval_zero_iff (b : Nat) : fval b = 0 ↔ fmag b = 0 := by unfold fval; split <;> omega
theorem Fini.fpl_le {b : Nat} (h : Fini b) : fpl b ≤ 2045 := by have := h.1; unfold fpl; omega
theorem Fini.lt {b : Nat} (h : Fini b) : fmag b < 2 ^ 2098 := by
  rw [fmag_sig]
  have h1 := fsig_lt b
  have h2 := h.fpl_le
  have h3 : fsig b * 2 ^ fpl b < 2 ^ 53 * 2 ^ fpl b := Nat.mul_lt_mul_of_pos_right h1 (Nat.two_pow_pos _)
  rw [← Nat.pow_add] at h3
  exact Nat.lt_of_lt_of_le h3 (Nat.pow_le_pow_right (by decide) (by omega))
theorem abs_some {x : Nat} (h : x < 2 ^ 64) : math_Abs.f x = some (x % 2 ^ 63) := by
  unfold math_Abs.f fof fbits
  have : bits .andNot .u64 (x : Int) 9223372036854775808 = (x : Int) % 9223372036854775808 := by
    have h0 : (0 : Int) ≤ x := by omega
    have h1 : (x : Int) < 18446744073709551616 := by omega
    generalize (x : Int) = a at *
    go_bits2
  rw [this]; congr 1
theorem fneg_eq {x : Nat} (h : x < 2 ^ 64) : fneg x = x % 2 ^ 63 + (1 - x / 2 ^ 63) * 2 ^ 63 := by
  have e : fneg x = x ^^^ 2 ^ 63 := by unfold fneg Op.negFloat; rfl
  have e1 : (x ^^^ 2 ^ 63) % 2 ^ 63 = x % 2 ^ 63 := by rw [Nat.xor_mod_two_pow]; simp
  have e2 : (x ^^^ 2 ^ 63) / 2 ^ 63 = x / 2 ^ 63 ^^^ 1 := by rw [Nat.xor_div_two_pow]
  have e3 : x / 2 ^ 63 ^^^ 1 = 1 - x / 2 ^ 63 := by
    have : x / 2 ^ 63 = 0 ∨ x / 2 ^ 63 = 1 := by omega
    rcases this with h | h <;> rw [h] <;> rfl
  rw [e, ← Nat.mod_add_div (x ^^^ 2 ^ 63) (2 ^ 63), e1, e2, e3, Nat.mul_comm]
theorem Fini.neg {x : Nat} (h : Fini x) : Fini (fneg x) := by
  have h2 := h.2
  have h1 := h.1
  rw [fneg_eq h2]
  exact ⟨by omega, by omega⟩
theorem fmag_neg {x : Nat} (h : Fini x) : fmag (fneg x) = fmag x := by
  have h2 := h.2
  rw [fneg_eq h2]
  unfold fmag
  rw [show (x % 2 ^ 63 + (1 - x / 2 ^ 63) * 2 ^ 63) % 2 ^ 63 = x % 2 ^ 63 from by omega, show (x % 2 ^ 63 + (1 - x / 2 ^ 63) * 2 ^ 63) % 2 ^ 52 = x % 2 ^ 52 from by omega]
theorem fval_neg {x : Nat} (h : Fini x) : fval (fneg x) = -fval x := by
  have hm := fmag_neg h
  have h2 := h.2
  have hs : fsgn (fneg x) = !fsgn x := by
    rw [fneg_eq h2]
    unfold fsgn
    have : x / 2 ^ 63 = 0 ∨ x / 2 ^ 63 = 1 := by omega
    rcases this with h | h
    · rw [show (x % 2 ^ 63 + (1 - x / 2 ^ 63) * 2 ^ 63) / 2 ^ 63 % 2 = 1 from by omega, h]; rfl
    · rw [show (x % 2 ^ 63 + (1 - x / 2 ^ 63) * 2 ^ 63) / 2 ^ 63 % 2 = 0 from by omega, h]; rfl
  unfold fval
  rw [hs, hm]
  cases fsgn x <;> simp

/-! ### rounding is exact where 53 digits are enough -/
theorem rnd_exact {v m e : Nat} (hv : v = m * 2 ^ e) (hm : m < 2 ^ 53) : rnd v = v := by
  by_cases h0 : v = 0
  · rw [h0]; decide
  have hs : v.log2 - 52 ≤ e := by
    have hm0 : m ≠ 0 := by intro h; rw [h] at hv; simp at hv; exact h0 hv
    have : v.log2 = m.log2 + e := by rw [hv]; exact log2_shift hm0
    have : m.log2 < 53 := (Nat.log2_lt hm0).2 hm
    omega
  unfold rnd
  have hd : 2 ^ (v.log2 - 52) ∣ v := by
    rw [hv] at hs ⊢
    exact Nat.dvd_trans (Nat.pow_dvd_pow 2 hs) (Nat.dvd_mul_left _ _)
  have hmod : v % 2 ^ (v.log2 - 52) = 0 := Nat.mod_eq_zero_of_dvd hd
  simp only [hmod]
  have := Nat.two_pow_pos (v.log2 - 52)
  rw [if_neg (by omega), Nat.add_zero]
  exact Nat.div_mul_cancel hd

theorem mul_val {x y : Nat} (hx : Fini x) (hy : Fini y) (hpl : 1074 ≤ fpl x + fpl y ∨ fsig x * fsig y = 0) (hr : rnd (fsig x * fsig y * 2 ^ (fpl x + fpl y - 1074)) < 2 ^ 2098) :
    ∃ r, floatBits .mul .f64 x y = some r ∧ Fini r ∧ fmag r = rnd (fsig x * fsig y * 2 ^ (fpl x + fpl y - 1074)) ∧ fsgn r = (fsgn x ^^ fsgn y) := by
  unfold floatBits
  simp only [fmt_eq, Format.mul, read_fin hx, read_fin hy, Datum.product, Option.map_some, Format.write]
  refine ⟨_, rfl, ?_⟩
  rcases hpl with h | h
  · rw [show (-1074 + (fpl x : Int) + (-1074 + fpl y)) = -1074 + ((fpl x + fpl y - 1074 : Nat) : Int) from by omega]
    exact nearest_val _ _ _ hr
  · rw [h]
    have := nearest_val (fsgn x ^^ fsgn y) 0 (fpl x + fpl y - 1074) (by rw [h] at hr; exact hr)
    unfold Format.nearest at this ⊢
    simp only [if_true] at this ⊢
    exact this
theorem sub_self {x : Nat} (hx : Fini x) : floatBits .sub .f64 x x = some 0 := by
  unfold floatBits
  simp only [fmt_eq, Format.sub, read_fin hx, Datum.opposite, Datum.sum, Option.map_some, Format.write]
  have h0 : signed (fsgn x) (fsig x) (-1074 + (fpl x : Int) - min (-1074 + (fpl x : Int)) (-1074 + (fpl x : Int))).toNat + signed (!fsgn x) (fsig x) (-1074 + (fpl x : Int) - min (-1074 + (fpl x : Int)) (-1074 + (fpl x : Int))).toNat = 0 := by
    rw [signed_eq, signed_eq]; cases fsgn x <;> simp <;> omega
  rw [h0]
  simp only [if_true, Int.natAbs_zero]
  unfold Format.nearest Format.word
  cases fsgn x <;> rfl
theorem cut_zero (neg : Bool) (n d : Nat) : Toward.zero.cut neg n d = n / 2 ^ d := by
  unfold Toward.cut
  simp only [Bool.toNat_false, Nat.add_zero, Nat.shiftLeft_eq, Nat.one_mul]
  rcases Nat.le_total d (n.log2 + 2) with h | h
  · rw [Nat.min_eq_left h]
  · rw [Nat.min_eq_right h, Nat.div_eq_of_lt, Nat.div_eq_of_lt]
    · exact Nat.lt_of_lt_of_le Nat.lt_log2_self (Nat.pow_le_pow_right (by decide) (by omega))
    · exact Nat.lt_of_lt_of_le Nat.lt_log2_self (Nat.pow_le_pow_right (by decide) (by omega))
theorem trunc_val {x : Nat} (hx : Fini x) : ∃ r, math_Trunc.f x = some r ∧ Fini r ∧ fmag r = fmag x / 2 ^ 1074 * 2 ^ 1074 ∧ fsgn r = fsgn x := by
  have hd : FloatKind.f64.decode x = .number (fsgn x) (fsig x) (-1074 + fpl x) := read_fin hx
  have hlt := hx.lt
  have hT : fsig x <<< (-1074 + (fpl x : Int)).toNat / 2 ^ (-(-1074 + (fpl x : Int))).toNat * 2 ^ 1074 = fmag x / 2 ^ 1074 * 2 ^ 1074 := by
    congr 1
    rw [Nat.shiftLeft_eq, fmag_sig]
    rcases Nat.le_total 1074 (fpl x) with h | h
    · rw [show (-1074 + (fpl x : Int)).toNat = fpl x - 1074 from by omega, show (-(-1074 + (fpl x : Int))).toNat = 0 from by omega, Nat.pow_zero, Nat.div_one]
      conv => rhs; rw [show fpl x = fpl x - 1074 + 1074 from by omega, Nat.pow_add, ← Nat.mul_assoc]
      rw [Nat.mul_div_cancel _ (Nat.two_pow_pos _)]
    · rw [show (-1074 + (fpl x : Int)).toNat = 0 from by omega, show (-(-1074 + (fpl x : Int))).toNat = 1074 - fpl x from by omega, Nat.pow_zero, Nat.mul_one]
      conv => rhs; rw [show 1074 = 1074 - fpl x + fpl x from by omega, Nat.pow_add]
      rw [Nat.mul_div_mul_right _ _ (Nat.two_pow_pos _)]
  have hsm : ∃ m e, fmag x / 2 ^ 1074 * 2 ^ 1074 = m * 2 ^ e ∧ m < 2 ^ 53 := by
    rw [fmag_sig]
    have hs := fsig_lt x
    rcases Nat.le_total 1074 (fpl x) with h | h
    · refine ⟨fsig x, fpl x, ?_, hs⟩
      exact Nat.div_mul_cancel (Nat.dvd_trans (Nat.pow_dvd_pow 2 h) (Nat.dvd_mul_left _ _))
    · refine ⟨fsig x * 2 ^ fpl x / 2 ^ 1074, 1074, rfl, ?_⟩
      rw [Nat.div_lt_iff_lt_mul (Nat.two_pow_pos _)]
      exact Nat.mul_lt_mul_of_lt_of_le hs (Nat.pow_le_pow_right (by decide) h) (Nat.two_pow_pos _)
  obtain ⟨m, e, hme, hm⟩ := hsm
  have hrnd := rnd_exact hme hm
  have hle : fmag x / 2 ^ 1074 * 2 ^ 1074 ≤ fmag x := Nat.div_mul_le_self _ _
  have hn := nearest_val (fsgn x) (fsig x <<< (-1074 + (fpl x : Int)).toNat / 2 ^ (-(-1074 + (fpl x : Int))).toNat) 1074 (by rw [hT, hrnd]; exact Nat.lt_of_le_of_lt hle hlt)
  rw [hT, hrnd] at hn
  refine ⟨_, ?_, hn⟩
  unfold math_Trunc.f ftrunc
  rw [hd]
  simp only [Datum.integral, cut_zero]
  rfl
end Go.Proofs.Ythcklcfdeejkpaa.FltP
