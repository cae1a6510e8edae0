/- What the proof needs of FltP, FltQ, FltR: only what is used is left (wip/tools/prune.py). Conditions stand in each sentence. -/
import Derived.Laws.BitsLemmas
import Derived.Test.YtaoichlepfiliaaGreatDoorQXWFootNe
import Derived.Test.YtaoichlepfiliaaGreatDoorQXR6
import Derived.Test.YtaoichlepfiliaaGreatDoorQXR7
import Derived.Shelf.SlSortCmp.NoneTotal
import Derived.Deep.RegionHeld3
import Derived.LoopTactic
set_option linter.unusedSimpArgs false
set_option linter.unusedVariables false
section
namespace Go.Proofs.YtaoichlepfiliaaGreatDoor.FltP
set_option exponentiation.threshold 4000
open Go.Proofs.YtaoichlepfiliaaGreatDoorW.PrintWords Ieee
abbrev dbl : Format := Ieee.double
def Fini (b : Nat) : Prop := b % 2 ^ 63 < 2047 * 2 ^ 52 ∧ b < 2 ^ 64
def fmag (b : Nat) : Nat := if b % 2 ^ 63 < 2 ^ 52 then b % 2 ^ 63 else (2 ^ 52 + b % 2 ^ 52) * 2 ^ (b % 2 ^ 63 / 2 ^ 52 - 1)
def fsgn (b : Nat) : Bool := b / 2 ^ 63 % 2 == 1
def fval (b : Nat) : Int := if fsgn b then -(fmag b : Int) else fmag b
def fsig (b : Nat) : Nat := if b % 2 ^ 63 < 2 ^ 52 then b % 2 ^ 63 else 2 ^ 52 + b % 2 ^ 52
def fpl (b : Nat) : Nat := b % 2 ^ 63 / 2 ^ 52 - 1
theorem fmag_sig (b : Nat) : fmag b = fsig b * 2 ^ fpl b := by
 unfold fmag fsig fpl
 split
 ·rename_i h; rw [Nat.div_eq_of_lt h]; simp
 ·rfl
theorem fsig_lt (b : Nat) : fsig b < 2 ^ 53 := by
 unfold fsig; split <;> omega
theorem read_fin {b : Nat} (h : Fini b) : dbl.read b = .number (fsgn b) (fsig b) (-1074 + fpl b) := by
 have h1 := h.1
 have e1 : dbl.signWeight = 2 ^ 63 := by decide
 have e2 : dbl.binade = 2 ^ 52 := by decide
 have e3 : dbl.infRung = 2047 * 2 ^ 52 := by decide +kernel
 have e4 : dbl.leastPlace = -1074 := by decide +kernel
 unfold Format.read
 simp only [e1, e2, e3, e4]
 unfold fsig fpl fsgn
 split
 ·rename_i hlt; rw [Nat.div_eq_of_lt hlt]; simp
 ·rw [show b % 2 ^ 63 % 2 ^ 52 = b % 2 ^ 52 from by omega]
theorem read_inf {b : Nat} (h : b % 2 ^ 63 = 2047 * 2 ^ 52) : dbl.read b = .infinity (fsgn b) := by
 have e1 : dbl.signWeight = 2 ^ 63 := by decide
 have e2 : dbl.binade = 2 ^ 52 := by decide
 have e3 : dbl.infRung = 2047 * 2 ^ 52 := by decide +kernel
 unfold Format.read
 simp only [e1, e2, e3]
 rw [if_neg (by omega), if_neg (by omega), if_pos h]; rfl
theorem read_nan {b : Nat} (h : 2047 * 2 ^ 52 < b % 2 ^ 63) : dbl.read b = .nan (fsgn b) (b % 2 ^ 63 - 2047 * 2 ^ 52) := by
 have e1 : dbl.signWeight = 2 ^ 63 := by decide
 have e2 : dbl.binade = 2 ^ 52 := by decide
 have e3 : dbl.infRung = 2047 * 2 ^ 52 := by decide +kernel
 unfold Format.read
 simp only [e1, e2, e3]
 rw [if_neg (by omega), if_neg (by omega), if_neg (by omega)]; rfl
theorem signed_eq (s : Bool) (m k : Nat) : signed s m k = if s then -((m * 2 ^ k : Nat) : Int) else ((m * 2 ^ k : Nat) : Int) := by
 unfold signed; simp [Nat.shiftLeft_eq]
theorem fval_eq (b : Nat) : fval b = signed (fsgn b) (fsig b) (fpl b) := by rw [signed_eq, ← fmag_sig]; rfl
theorem signed_scale (s : Bool) (m k j : Nat) : signed s m (k + j) = signed s m k * 2 ^ j := by
 rw [signed_eq, signed_eq, Nat.pow_add, ← Nat.mul_assoc]
 split <;> simp [Int.neg_mul]
theorem order_fin {x y : Nat} (hx : Fini x) (hy : Fini y) : dbl.order x y = some (compare (fval x) (fval y)) := by
 unfold Format.order
 rw [read_fin hx, read_fin hy]
 simp only [Datum.order]
 rw [fval_eq, fval_eq]
 have key : ∀ (a b : Int) (j : Nat), compare (a * 2 ^ j) (b * 2 ^ j) = compare a b := by
  intro a b j
  have hp : (0 : Int) < 2 ^ j := Int.pow_pos (by omega)
  simp only [compare, compareOfLessAndEq]
  have h1 : a * 2 ^ j < b * 2 ^ j ↔ a < b := ⟨fun h => Int.lt_of_mul_lt_mul_right h (Int.le_of_lt hp), fun h => Int.mul_lt_mul_of_pos_right h hp⟩
  have h2 : a * 2 ^ j = b * 2 ^ j ↔ a = b := ⟨fun h => Int.eq_of_mul_eq_mul_right (by omega) h, fun h => by rw [h]⟩
  simp only [h1, h2]
 rcases Nat.le_total (fpl x) (fpl y) with h | h
 ·rw [show min (-1074 + (fpl x : Int)) (-1074 + fpl y) = -1074 + fpl x from by omega]
  rw [show (-1074 + (fpl x : Int) - (-1074 + fpl x)).toNat = 0 from by omega, show (-1074 + (fpl y : Int) - (-1074 + fpl x)).toNat = fpl y - fpl x from by omega]
  rw [← key _ _ (fpl x), ← signed_scale, ← signed_scale]
  rw [show 0 + fpl x = fpl x from by omega, show fpl y - fpl x + fpl x = fpl y from by omega]
 ·rw [show min (-1074 + (fpl x : Int)) (-1074 + fpl y) = -1074 + fpl y from by omega]
  rw [show (-1074 + (fpl x : Int) - (-1074 + fpl y)).toNat = fpl x - fpl y from by omega, show (-1074 + (fpl y : Int) - (-1074 + fpl y)).toNat = 0 from by omega]
  rw [← key _ _ (fpl y), ← signed_scale, ← signed_scale]
  rw [show 0 + fpl y = fpl y from by omega, show fpl x - fpl y + fpl y = fpl x from by omega]
def rnd (v : Nat) : Nat :=
 let s := v.log2 - 52
 let q := v / 2 ^ s
 let r := v % 2 ^ s
 (q + (if 2 ^ s < 2 * r ∨ 2 ^ s = 2 * r ∧ q % 2 = 1 then 1 else 0)) * 2 ^ s
theorem cut_even (neg : Bool) (n d : Nat) (hd : d ≤ n.log2 + 2) : Toward.even.cut neg n d = n / 2 ^ d + (if 2 ^ d < 2 * (n % 2 ^ d) ∨ 2 ^ d = 2 * (n % 2 ^ d) ∧ n / 2 ^ d % 2 = 1 then 1 else 0) := by
 unfold Toward.cut
 rw [Nat.min_eq_left hd, Nat.shiftLeft_eq, Nat.one_mul]
 simp only
 congr 1
 by_cases h1 : 2 ^ d < 2 * (n % 2 ^ d)
 ·simp [h1]
 ·by_cases h2 : 2 ^ d = 2 * (n % 2 ^ d)
  ·rw [← h2]; by_cases h3 : n / 2 ^ d % 2 = 1 <;> simp [h3]
  ·simp [h1, h2]
theorem log2_shift {m k : Nat} (h : m ≠ 0) : (m * 2 ^ k).log2 = m.log2 + k := by
 induction k with
 | zero => simp
 | succ k ih =>
  rw [Nat.pow_succ, ← Nat.mul_assoc, Nat.mul_comm _ 2, Nat.log2_two_mul (by
   have : 0 < 2 ^ k := Nat.two_pow_pos k
   exact Nat.mul_ne_zero h (by omega)), ih]; omega
theorem rung_back (s kept : Nat) (neg : Bool) (hk : kept ≤ 2 ^ 53) (hs : s = 0 → kept < 2 ^ 53) (hs' : 0 < s → 2 ^ 52 ≤ kept) (hr : kept * 2 ^ s < 2 ^ 2098) :
 Fini (dbl.word neg (min (s * 2 ^ 52 + kept) (2047 * 2 ^ 52))) ∧ fmag (dbl.word neg (min (s * 2 ^ 52 + kept) (2047 * 2 ^ 52))) = kept * 2 ^ s ∧ fsgn (dbl.word neg (min (s * 2 ^ 52 + kept) (2047 * 2 ^ 52))) = neg := by
 have hlt : s * 2 ^ 52 + kept < 2047 * 2 ^ 52 := by
  rcases Nat.eq_zero_or_pos s with h | h
  ·subst h; have := hs rfl; omega
  ·have h52 := hs' h
   by_cases hb : s ≤ 2044
   ·omega
   ·by_cases hb2 : 2046 ≤ s
    ·exfalso
     have h1 : 2 ^ 52 * 2 ^ 2046 ≤ kept * 2 ^ s := Nat.mul_le_mul h52 (Nat.pow_le_pow_right (by decide) hb2)
     rw [← Nat.pow_add] at h1
     exact absurd hr (Nat.not_lt.2 h1)
    ·obtain rfl : s = 2045 := by omega
     by_cases hk2 : kept = 2 ^ 53
     ·subst hk2; rw [← Nat.pow_add] at hr; exact absurd hr (Nat.lt_irrefl _)
     ·clear hr; omega
 rw [Nat.min_eq_left (Nat.le_of_lt hlt)]
 have e1 : dbl.signWeight = 2 ^ 63 := by decide
 have hm : dbl.word neg (s * 2 ^ 52 + kept) % 2 ^ 63 = s * 2 ^ 52 + kept := by unfold Format.word; rw [e1]; split <;> omega
 have hm2 : dbl.word neg (s * 2 ^ 52 + kept) % 2 ^ 52 = kept % 2 ^ 52 := by unfold Format.word; rw [e1]; split <;> omega
 refine ⟨⟨by rw [hm]; exact hlt, by unfold Format.word; rw [e1]; split <;> omega⟩, ?_, ?_⟩
 ·unfold fmag
  rw [hm, hm2]
  rcases Nat.eq_zero_or_pos s with h | h
  ·subst h
   have := hs rfl
   split
   ·simp
   ·rw [show (0 * 2 ^ 52 + kept) / 2 ^ 52 - 1 = 0 from by omega]; simp only [Nat.pow_zero, Nat.mul_one]; omega
  ·have h52 := hs' h
   rw [if_neg (by omega)]
   by_cases hk2 : kept = 2 ^ 53
   ·subst hk2
    rw [show (s * 2 ^ 52 + 2 ^ 53) / 2 ^ 52 - 1 = s + 1 from by omega, show 2 ^ 52 + 2 ^ 53 % 2 ^ 52 = 2 ^ 52 from by omega, Nat.pow_succ 2 s]
    generalize 2 ^ s = z; omega
   ·rw [show (s * 2 ^ 52 + kept) / 2 ^ 52 - 1 = s from by omega, show 2 ^ 52 + kept % 2 ^ 52 = kept from by omega]
 ·unfold fsgn Format.word; rw [e1]
  cases neg
  ·rw [if_neg (by decide)]; rw [show (s * 2 ^ 52 + kept) / 2 ^ 63 % 2 = 0 from by omega]; rfl
  ·rw [if_pos rfl]; rw [show (2 ^ 63 + (s * 2 ^ 52 + kept)) / 2 ^ 63 % 2 = 1 from by omega]; rfl
theorem rnd_shape (v : Nat) (hv : v ≠ 0) : ∃ kept, rnd v = kept * 2 ^ (v.log2 - 52) ∧ kept ≤ 2 ^ 53 ∧ (v.log2 - 52 = 0 → kept < 2 ^ 53) ∧ (0 < v.log2 - 52 → 2 ^ 52 ≤ kept) := by
 refine ⟨_, rfl, ?_, ?_, ?_⟩
 ·have h1 : v / 2 ^ (v.log2 - 52) < 2 ^ 53 := by
   rw [Nat.div_lt_iff_lt_mul (Nat.two_pow_pos _), ← Nat.pow_add]
   exact Nat.lt_of_lt_of_le Nat.lt_log2_self (Nat.pow_le_pow_right (by decide) (by omega))
  split <;> omega
 ·intro h0
  rw [h0]
  simp only [Nat.pow_zero, Nat.div_one, Nat.mod_one]
  have : v < 2 ^ 53 := Nat.lt_of_lt_of_le Nat.lt_log2_self (Nat.pow_le_pow_right (by decide) (by omega))
  rw [if_neg (by omega)]; exact this
 ·intro h0
  have h1 : 2 ^ 52 ≤ v / 2 ^ (v.log2 - 52) := by
   rw [Nat.le_div_iff_mul_le (Nat.two_pow_pos _), ← Nat.pow_add, show 52 + (v.log2 - 52) = v.log2 from by omega]
   exact Nat.log2_self_le hv
  exact Nat.le_trans h1 (Nat.le_add_right _ _)
theorem nearest_val (neg : Bool) (mag k : Nat) (hr : rnd (mag * 2 ^ k) < 2 ^ 2098) :
 Fini (dbl.nearest neg mag (-1074 + k)) ∧ fmag (dbl.nearest neg mag (-1074 + k)) = rnd (mag * 2 ^ k) ∧ fsgn (dbl.nearest neg mag (-1074 + k)) = neg := by
 have e1 : dbl.signWeight = 2 ^ 63 := by decide
 have e2 : dbl.binade = 2 ^ 52 := by decide
 have e3 : dbl.infRung = 2047 * 2 ^ 52 := by decide +kernel
 have e4 : dbl.leastPlace = -1074 := by decide +kernel
 have e5 : dbl.fractionBits = 52 := rfl
 by_cases h0 : mag = 0
 ·subst h0
  unfold Format.nearest Format.word
  rw [if_pos rfl, e1]
  have : rnd 0 = 0 := by decide
  rw [Nat.zero_mul, this]
  cases neg
  ·exact ⟨⟨by decide, by decide⟩, by decide, by decide⟩
  ·exact ⟨⟨by decide, by decide⟩, by decide, by decide⟩
 have hv : mag * 2 ^ k ≠ 0 := Nat.mul_ne_zero h0 (by have := Nat.two_pow_pos k; omega)
 obtain ⟨kept, hk, hk1, hk2, hk3⟩ := rnd_shape (mag * 2 ^ k) hv
 have hl := log2_shift (k := k) h0
 rw [hk] at hr ⊢
 have hw : dbl.nearest neg mag (-1074 + k) = dbl.word neg (min (((mag * 2 ^ k).log2 - 52) * 2 ^ 52 + kept) (2047 * 2 ^ 52)) := by
  unfold Format.nearest
  rw [if_neg h0]
  simp only [e2, e3, e4, e5]
  have hlast : max (-1074 + (k : Int) + mag.log2 - (52 : Nat)) (-1074) = -1074 + (((mag * 2 ^ k).log2 - 52 : Nat) : Int) := by rw [hl]; omega
  rw [hlast]
  rw [show (-1074 + (((mag * 2 ^ k).log2 - 52 : Nat) : Int) - -1074).toNat = (mag * 2 ^ k).log2 - 52 from by omega]
  congr 3
  have hpos := Nat.two_pow_pos ((mag * 2 ^ k).log2 - 52)
  apply Nat.eq_of_mul_eq_mul_right hpos
  rw [← hk]
  rcases Nat.le_total ((mag * 2 ^ k).log2 - 52) k with hle | hle
  ·
   rw [show (-1074 + (k : Int) - (-1074 + (((mag * 2 ^ k).log2 - 52 : Nat) : Int))).toNat = k - ((mag * 2 ^ k).log2 - 52) from by omega]
   rw [show (-1074 + (((mag * 2 ^ k).log2 - 52 : Nat) : Int) - (-1074 + (k : Int))).toNat = 0 from by omega]
   rw [cut_even _ _ _ (by omega), Nat.shiftLeft_eq]
   unfold rnd
   generalize hs : (mag * 2 ^ k).log2 - 52 = s at *
   have hd : mag * 2 ^ k = mag * 2 ^ (k - s) * 2 ^ s := by rw [Nat.mul_assoc, ← Nat.pow_add, Nat.sub_add_cancel hle]
   rw [hd]
   simp only [Nat.pow_zero, Nat.div_one, Nat.mod_one, Nat.mul_div_cancel _ (Nat.two_pow_pos s), Nat.mul_mod_left]
   have := Nat.two_pow_pos s
   rw [if_neg (by omega), if_neg (by omega)]
  ·rw [show (-1074 + (k : Int) - (-1074 + (((mag * 2 ^ k).log2 - 52 : Nat) : Int))).toNat = 0 from by omega]
   rw [show (-1074 + (((mag * 2 ^ k).log2 - 52 : Nat) : Int) - (-1074 + (k : Int))).toNat = (mag * 2 ^ k).log2 - 52 - k from by omega]
   rw [Nat.shiftLeft_eq, Nat.pow_zero, Nat.mul_one]
   rw [cut_even _ _ _ (by rw [hl]; omega)]
   unfold rnd
   generalize hs : (mag * 2 ^ k).log2 - 52 = s at *
   obtain ⟨d, rfl⟩ : ∃ d, s = d + k := ⟨s - k, by omega⟩
   rw [Nat.add_sub_cancel]
   have hkp := Nat.two_pow_pos k
   have hq : mag * 2 ^ k / 2 ^ (d + k) = mag / 2 ^ d := by rw [Nat.pow_add]; exact Nat.mul_div_mul_right _ _ hkp
   have hm : mag * 2 ^ k % 2 ^ (d + k) = mag % 2 ^ d * 2 ^ k := by rw [Nat.pow_add]; exact Nat.mul_mod_mul_right _ _ _
   simp only [hq, hm]
   congr 2
   have a1 : 2 ^ (d + k) < 2 * (mag % 2 ^ d * 2 ^ k) ↔ 2 ^ d < 2 * (mag % 2 ^ d) := by
    rw [Nat.pow_add, ← Nat.mul_assoc]
    exact ⟨fun h => Nat.lt_of_mul_lt_mul_right h, fun h => Nat.mul_lt_mul_of_pos_right h hkp⟩
   have a2 : 2 ^ (d + k) = 2 * (mag % 2 ^ d * 2 ^ k) ↔ 2 ^ d = 2 * (mag % 2 ^ d) := by
    rw [Nat.pow_add, ← Nat.mul_assoc]
    exact ⟨fun h => Nat.eq_of_mul_eq_mul_right hkp h, fun h => congrArg (· * 2 ^ k) h⟩
   simp only [a1, a2]
 rw [hw]
 exact rung_back _ kept neg hk1 hk2 hk3 hr
theorem rnd_exact {v m e : Nat} (hv : v = m * 2 ^ e) (hm : m < 2 ^ 53) : rnd v = v := by
 by_cases h0 : v = 0
 ·rw [h0]; decide
 have hs : v.log2 - 52 ≤ e := by
  have hm0 : m ≠ 0 := by intro h; rw [h] at hv; simp at hv; exact h0 hv
  have : v.log2 = m.log2 + e := by rw [hv]; exact log2_shift hm0
  have : m.log2 < 53 := (Nat.log2_lt hm0).2 hm
  omega
 unfold rnd
 have hd : 2 ^ (v.log2 - 52) ∣ v := by
  rw [hv] at hs ⊢
  exact Nat.dvd_trans (Nat.pow_dvd_pow 2 hs) (Nat.dvd_mul_left _ _)
 have hmod : v % 2 ^ (v.log2 - 52) = 0 := Nat.mod_eq_zero_of_dvd hd
 simp only [hmod]
 have := Nat.two_pow_pos (v.log2 - 52)
 rw [if_neg (by omega), Nat.add_zero]
 exact Nat.div_mul_cancel hd
theorem rnd_two (v : Nat) : rnd (2 * v) = 2 * rnd v := by
 by_cases h0 : v = 0
 ·subst h0; decide
 ·by_cases h : v.log2 < 52
  ·have hv : v < 2 ^ 52 := (Nat.log2_lt h0).1 h
   rw [rnd_exact (v := v) (m := v) (e := 0) (by simp) (by omega), rnd_exact (v := 2 * v) (m := 2 * v) (e := 0) (by simp) (by omega)]
  ·have key : ∀ q r S : Nat, (q + (if 2 * S < 2 * (2 * r) ∨ 2 * S = 2 * (2 * r) ∧ q % 2 = 1 then 1 else 0)) * (2 * S) = 2 * ((q + (if S < 2 * r ∨ S = 2 * r ∧ q % 2 = 1 then 1 else 0)) * S) := by
    intro q r S
    by_cases c : S < 2 * r ∨ S = 2 * r ∧ q % 2 = 1
    ·rw [if_pos c, if_pos (by omega), Nat.mul_left_comm]
    ·rw [if_neg c, if_neg (by omega), Nat.mul_left_comm]
   have hk := key (v / 2 ^ (v.log2 - 52)) (v % 2 ^ (v.log2 - 52)) (2 ^ (v.log2 - 52))
   have e1 : 2 * v / 2 ^ (v.log2 - 52 + 1) = v / 2 ^ (v.log2 - 52) := by rw [Nat.pow_succ, Nat.mul_comm _ 2]; exact Nat.mul_div_mul_left _ _ (by decide)
   have e2 : 2 * v % 2 ^ (v.log2 - 52 + 1) = 2 * (v % 2 ^ (v.log2 - 52)) := by rw [Nat.pow_succ, Nat.mul_comm _ 2]; exact Nat.mul_mod_mul_left _ _ _
   have e3 : 2 ^ (v.log2 - 52 + 1) = 2 * 2 ^ (v.log2 - 52) := by rw [Nat.pow_succ]; omega
   show _ = 2 * ((v / 2 ^ (v.log2 - 52) + (if 2 ^ (v.log2 - 52) < 2 * (v % 2 ^ (v.log2 - 52)) ∨ 2 ^ (v.log2 - 52) = 2 * (v % 2 ^ (v.log2 - 52)) ∧ v / 2 ^ (v.log2 - 52) % 2 = 1 then 1 else 0)) * 2 ^ (v.log2 - 52))
   rw [← hk]
   show (2 * v / 2 ^ ((2 * v).log2 - 52) + (if 2 ^ ((2 * v).log2 - 52) < 2 * (2 * v % 2 ^ ((2 * v).log2 - 52)) ∨ 2 ^ ((2 * v).log2 - 52) = 2 * (2 * v % 2 ^ ((2 * v).log2 - 52)) ∧ 2 * v / 2 ^ ((2 * v).log2 - 52) % 2 = 1 then 1 else 0)) * 2 ^ ((2 * v).log2 - 52) = _
   have e0 : (2 * v).log2 - 52 = v.log2 - 52 + 1 := by rw [Nat.log2_two_mul h0]; omega
   rw [e0, e1, e2, e3]
set_option exponentiation.threshold 4000
open Go.RowKit Go.Proofs.YtaoichlepfiliaaGreatDoor.R Go.Proofs.YtaoichlepfiliaaGreatDoorW.PrintWords Go.Proofs.YtaoichlepfiliaaGreatDoorW.PrintLast Ieee
theorem fmt_eq : FloatKind.f64.format = dbl := rfl
theorem fval_nonneg {b : Nat} (h : b < 2 ^ 63) : fval b = fmag b := by unfold fval fsgn; rw [show b / 2 ^ 63 % 2 = 0 from by omega]; rfl
theorem Fini.pos {b : Nat} (h : Fini b) : Fini (b % 2 ^ 63) := ⟨by have := h.1; omega, by omega⟩
theorem fmag_pos (b : Nat) : fmag (b % 2 ^ 63) = fmag b := by unfold fmag; rw [Nat.mod_mod, show b % 2 ^ 63 % 2 ^ 52 = b % 2 ^ 52 from by omega]
theorem natAbs_fval (b : Nat) : (fval b).natAbs = fmag b := by unfold fval; split <;> omega
theorem fval_zero_iff (b : Nat) : fval b = 0 ↔ fmag b = 0 := by unfold fval; split <;> omega
theorem Fini.fpl_le {b : Nat} (h : Fini b) : fpl b ≤ 2045 := by have := h.1; unfold fpl; omega
theorem Fini.lt {b : Nat} (h : Fini b) : fmag b < 2 ^ 2098 := by
 rw [fmag_sig]
 have h1 := fsig_lt b
 have h2 := h.fpl_le
 have h3 : fsig b * 2 ^ fpl b < 2 ^ 53 * 2 ^ fpl b := Nat.mul_lt_mul_of_pos_right h1 (Nat.two_pow_pos _)
 rw [← Nat.pow_add] at h3
 exact Nat.lt_of_lt_of_le h3 (Nat.pow_le_pow_right (by decide) (by omega))
theorem abs_some {x : Nat} (h : x < 2 ^ 64) : math_Abs.f x = some (x % 2 ^ 63) := by
 unfold math_Abs.f fof fbits
 have : bits .andNot .u64 (x : Int) 9223372036854775808 = (x : Int) % 9223372036854775808 := by
  have h0 : (0 : Int) ≤ x := by omega
  have h1 : (x : Int) < 18446744073709551616 := by omega
  generalize (x : Int) = a at *
  go_bits2
 rw [this]; congr 1
theorem fneg_eq {x : Nat} (h : x < 2 ^ 64) : fneg x = x % 2 ^ 63 + (1 - x / 2 ^ 63) * 2 ^ 63 := by
 have e : fneg x = x ^^^ 2 ^ 63 := by unfold fneg Op.negFloat; rfl
 have e1 : (x ^^^ 2 ^ 63) % 2 ^ 63 = x % 2 ^ 63 := by rw [Nat.xor_mod_two_pow]; simp
 have e2 : (x ^^^ 2 ^ 63) / 2 ^ 63 = x / 2 ^ 63 ^^^ 1 := by rw [Nat.xor_div_two_pow]
 have e3 : x / 2 ^ 63 ^^^ 1 = 1 - x / 2 ^ 63 := by
  have : x / 2 ^ 63 = 0 ∨ x / 2 ^ 63 = 1 := by omega
  rcases this with h | h <;> rw [h] <;> rfl
 rw [e, ← Nat.mod_add_div (x ^^^ 2 ^ 63) (2 ^ 63), e1, e2, e3, Nat.mul_comm]
theorem Fini.neg {x : Nat} (h : Fini x) : Fini (fneg x) := by
 have h2 := h.2
 have h1 := h.1
 rw [fneg_eq h2]
 exact ⟨by omega, by omega⟩
theorem fmag_neg {x : Nat} (h : Fini x) : fmag (fneg x) = fmag x := by
 have h2 := h.2
 rw [fneg_eq h2]
 unfold fmag
 rw [show (x % 2 ^ 63 + (1 - x / 2 ^ 63) * 2 ^ 63) % 2 ^ 63 = x % 2 ^ 63 from by omega, show (x % 2 ^ 63 + (1 - x / 2 ^ 63) * 2 ^ 63) % 2 ^ 52 = x % 2 ^ 52 from by omega]
theorem fval_neg {x : Nat} (h : Fini x) : fval (fneg x) = -fval x := by
 have hm := fmag_neg h
 have h2 := h.2
 have hs : fsgn (fneg x) = !fsgn x := by
  rw [fneg_eq h2]
  unfold fsgn
  have : x / 2 ^ 63 = 0 ∨ x / 2 ^ 63 = 1 := by omega
  rcases this with h | h
  ·rw [show (x % 2 ^ 63 + (1 - x / 2 ^ 63) * 2 ^ 63) / 2 ^ 63 % 2 = 1 from by omega, h]; rfl
  ·rw [show (x % 2 ^ 63 + (1 - x / 2 ^ 63) * 2 ^ 63) / 2 ^ 63 % 2 = 0 from by omega, h]; rfl
 unfold fval
 rw [hs, hm]
 cases fsgn x <;> simp
theorem mul_val {x y : Nat} (hx : Fini x) (hy : Fini y) (hpl : 1074 ≤ fpl x + fpl y ∨ fsig x * fsig y = 0) (hr : rnd (fsig x * fsig y * 2 ^ (fpl x + fpl y - 1074)) < 2 ^ 2098) :
 ∃ r, floatBits .mul .f64 x y = some r ∧ Fini r ∧ fmag r = rnd (fsig x * fsig y * 2 ^ (fpl x + fpl y - 1074)) ∧ fsgn r = (fsgn x ^^ fsgn y) := by
 unfold floatBits
 simp only [fmt_eq, Format.mul, read_fin hx, read_fin hy, Datum.product, Option.map_some, Format.write]
 refine ⟨_, rfl, ?_⟩
 rcases hpl with h | h
 ·rw [show (-1074 + (fpl x : Int) + (-1074 + fpl y)) = -1074 + ((fpl x + fpl y - 1074 : Nat) : Int) from by omega]
  exact nearest_val _ _ _ hr
 ·rw [h]
  have := nearest_val (fsgn x ^^ fsgn y) 0 (fpl x + fpl y - 1074) (by rw [h] at hr; exact hr)
  unfold Format.nearest at this ⊢
  simp only [if_true] at this ⊢
  exact this
theorem sub_self {x : Nat} (hx : Fini x) : floatBits .sub .f64 x x = some 0 := by
 unfold floatBits
 simp only [fmt_eq, Format.sub, read_fin hx, Datum.opposite, Datum.sum, Option.map_some, Format.write]
 have h0 : signed (fsgn x) (fsig x) (-1074 + (fpl x : Int) - min (-1074 + (fpl x : Int)) (-1074 + (fpl x : Int))).toNat + signed (!fsgn x) (fsig x) (-1074 + (fpl x : Int) - min (-1074 + (fpl x : Int)) (-1074 + (fpl x : Int))).toNat = 0 := by
  rw [signed_eq, signed_eq]; cases fsgn x <;> simp <;> omega
 rw [h0]
 simp only [if_true, Int.natAbs_zero]
 unfold Format.nearest Format.word
 cases fsgn x <;> rfl
theorem cut_zero (neg : Bool) (n d : Nat) : Toward.zero.cut neg n d = n / 2 ^ d := by
 unfold Toward.cut
 simp only [Bool.toNat_false, Nat.add_zero, Nat.shiftLeft_eq, Nat.one_mul]
 rcases Nat.le_total d (n.log2 + 2) with h | h
 ·rw [Nat.min_eq_left h]
 ·rw [Nat.min_eq_right h, Nat.div_eq_of_lt, Nat.div_eq_of_lt]
  ·exact Nat.lt_of_lt_of_le Nat.lt_log2_self (Nat.pow_le_pow_right (by decide) (by omega))
  ·exact Nat.lt_of_lt_of_le Nat.lt_log2_self (Nat.pow_le_pow_right (by decide) (by omega))
theorem trunc_val {x : Nat} (hx : Fini x) : ∃ r, math_Trunc.f x = some r ∧ Fini r ∧ fmag r = fmag x / 2 ^ 1074 * 2 ^ 1074 ∧ fsgn r = fsgn x := by
 have hd : FloatKind.f64.decode x = .number (fsgn x) (fsig x) (-1074 + fpl x) := read_fin hx
 have hlt := hx.lt
 have hT : fsig x <<< (-1074 + (fpl x : Int)).toNat / 2 ^ (-(-1074 + (fpl x : Int))).toNat * 2 ^ 1074 = fmag x / 2 ^ 1074 * 2 ^ 1074 := by
  congr 1
  rw [Nat.shiftLeft_eq, fmag_sig]
  rcases Nat.le_total 1074 (fpl x) with h | h
  ·rw [show (-1074 + (fpl x : Int)).toNat = fpl x - 1074 from by omega, show (-(-1074 + (fpl x : Int))).toNat = 0 from by omega, Nat.pow_zero, Nat.div_one]
   conv => rhs; rw [show fpl x = fpl x - 1074 + 1074 from by omega, Nat.pow_add, ← Nat.mul_assoc]
   rw [Nat.mul_div_cancel _ (Nat.two_pow_pos _)]
  ·rw [show (-1074 + (fpl x : Int)).toNat = 0 from by omega, show (-(-1074 + (fpl x : Int))).toNat = 1074 - fpl x from by omega, Nat.pow_zero, Nat.mul_one]
   conv => rhs; rw [show 1074 = 1074 - fpl x + fpl x from by omega, Nat.pow_add]
   rw [Nat.mul_div_mul_right _ _ (Nat.two_pow_pos _)]
 have hsm : ∃ m e, fmag x / 2 ^ 1074 * 2 ^ 1074 = m * 2 ^ e ∧ m < 2 ^ 53 := by
  rw [fmag_sig]
  have hs := fsig_lt x
  rcases Nat.le_total 1074 (fpl x) with h | h
  ·refine ⟨fsig x, fpl x, ?_, hs⟩
   exact Nat.div_mul_cancel (Nat.dvd_trans (Nat.pow_dvd_pow 2 h) (Nat.dvd_mul_left _ _))
  ·refine ⟨fsig x * 2 ^ fpl x / 2 ^ 1074, 1074, rfl, ?_⟩
   rw [Nat.div_lt_iff_lt_mul (Nat.two_pow_pos _)]
   exact Nat.mul_lt_mul_of_lt_of_le hs (Nat.pow_le_pow_right (by decide) h) (Nat.two_pow_pos _)
 obtain ⟨m, e, hme, hm⟩ := hsm
 have hrnd := rnd_exact hme hm
 have hle : fmag x / 2 ^ 1074 * 2 ^ 1074 ≤ fmag x := Nat.div_mul_le_self _ _
 have hn := nearest_val (fsgn x) (fsig x <<< (-1074 + (fpl x : Int)).toNat / 2 ^ (-(-1074 + (fpl x : Int))).toNat) 1074 (by rw [hT, hrnd]; exact Nat.lt_of_le_of_lt hle hlt)
 rw [hT, hrnd] at hn
 refine ⟨_, ?_, hn⟩
 unfold math_Trunc.f ftrunc
 rw [hd]
 simp only [Datum.integral, cut_zero]
 rfl
set_option exponentiation.threshold 4000
open Go.RowKit Go.Proofs.YtaoichlepfiliaaGreatDoor.R Go.Proofs.YtaoichlepfiliaaGreatDoorW.PrintWords Go.Proofs.YtaoichlepfiliaaGreatDoorW.PrintLast Ieee
def GoodF (x : Nat) : Prop := Fini x ∧ fmag x ≤ 2 ^ 1174 ∧ 2 ^ 974 ∣ fmag x
instance (x : Nat) : Decidable (Fini x) := inferInstanceAs (Decidable (_ ∧ _))
instance (x : Nat) : Decidable (GoodF x) := inferInstanceAs (Decidable (_ ∧ _ ∧ _))
def goodB (x : Nat) : Bool := decide (GoodF x)
theorem order_nan_l {x : Nat} (h : 2047 * 2 ^ 52 < x % 2 ^ 63) (y : Nat) : FloatKind.f64.format.order x y = none := by
 rw [fmt_eq]; unfold Format.order; rw [read_nan h]; rfl
theorem order_inf_fin {x y : Nat} (h : x % 2 ^ 63 = 2047 * 2 ^ 52) (hy : Fini y) : FloatKind.f64.format.order x y = some (if fsgn x then .lt else .gt) := by
 rw [fmt_eq]; unfold Format.order; rw [read_inf h, read_fin hy]; rfl
theorem cls (x : Nat) (h : x < 2 ^ 64) : Fini x ∨ x % 2 ^ 63 = 2047 * 2 ^ 52 ∨ 2047 * 2 ^ 52 < x % 2 ^ 63 := by
 unfold Fini; omega
theorem big_fin : Fini 5057542381537067008 ∧ fmag 5057542381537067008 = 2 ^ 1174 ∧ fsig 5057542381537067008 = 2 ^ 52 ∧ fpl 5057542381537067008 = 1122 ∧ fsgn 5057542381537067008 = false := by
 refine ⟨⟨by decide, by decide⟩, ?_, by decide, by decide, by decide⟩
 rw [fmag_sig, show fsig 5057542381537067008 = 2 ^ 52 from by decide, show fpl 5057542381537067008 = 1122 from by decide, ← Nat.pow_add]
theorem cmp_lt {a b : Int} : (compare a b == Ordering.lt) = decide (a < b) := by
 simp only [compare, compareOfLessAndEq]; split
 ·simp; omega
 ·split
  ·simp; omega
  ·simp; omega
theorem cmp_eq {a b : Int} : (compare a b == Ordering.eq) = decide (a = b) := by
 simp only [compare, compareOfLessAndEq]; split
 ·simp; omega
 ·split <;> simp_all
theorem cmp_gt {a b : Int} : (compare a b == Ordering.gt) = decide (b < a) := by
 simp only [compare, compareOfLessAndEq]; split
 ·simp; omega
 ·split
  ·simp; omega
  ·simp; omega
theorem some_beq (a b : Ordering) : (some a == some b) = (a == b) := rfl
theorem lt_fin {x y : Nat} (hx : Fini x) (hy : Fini y) : (FloatKind.f64.format.order x y == some .lt) = decide (fval x < fval y) := by rw [fmt_eq]; rw [order_fin hx hy, some_beq, cmp_lt]
theorem eq_fin {x y : Nat} (hx : Fini x) (hy : Fini y) : (FloatKind.f64.format.order x y == some .eq) = decide (fval x = fval y) := by rw [fmt_eq]; rw [order_fin hx hy, some_beq, cmp_eq]
theorem gt_fin {x y : Nat} (hx : Fini x) (hy : Fini y) : (FloatKind.f64.format.order x y == some .gt) = decide (fval y < fval x) := by rw [fmt_eq]; rw [order_fin hx hy, some_beq, cmp_gt]
theorem coordinate_some {x : Nat} (h : x < 2 ^ 64) : admit_coordinate.f x = some (goodB x) := by
 unfold admit_coordinate.f
 rw [abs_some h]
 simp only [Option.bind_some]
 obtain ⟨b1, b2, b3, b4, b5⟩ := big_fin
 have bv : fval 5057542381537067008 = ((2 ^ 1174 : Nat) : Int) := by rw [fval_nonneg (by decide), b2]
 rcases cls x h with hf | hi | hn
 ·have hcond : ((FloatKind.f64.format.order (x % 2 ^ 63) 5057542381537067008 == some .lt || FloatKind.f64.format.order (x % 2 ^ 63) 5057542381537067008 == some .eq) = true) ↔ fmag x ≤ 2 ^ 1174 := by
   rw [lt_fin hf.pos b1, eq_fin hf.pos b1, bv, fval_nonneg (b := x % 2 ^ 63) (by omega), fmag_pos]
   simp only [Bool.or_eq_true, decide_eq_true_eq]
   generalize 2 ^ 1174 = z; omega
  by_cases hle : fmag x ≤ 2 ^ 1174
  ·rw [if_pos (hcond.2 hle)]
   have hex : fsig x * fsig 5057542381537067008 * 2 ^ (fpl x + fpl 5057542381537067008 - 1074) = fmag x * 2 ^ 100 := by
    rw [b3, b4, fmag_sig, Nat.mul_assoc, Nat.mul_assoc, ← Nat.pow_add, ← Nat.pow_add, show 52 + (fpl x + 1122 - 1074) = fpl x + 100 from by omega]
   have hrn : rnd (fmag x * 2 ^ 100) = fmag x * 2 ^ 100 := rnd_exact (m := fsig x) (e := fpl x + 100) (by rw [fmag_sig, Nat.mul_assoc, ← Nat.pow_add]) (fsig_lt x)
   have hsm : fmag x * 2 ^ 100 < 2 ^ 2098 := by
    have := Nat.mul_le_mul_right (2 ^ 100) hle
    rw [← Nat.pow_add] at this
    exact Nat.lt_of_le_of_lt this (Nat.pow_lt_pow_right (by decide) (by omega))
   obtain ⟨r, e1, e2, e3, e4⟩ := mul_val hf b1 (.inl (by rw [b4]; omega)) (by rw [hex, hrn]; exact hsm)
   rw [hex, hrn] at e3
   rw [b5, Bool.xor_false] at e4
   rw [e1]; simp only [Option.bind_some]
   obtain ⟨t, e5, e6, e7, e8⟩ := trunc_val e2
   rw [e5]; simp only [Option.bind_some]
   rw [eq_fin e2 e6]
   refine congrArg some (decide_eq_decide.2 ?_)
   have key : fval r = fval t ↔ fmag r = fmag t := by
    unfold fval; rw [e8]; cases fsgn r <;> simp <;> omega
   rw [key, e7, e3]
   have hd : fmag x * 2 ^ 100 = fmag x * 2 ^ 100 / 2 ^ 1074 * 2 ^ 1074 ↔ 2 ^ 1074 ∣ fmag x * 2 ^ 100 := ⟨fun h => ⟨_, h.trans (Nat.mul_comm _ _)⟩, fun h => (Nat.div_mul_cancel h).symm⟩
   rw [hd]
   constructor
   ·intro hdv
    refine ⟨hf, hle, ?_⟩
    rw [show 1074 = 974 + 100 from rfl, Nat.pow_add] at hdv
    exact Nat.dvd_of_mul_dvd_mul_right (Nat.two_pow_pos _) hdv
   ·intro hg
    rw [show 1074 = 974 + 100 from rfl, Nat.pow_add]
    exact Nat.mul_dvd_mul_right hg.2.2 _
  ·rw [if_neg (fun h => hle (hcond.1 h))]
   exact congrArg some (decide_eq_false (fun hg : GoodF x => hle hg.2.1)).symm
 ·have hp : x % 2 ^ 63 % 2 ^ 63 = 2047 * 2 ^ 52 := by rw [Nat.mod_mod]; exact hi
  have hs : fsgn (x % 2 ^ 63) = false := by unfold fsgn; rw [show x % 2 ^ 63 / 2 ^ 63 % 2 = 0 from by omega]; rfl
  rw [if_neg (by rw [order_inf_fin hp b1, hs]; decide)]
  exact congrArg some (decide_eq_false (fun hg : GoodF x => by have := hg.1.1; omega)).symm
 ·have hp : 2047 * 2 ^ 52 < x % 2 ^ 63 % 2 ^ 63 := by rw [Nat.mod_mod]; exact hn
  rw [if_neg (by rw [order_nan_l hp]; decide)]
  exact congrArg some (decide_eq_false (fun hg : GoodF x => by have := hg.1.1; omega)).symm
theorem may_some {x y : Nat} (hx : x < 2 ^ 64) (hy : y < 2 ^ 64) : admit_May.f x y = some (goodB x && goodB y) := by
 unfold admit_May.f
 rw [coordinate_some hx]; simp only [Option.bind_some]
 cases hb : goodB x
 ·rw [if_neg (by decide)]; rfl
 ·rw [if_pos rfl, coordinate_some hy]; rfl
theorem w64' {a b : Int} (h : a = b) (h1 : -9223372036854775808 ≤ b) (h2 : b ≤ 9223372036854775807) : wrap64 a = b := by subst h; unfold wrap64; omega
end Go.Proofs.YtaoichlepfiliaaGreatDoor.FltP
end
section
namespace Go.Proofs.YtaoichlepfiliaaGreatDoor.Adm
open Go.RowKit Go.Sort Go.Proofs.YtaoichlepfiliaaGreatDoor.FltP Go.Proofs.YtaoichlepfiliaaGreatDoor.R Go.Proofs.YtaoichlepfiliaaGreatDoorW.PrintWords Go.Proofs.YtaoichlepfiliaaGreatDoorW.PrintLast
structure Gr (w w' : World) : Prop where
 out : ∃ q os, w' = grow (w.drewN q) os
theorem Gr.refl (w : World) : Gr w w := ⟨0, #[], by rw [grow_empty]; rfl⟩
theorem Gr.trans {a b c : World} (h : Gr a b) (k : Gr b c) : Gr a c := by
 obtain ⟨q, os, rfl⟩ := h.out
 obtain ⟨q', os', rfl⟩ := k.out
 exact ⟨q + q', os ++ os', by show grow (grow ((a.drewN q).drewN q') os) os' = _; rw [grow_grow, World.drewN_drewN]⟩
theorem Gr.drew {a b : World} (h : Gr a b) : Gr a b.drew := h.trans ⟨1, #[], by rw [grow_empty]; rfl⟩
theorem Gr.drewN {a b : World} (h : Gr a b) (n : Nat) : Gr a (b.drewN n) := h.trans ⟨n, #[], by rw [grow_empty]⟩
theorem Gr.alloc {a b : World} (h : Gr a b) (o : Obj) : Gr a (b.alloc o) := h.trans ⟨0, #[o], by rw [alloc_eq_grow]; rfl⟩
theorem Gr.below {a b : World} (h : Gr a b) : Below a.heap.size a b := by
 obtain ⟨q, os, rfl⟩ := h.out
 refine ⟨rfl, rfl, rfl, by simp [grow], fun k hk => ?_⟩
 show ((a.drewN q).heap ++ os)[k]? = _
 rw [Array.getElem?_append_left (by exact hk)]; rfl
theorem Gr.cell {a b : World} {p : Addr} {v : Value} (h : Gr a b) (hc : a.cell? p = some v) : b.cell? p = some v := (h.below.cell (World.block_lt_of_cell? a _ hc)).trans hc
end Go.Proofs.YtaoichlepfiliaaGreatDoor.Adm
end
