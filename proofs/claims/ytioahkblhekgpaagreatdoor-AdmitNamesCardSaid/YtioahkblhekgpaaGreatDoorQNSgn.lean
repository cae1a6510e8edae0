/- What the proof needs of FltP, FltQ, FltR, FltS, Rnd, Dek, FltA, Ldx, EftP, No, ExpP, Low, All, Xp, Xq, Sgn: only what is used is left (wip/tools/prune.py). Conditions stand in each sentence. -/
import Derived.Laws.BitsLemmas
import Derived.Test.YtioahkblhekgpaaGreatDoorQNWMath
import Derived.Test.YtioahkblhekgpaaGreatDoorQNR0
import Derived.Test.YtioahkblhekgpaaGreatDoorQNR6
import Derived.Test.YtioahkblhekgpaaGreatDoorQNR7
import Derived.Test.YtioahkblhekgpaaGreatDoorQNR8
import Derived.Test.YtioahkblhekgpaaGreatDoorQNEft
import Derived.Test.YtioahkblhekgpaaGreatDoorQNOri
set_option linter.unusedVariables false
set_option linter.unusedSimpArgs false
namespace Go.Proofs.YtioahkblhekgpaaGreatDoor.E
end Go.Proofs.YtioahkblhekgpaaGreatDoor.E
namespace Go.Proofs.YtioahkblhekgpaaGreatDoor.EF
end Go.Proofs.YtioahkblhekgpaaGreatDoor.EF
namespace Go.Proofs.YtioahkblhekgpaaGreatDoor.FltP
end Go.Proofs.YtioahkblhekgpaaGreatDoor.FltP
namespace Go.Proofs.YtioahkblhekgpaaGreatDoor.No
end Go.Proofs.YtioahkblhekgpaaGreatDoor.No
namespace Go.Proofs.YtioahkblhekgpaaGreatDoor.R
end Go.Proofs.YtioahkblhekgpaaGreatDoor.R
namespace Go.Proofs.YtioahkblhekgpaaGreatDoor.Rnd
end Go.Proofs.YtioahkblhekgpaaGreatDoor.Rnd
namespace Go.Proofs.YtioahkblhekgpaaGreatDoorW.PrintLast
end Go.Proofs.YtioahkblhekgpaaGreatDoorW.PrintLast
namespace Go.Proofs.YtioahkblhekgpaaGreatDoorW.PrintMore
end Go.Proofs.YtioahkblhekgpaaGreatDoorW.PrintMore
namespace Go.Proofs.YtioahkblhekgpaaGreatDoorW.PrintWords
end Go.Proofs.YtioahkblhekgpaaGreatDoorW.PrintWords
namespace Go.Proofs.YtioahkblhekgpaaGreatDoor.FltP
set_option exponentiation.threshold 4000
open Go.Proofs.YtioahkblhekgpaaGreatDoorW.PrintWords Ieee
abbrev dbl : Format := Ieee.double
def Fini (b : Nat) : Prop := b % 2 ^ 63 < 2047 * 2 ^ 52 ∧ b < 2 ^ 64
def fmag (b : Nat) : Nat := if b % 2 ^ 63 < 2 ^ 52 then b % 2 ^ 63 else (2 ^ 52 + b % 2 ^ 52) * 2 ^ (b % 2 ^ 63 / 2 ^ 52 - 1)
def fsgn (b : Nat) : Bool := b / 2 ^ 63 % 2 == 1
def fval (b : Nat) : Int := if fsgn b then -(fmag b : Int) else fmag b
def fsig (b : Nat) : Nat := if b % 2 ^ 63 < 2 ^ 52 then b % 2 ^ 63 else 2 ^ 52 + b % 2 ^ 52
def fpl (b : Nat) : Nat := b % 2 ^ 63 / 2 ^ 52 - 1
theorem fmag_sig (b : Nat) : fmag b = fsig b * 2 ^ fpl b := by
  unfold fmag fsig fpl
  split
  · rename_i h; rw [Nat.div_eq_of_lt h]; simp
  · rfl
theorem fsig_lt (b : Nat) : fsig b < 2 ^ 53 := by
  unfold fsig; split <;> omega
theorem read_fin {b : Nat} (h : Fini b) : dbl.read b = .number (fsgn b) (fsig b) (-1074 + fpl b) := by
  have h1 := h.1
  have e1 : dbl.signWeight = 2 ^ 63 := by decide
  have e2 : dbl.binade = 2 ^ 52 := by decide
  have e3 : dbl.infRung = 2047 * 2 ^ 52 := by decide +kernel
  have e4 : dbl.leastPlace = -1074 := by decide +kernel
  unfold Format.read
  simp only [e1, e2, e3, e4]
  unfold fsig fpl fsgn
  split
  · rename_i hlt; rw [Nat.div_eq_of_lt hlt]; simp
  · rw [show b % 2 ^ 63 % 2 ^ 52 = b % 2 ^ 52 from by omega]
theorem read_inf {b : Nat} (h : b % 2 ^ 63 = 2047 * 2 ^ 52) : dbl.read b = .infinity (fsgn b) := by
  have e1 : dbl.signWeight = 2 ^ 63 := by decide
  have e2 : dbl.binade = 2 ^ 52 := by decide
  have e3 : dbl.infRung = 2047 * 2 ^ 52 := by decide +kernel
  unfold Format.read
  simp only [e1, e2, e3]
  rw [if_neg (by omega), if_neg (by omega), if_pos h]; rfl
theorem read_nan {b : Nat} (h : 2047 * 2 ^ 52 < b % 2 ^ 63) : dbl.read b = .nan (fsgn b) (b % 2 ^ 63 - 2047 * 2 ^ 52) := by
  have e1 : dbl.signWeight = 2 ^ 63 := by decide
  have e2 : dbl.binade = 2 ^ 52 := by decide
  have e3 : dbl.infRung = 2047 * 2 ^ 52 := by decide +kernel
  unfold Format.read
  simp only [e1, e2, e3]
  rw [if_neg (by omega), if_neg (by omega), if_neg (by omega)]; rfl
theorem signed_eq (s : Bool) (m k : Nat) : signed s m k = if s then -((m * 2 ^ k : Nat) : Int) else ((m * 2 ^ k : Nat) : Int) := by
  unfold signed; simp [Nat.shiftLeft_eq]
theorem fval_eq (b : Nat) : fval b = signed (fsgn b) (fsig b) (fpl b) := by rw [signed_eq, ← fmag_sig]; rfl
theorem signed_scale (s : Bool) (m k j : Nat) : signed s m (k + j) = signed s m k * 2 ^ j := by
  rw [signed_eq, signed_eq, Nat.pow_add, ← Nat.mul_assoc]
  split <;> simp [Int.neg_mul]
theorem order_fin {x y : Nat} (hx : Fini x) (hy : Fini y) : dbl.order x y = some (compare (fval x) (fval y)) := by
  unfold Format.order
  rw [read_fin hx, read_fin hy]
  simp only [Datum.order]
  rw [fval_eq, fval_eq]
  have key : ∀ (a b : Int) (j : Nat), compare (a * 2 ^ j) (b * 2 ^ j) = compare a b := by
    intro a b j
    have hp : (0 : Int) < 2 ^ j := Int.pow_pos (by omega)
    simp only [compare, compareOfLessAndEq]
    have h1 : a * 2 ^ j < b * 2 ^ j ↔ a < b := ⟨fun h => Int.lt_of_mul_lt_mul_right h (Int.le_of_lt hp), fun h => Int.mul_lt_mul_of_pos_right h hp⟩
    have h2 : a * 2 ^ j = b * 2 ^ j ↔ a = b := ⟨fun h => Int.eq_of_mul_eq_mul_right (by omega) h, fun h => by rw [h]⟩
    simp only [h1, h2]
  rcases Nat.le_total (fpl x) (fpl y) with h | h
  · rw [show min (-1074 + (fpl x : Int)) (-1074 + fpl y) = -1074 + fpl x from by omega]
    rw [show (-1074 + (fpl x : Int) - (-1074 + fpl x)).toNat = 0 from by omega, show (-1074 + (fpl y : Int) - (-1074 + fpl x)).toNat = fpl y - fpl x from by omega]
    rw [← key _ _ (fpl x), ← signed_scale, ← signed_scale]
    rw [show 0 + fpl x = fpl x from by omega, show fpl y - fpl x + fpl x = fpl y from by omega]
  · rw [show min (-1074 + (fpl x : Int)) (-1074 + fpl y) = -1074 + fpl y from by omega]
    rw [show (-1074 + (fpl x : Int) - (-1074 + fpl y)).toNat = fpl x - fpl y from by omega, show (-1074 + (fpl y : Int) - (-1074 + fpl y)).toNat = 0 from by omega]
    rw [← key _ _ (fpl y), ← signed_scale, ← signed_scale]
    rw [show 0 + fpl y = fpl y from by omega, show fpl x - fpl y + fpl y = fpl x from by omega]
def rnd (v : Nat) : Nat :=
  let s := v.log2 - 52
  let q := v / 2 ^ s
  let r := v % 2 ^ s
  (q + (if 2 ^ s < 2 * r ∨ 2 ^ s = 2 * r ∧ q % 2 = 1 then 1 else 0)) * 2 ^ s
theorem cut_even (neg : Bool) (n d : Nat) (hd : d ≤ n.log2 + 2) : Toward.even.cut neg n d = n / 2 ^ d + (if 2 ^ d < 2 * (n % 2 ^ d) ∨ 2 ^ d = 2 * (n % 2 ^ d) ∧ n / 2 ^ d % 2 = 1 then 1 else 0) := by
  unfold Toward.cut
  rw [Nat.min_eq_left hd, Nat.shiftLeft_eq, Nat.one_mul]
  simp only
  congr 1
  by_cases h1 : 2 ^ d < 2 * (n % 2 ^ d)
  · simp [h1]
  · by_cases h2 : 2 ^ d = 2 * (n % 2 ^ d)
    · rw [← h2]; by_cases h3 : n / 2 ^ d % 2 = 1 <;> simp [h3]
    · simp [h1, h2]
theorem log2_shift {m k : Nat} (h : m ≠ 0) : (m * 2 ^ k).log2 = m.log2 + k := by
  induction k with
  | zero => simp
  | succ k ih =>
    rw [Nat.pow_succ, ← Nat.mul_assoc, Nat.mul_comm _ 2, Nat.log2_two_mul (by
      have : 0 < 2 ^ k := Nat.two_pow_pos k
      exact Nat.mul_ne_zero h (by omega)), ih]; omega
theorem rung_back (s kept : Nat) (neg : Bool) (hk : kept ≤ 2 ^ 53) (hs : s = 0 → kept < 2 ^ 53) (hs' : 0 < s → 2 ^ 52 ≤ kept) (hr : kept * 2 ^ s < 2 ^ 2098) :
    Fini (dbl.word neg (min (s * 2 ^ 52 + kept) (2047 * 2 ^ 52))) ∧ fmag (dbl.word neg (min (s * 2 ^ 52 + kept) (2047 * 2 ^ 52))) = kept * 2 ^ s ∧ fsgn (dbl.word neg (min (s * 2 ^ 52 + kept) (2047 * 2 ^ 52))) = neg := by
  have hlt : s * 2 ^ 52 + kept < 2047 * 2 ^ 52 := by
    rcases Nat.eq_zero_or_pos s with h | h
    · subst h; have := hs rfl; omega
    · have h52 := hs' h
      by_cases hb : s ≤ 2044
      · omega
      · by_cases hb2 : 2046 ≤ s
        · exfalso
          have h1 : 2 ^ 52 * 2 ^ 2046 ≤ kept * 2 ^ s := Nat.mul_le_mul h52 (Nat.pow_le_pow_right (by decide) hb2)
          rw [← Nat.pow_add] at h1
          exact absurd hr (Nat.not_lt.2 h1)
        · obtain rfl : s = 2045 := by omega
          by_cases hk2 : kept = 2 ^ 53
          · subst hk2; rw [← Nat.pow_add] at hr; exact absurd hr (Nat.lt_irrefl _)
          · clear hr; omega
  rw [Nat.min_eq_left (Nat.le_of_lt hlt)]
  have e1 : dbl.signWeight = 2 ^ 63 := by decide
  have hm : dbl.word neg (s * 2 ^ 52 + kept) % 2 ^ 63 = s * 2 ^ 52 + kept := by unfold Format.word; rw [e1]; split <;> omega
  have hm2 : dbl.word neg (s * 2 ^ 52 + kept) % 2 ^ 52 = kept % 2 ^ 52 := by unfold Format.word; rw [e1]; split <;> omega
  refine ⟨⟨by rw [hm]; exact hlt, by unfold Format.word; rw [e1]; split <;> omega⟩, ?_, ?_⟩
  · unfold fmag
    rw [hm, hm2]
    rcases Nat.eq_zero_or_pos s with h | h
    · subst h
      have := hs rfl
      split
      · simp
      · rw [show (0 * 2 ^ 52 + kept) / 2 ^ 52 - 1 = 0 from by omega]; simp only [Nat.pow_zero, Nat.mul_one]; omega
    · have h52 := hs' h
      rw [if_neg (by omega)]
      by_cases hk2 : kept = 2 ^ 53
      · subst hk2
        rw [show (s * 2 ^ 52 + 2 ^ 53) / 2 ^ 52 - 1 = s + 1 from by omega, show 2 ^ 52 + 2 ^ 53 % 2 ^ 52 = 2 ^ 52 from by omega, Nat.pow_succ 2 s]
        generalize 2 ^ s = z; omega
      · rw [show (s * 2 ^ 52 + kept) / 2 ^ 52 - 1 = s from by omega, show 2 ^ 52 + kept % 2 ^ 52 = kept from by omega]
  · unfold fsgn Format.word; rw [e1]
    cases neg
    · rw [if_neg (by decide)]; rw [show (s * 2 ^ 52 + kept) / 2 ^ 63 % 2 = 0 from by omega]; rfl
    · rw [if_pos rfl]; rw [show (2 ^ 63 + (s * 2 ^ 52 + kept)) / 2 ^ 63 % 2 = 1 from by omega]; rfl
theorem rnd_shape (v : Nat) (hv : v ≠ 0) : ∃ kept, rnd v = kept * 2 ^ (v.log2 - 52) ∧ kept ≤ 2 ^ 53 ∧ (v.log2 - 52 = 0 → kept < 2 ^ 53) ∧ (0 < v.log2 - 52 → 2 ^ 52 ≤ kept) := by
  refine ⟨_, rfl, ?_, ?_, ?_⟩
  · have h1 : v / 2 ^ (v.log2 - 52) < 2 ^ 53 := by
      rw [Nat.div_lt_iff_lt_mul (Nat.two_pow_pos _), ← Nat.pow_add]
      exact Nat.lt_of_lt_of_le Nat.lt_log2_self (Nat.pow_le_pow_right (by decide) (by omega))
    split <;> omega
  · intro h0
    rw [h0]
    simp only [Nat.pow_zero, Nat.div_one, Nat.mod_one]
    have : v < 2 ^ 53 := Nat.lt_of_lt_of_le Nat.lt_log2_self (Nat.pow_le_pow_right (by decide) (by omega))
    rw [if_neg (by omega)]; exact this
  · intro h0
    have h1 : 2 ^ 52 ≤ v / 2 ^ (v.log2 - 52) := by
      rw [Nat.le_div_iff_mul_le (Nat.two_pow_pos _), ← Nat.pow_add, show 52 + (v.log2 - 52) = v.log2 from by omega]
      exact Nat.log2_self_le hv
    exact Nat.le_trans h1 (Nat.le_add_right _ _)
theorem nearest_val (neg : Bool) (mag k : Nat) (hr : rnd (mag * 2 ^ k) < 2 ^ 2098) :
    Fini (dbl.nearest neg mag (-1074 + k)) ∧ fmag (dbl.nearest neg mag (-1074 + k)) = rnd (mag * 2 ^ k) ∧ fsgn (dbl.nearest neg mag (-1074 + k)) = neg := by
  have e1 : dbl.signWeight = 2 ^ 63 := by decide
  have e2 : dbl.binade = 2 ^ 52 := by decide
  have e3 : dbl.infRung = 2047 * 2 ^ 52 := by decide +kernel
  have e4 : dbl.leastPlace = -1074 := by decide +kernel
  have e5 : dbl.fractionBits = 52 := rfl
  by_cases h0 : mag = 0
  · subst h0
    unfold Format.nearest Format.word
    rw [if_pos rfl, e1]
    have : rnd 0 = 0 := by decide
    rw [Nat.zero_mul, this]
    cases neg
    · exact ⟨⟨by decide, by decide⟩, by decide, by decide⟩
    · exact ⟨⟨by decide, by decide⟩, by decide, by decide⟩
  have hv : mag * 2 ^ k ≠ 0 := Nat.mul_ne_zero h0 (by have := Nat.two_pow_pos k; omega)
  obtain ⟨kept, hk, hk1, hk2, hk3⟩ := rnd_shape (mag * 2 ^ k) hv
  have hl := log2_shift (k := k) h0
  rw [hk] at hr ⊢
  have hw : dbl.nearest neg mag (-1074 + k) = dbl.word neg (min (((mag * 2 ^ k).log2 - 52) * 2 ^ 52 + kept) (2047 * 2 ^ 52)) := by
    unfold Format.nearest
    rw [if_neg h0]
    simp only [e2, e3, e4, e5]
    have hlast : max (-1074 + (k : Int) + mag.log2 - (52 : Nat)) (-1074) = -1074 + (((mag * 2 ^ k).log2 - 52 : Nat) : Int) := by rw [hl]; omega
    rw [hlast]
    rw [show (-1074 + (((mag * 2 ^ k).log2 - 52 : Nat) : Int) - -1074).toNat = (mag * 2 ^ k).log2 - 52 from by omega]
    congr 3
    have hpos := Nat.two_pow_pos ((mag * 2 ^ k).log2 - 52)
    apply Nat.eq_of_mul_eq_mul_right hpos
    rw [← hk]
    rcases Nat.le_total ((mag * 2 ^ k).log2 - 52) k with hle | hle
    · 
      rw [show (-1074 + (k : Int) - (-1074 + (((mag * 2 ^ k).log2 - 52 : Nat) : Int))).toNat = k - ((mag * 2 ^ k).log2 - 52) from by omega]
      rw [show (-1074 + (((mag * 2 ^ k).log2 - 52 : Nat) : Int) - (-1074 + (k : Int))).toNat = 0 from by omega]
      rw [cut_even _ _ _ (by omega), Nat.shiftLeft_eq]
      unfold rnd
      generalize hs : (mag * 2 ^ k).log2 - 52 = s at *
      have hd : mag * 2 ^ k = mag * 2 ^ (k - s) * 2 ^ s := by rw [Nat.mul_assoc, ← Nat.pow_add, Nat.sub_add_cancel hle]
      rw [hd]
      simp only [Nat.pow_zero, Nat.div_one, Nat.mod_one, Nat.mul_div_cancel _ (Nat.two_pow_pos s), Nat.mul_mod_left]
      have := Nat.two_pow_pos s
      rw [if_neg (by omega), if_neg (by omega)]
    · rw [show (-1074 + (k : Int) - (-1074 + (((mag * 2 ^ k).log2 - 52 : Nat) : Int))).toNat = 0 from by omega]
      rw [show (-1074 + (((mag * 2 ^ k).log2 - 52 : Nat) : Int) - (-1074 + (k : Int))).toNat = (mag * 2 ^ k).log2 - 52 - k from by omega]
      rw [Nat.shiftLeft_eq, Nat.pow_zero, Nat.mul_one]
      rw [cut_even _ _ _ (by rw [hl]; omega)]
      unfold rnd
      generalize hs : (mag * 2 ^ k).log2 - 52 = s at *
      obtain ⟨d, rfl⟩ : ∃ d, s = d + k := ⟨s - k, by omega⟩
      rw [Nat.add_sub_cancel]
      have hkp := Nat.two_pow_pos k
      have hq : mag * 2 ^ k / 2 ^ (d + k) = mag / 2 ^ d := by rw [Nat.pow_add]; exact Nat.mul_div_mul_right _ _ hkp
      have hm : mag * 2 ^ k % 2 ^ (d + k) = mag % 2 ^ d * 2 ^ k := by rw [Nat.pow_add]; exact Nat.mul_mod_mul_right _ _ _
      simp only [hq, hm]
      congr 2
      have a1 : 2 ^ (d + k) < 2 * (mag % 2 ^ d * 2 ^ k) ↔ 2 ^ d < 2 * (mag % 2 ^ d) := by
        rw [Nat.pow_add, ← Nat.mul_assoc]
        exact ⟨fun h => Nat.lt_of_mul_lt_mul_right h, fun h => Nat.mul_lt_mul_of_pos_right h hkp⟩
      have a2 : 2 ^ (d + k) = 2 * (mag % 2 ^ d * 2 ^ k) ↔ 2 ^ d = 2 * (mag % 2 ^ d) := by
        rw [Nat.pow_add, ← Nat.mul_assoc]
        exact ⟨fun h => Nat.eq_of_mul_eq_mul_right hkp h, fun h => congrArg (· * 2 ^ k) h⟩
      simp only [a1, a2]
  rw [hw]
  exact rung_back _ kept neg hk1 hk2 hk3 hr
theorem rnd_exact {v m e : Nat} (hv : v = m * 2 ^ e) (hm : m < 2 ^ 53) : rnd v = v := by
  by_cases h0 : v = 0
  · rw [h0]; decide
  have hs : v.log2 - 52 ≤ e := by
    have hm0 : m ≠ 0 := by intro h; rw [h] at hv; simp at hv; exact h0 hv
    have : v.log2 = m.log2 + e := by rw [hv]; exact log2_shift hm0
    have : m.log2 < 53 := (Nat.log2_lt hm0).2 hm
    omega
  unfold rnd
  have hd : 2 ^ (v.log2 - 52) ∣ v := by
    rw [hv] at hs ⊢
    exact Nat.dvd_trans (Nat.pow_dvd_pow 2 hs) (Nat.dvd_mul_left _ _)
  have hmod : v % 2 ^ (v.log2 - 52) = 0 := Nat.mod_eq_zero_of_dvd hd
  simp only [hmod]
  have := Nat.two_pow_pos (v.log2 - 52)
  rw [if_neg (by omega), Nat.add_zero]
  exact Nat.div_mul_cancel hd
theorem rnd_two (v : Nat) : rnd (2 * v) = 2 * rnd v := by
  by_cases h0 : v = 0
  · subst h0; decide
  · by_cases h : v.log2 < 52
    · have hv : v < 2 ^ 52 := (Nat.log2_lt h0).1 h
      rw [rnd_exact (v := v) (m := v) (e := 0) (by simp) (by omega), rnd_exact (v := 2 * v) (m := 2 * v) (e := 0) (by simp) (by omega)]
    · have key : ∀ q r S : Nat, (q + (if 2 * S < 2 * (2 * r) ∨ 2 * S = 2 * (2 * r) ∧ q % 2 = 1 then 1 else 0)) * (2 * S) = 2 * ((q + (if S < 2 * r ∨ S = 2 * r ∧ q % 2 = 1 then 1 else 0)) * S) := by
        intro q r S
        by_cases c : S < 2 * r ∨ S = 2 * r ∧ q % 2 = 1
        · rw [if_pos c, if_pos (by omega), Nat.mul_left_comm]
        · rw [if_neg c, if_neg (by omega), Nat.mul_left_comm]
      have hk := key (v / 2 ^ (v.log2 - 52)) (v % 2 ^ (v.log2 - 52)) (2 ^ (v.log2 - 52))
      have e1 : 2 * v / 2 ^ (v.log2 - 52 + 1) = v / 2 ^ (v.log2 - 52) := by rw [Nat.pow_succ, Nat.mul_comm _ 2]; exact Nat.mul_div_mul_left _ _ (by decide)
      have e2 : 2 * v % 2 ^ (v.log2 - 52 + 1) = 2 * (v % 2 ^ (v.log2 - 52)) := by rw [Nat.pow_succ, Nat.mul_comm _ 2]; exact Nat.mul_mod_mul_left _ _ _
      have e3 : 2 ^ (v.log2 - 52 + 1) = 2 * 2 ^ (v.log2 - 52) := by rw [Nat.pow_succ]; omega
      show _ = 2 * ((v / 2 ^ (v.log2 - 52) + (if 2 ^ (v.log2 - 52) < 2 * (v % 2 ^ (v.log2 - 52)) ∨ 2 ^ (v.log2 - 52) = 2 * (v % 2 ^ (v.log2 - 52)) ∧ v / 2 ^ (v.log2 - 52) % 2 = 1 then 1 else 0)) * 2 ^ (v.log2 - 52))
      rw [← hk]
      show (2 * v / 2 ^ ((2 * v).log2 - 52) + (if 2 ^ ((2 * v).log2 - 52) < 2 * (2 * v % 2 ^ ((2 * v).log2 - 52)) ∨ 2 ^ ((2 * v).log2 - 52) = 2 * (2 * v % 2 ^ ((2 * v).log2 - 52)) ∧ 2 * v / 2 ^ ((2 * v).log2 - 52) % 2 = 1 then 1 else 0)) * 2 ^ ((2 * v).log2 - 52) = _
      have e0 : (2 * v).log2 - 52 = v.log2 - 52 + 1 := by rw [Nat.log2_two_mul h0]; omega
      rw [e0, e1, e2, e3]
end Go.Proofs.YtioahkblhekgpaaGreatDoor.FltP
namespace Go.Proofs.YtioahkblhekgpaaGreatDoor.FltP
set_option exponentiation.threshold 4000
open Go.RowKit Go.Proofs.YtioahkblhekgpaaGreatDoor.R Go.Proofs.YtioahkblhekgpaaGreatDoorW.PrintWords Go.Proofs.YtioahkblhekgpaaGreatDoorW.PrintLast Go.Proofs.YtioahkblhekgpaaGreatDoorW.PrintMore Ieee
theorem fmt_eq : FloatKind.f64.format = dbl := rfl
theorem fval_nonneg {b : Nat} (h : b < 2 ^ 63) : fval b = fmag b := by unfold fval fsgn; rw [show b / 2 ^ 63 % 2 = 0 from by omega]; rfl
theorem Fini.pos {b : Nat} (h : Fini b) : Fini (b % 2 ^ 63) := ⟨by have := h.1; omega, by omega⟩
theorem fmag_pos (b : Nat) : fmag (b % 2 ^ 63) = fmag b := by unfold fmag; rw [Nat.mod_mod, show b % 2 ^ 63 % 2 ^ 52 = b % 2 ^ 52 from by omega]
theorem natAbs_fval (b : Nat) : (fval b).natAbs = fmag b := by unfold fval; split <;> omega
theorem fval_zero_iff (b : Nat) : fval b = 0 ↔ fmag b = 0 := by unfold fval; split <;> omega
theorem Fini.fpl_le {b : Nat} (h : Fini b) : fpl b ≤ 2045 := by have := h.1; unfold fpl; omega
theorem Fini.lt {b : Nat} (h : Fini b) : fmag b < 2 ^ 2098 := by
  rw [fmag_sig]
  have h1 := fsig_lt b
  have h2 := h.fpl_le
  have h3 : fsig b * 2 ^ fpl b < 2 ^ 53 * 2 ^ fpl b := Nat.mul_lt_mul_of_pos_right h1 (Nat.two_pow_pos _)
  rw [← Nat.pow_add] at h3
  exact Nat.lt_of_lt_of_le h3 (Nat.pow_le_pow_right (by decide) (by omega))
theorem abs_some {x : Nat} (h : x < 2 ^ 64) : math_Abs.f x = some (x % 2 ^ 63) := by
  unfold math_Abs.f fof fbits
  have : bits .andNot .u64 (x : Int) 9223372036854775808 = (x : Int) % 9223372036854775808 := by
    have h0 : (0 : Int) ≤ x := by omega
    have h1 : (x : Int) < 18446744073709551616 := by omega
    generalize (x : Int) = a at *
    go_bits2
  rw [this]; congr 1
theorem fneg_eq {x : Nat} (h : x < 2 ^ 64) : fneg x = x % 2 ^ 63 + (1 - x / 2 ^ 63) * 2 ^ 63 := by
  have e : fneg x = x ^^^ 2 ^ 63 := by unfold fneg Op.negFloat; rfl
  have e1 : (x ^^^ 2 ^ 63) % 2 ^ 63 = x % 2 ^ 63 := by rw [Nat.xor_mod_two_pow]; simp
  have e2 : (x ^^^ 2 ^ 63) / 2 ^ 63 = x / 2 ^ 63 ^^^ 1 := by rw [Nat.xor_div_two_pow]
  have e3 : x / 2 ^ 63 ^^^ 1 = 1 - x / 2 ^ 63 := by
    have : x / 2 ^ 63 = 0 ∨ x / 2 ^ 63 = 1 := by omega
    rcases this with h | h <;> rw [h] <;> rfl
  rw [e, ← Nat.mod_add_div (x ^^^ 2 ^ 63) (2 ^ 63), e1, e2, e3, Nat.mul_comm]
theorem Fini.neg {x : Nat} (h : Fini x) : Fini (fneg x) := by
  have h2 := h.2
  have h1 := h.1
  rw [fneg_eq h2]
  exact ⟨by omega, by omega⟩
theorem fmag_neg {x : Nat} (h : Fini x) : fmag (fneg x) = fmag x := by
  have h2 := h.2
  rw [fneg_eq h2]
  unfold fmag
  rw [show (x % 2 ^ 63 + (1 - x / 2 ^ 63) * 2 ^ 63) % 2 ^ 63 = x % 2 ^ 63 from by omega, show (x % 2 ^ 63 + (1 - x / 2 ^ 63) * 2 ^ 63) % 2 ^ 52 = x % 2 ^ 52 from by omega]
theorem fval_neg {x : Nat} (h : Fini x) : fval (fneg x) = -fval x := by
  have hm := fmag_neg h
  have h2 := h.2
  have hs : fsgn (fneg x) = !fsgn x := by
    rw [fneg_eq h2]
    unfold fsgn
    have : x / 2 ^ 63 = 0 ∨ x / 2 ^ 63 = 1 := by omega
    rcases this with h | h
    · rw [show (x % 2 ^ 63 + (1 - x / 2 ^ 63) * 2 ^ 63) / 2 ^ 63 % 2 = 1 from by omega, h]; rfl
    · rw [show (x % 2 ^ 63 + (1 - x / 2 ^ 63) * 2 ^ 63) / 2 ^ 63 % 2 = 0 from by omega, h]; rfl
  unfold fval
  rw [hs, hm]
  cases fsgn x <;> simp
theorem mul_val {x y : Nat} (hx : Fini x) (hy : Fini y) (hpl : 1074 ≤ fpl x + fpl y ∨ fsig x * fsig y = 0) (hr : rnd (fsig x * fsig y * 2 ^ (fpl x + fpl y - 1074)) < 2 ^ 2098) :
    ∃ r, floatBits .mul .f64 x y = some r ∧ Fini r ∧ fmag r = rnd (fsig x * fsig y * 2 ^ (fpl x + fpl y - 1074)) ∧ fsgn r = (fsgn x ^^ fsgn y) := by
  unfold floatBits
  simp only [fmt_eq, Format.mul, read_fin hx, read_fin hy, Datum.product, Option.map_some, Format.write]
  refine ⟨_, rfl, ?_⟩
  rcases hpl with h | h
  · rw [show (-1074 + (fpl x : Int) + (-1074 + fpl y)) = -1074 + ((fpl x + fpl y - 1074 : Nat) : Int) from by omega]
    exact nearest_val _ _ _ hr
  · rw [h]
    have := nearest_val (fsgn x ^^ fsgn y) 0 (fpl x + fpl y - 1074) (by rw [h] at hr; exact hr)
    unfold Format.nearest at this ⊢
    simp only [if_true] at this ⊢
    exact this
theorem cut_zero (neg : Bool) (n d : Nat) : Toward.zero.cut neg n d = n / 2 ^ d := by
  unfold Toward.cut
  simp only [Bool.toNat_false, Nat.add_zero, Nat.shiftLeft_eq, Nat.one_mul]
  rcases Nat.le_total d (n.log2 + 2) with h | h
  · rw [Nat.min_eq_left h]
  · rw [Nat.min_eq_right h, Nat.div_eq_of_lt, Nat.div_eq_of_lt]
    · exact Nat.lt_of_lt_of_le Nat.lt_log2_self (Nat.pow_le_pow_right (by decide) (by omega))
    · exact Nat.lt_of_lt_of_le Nat.lt_log2_self (Nat.pow_le_pow_right (by decide) (by omega))
theorem trunc_val {x : Nat} (hx : Fini x) : ∃ r, math_Trunc.f x = some r ∧ Fini r ∧ fmag r = fmag x / 2 ^ 1074 * 2 ^ 1074 ∧ fsgn r = fsgn x := by
  have hd : FloatKind.f64.decode x = .number (fsgn x) (fsig x) (-1074 + fpl x) := read_fin hx
  have hlt := hx.lt
  have hT : fsig x <<< (-1074 + (fpl x : Int)).toNat / 2 ^ (-(-1074 + (fpl x : Int))).toNat * 2 ^ 1074 = fmag x / 2 ^ 1074 * 2 ^ 1074 := by
    congr 1
    rw [Nat.shiftLeft_eq, fmag_sig]
    rcases Nat.le_total 1074 (fpl x) with h | h
    · rw [show (-1074 + (fpl x : Int)).toNat = fpl x - 1074 from by omega, show (-(-1074 + (fpl x : Int))).toNat = 0 from by omega, Nat.pow_zero, Nat.div_one]
      conv => rhs; rw [show fpl x = fpl x - 1074 + 1074 from by omega, Nat.pow_add, ← Nat.mul_assoc]
      rw [Nat.mul_div_cancel _ (Nat.two_pow_pos _)]
    · rw [show (-1074 + (fpl x : Int)).toNat = 0 from by omega, show (-(-1074 + (fpl x : Int))).toNat = 1074 - fpl x from by omega, Nat.pow_zero, Nat.mul_one]
      conv => rhs; rw [show 1074 = 1074 - fpl x + fpl x from by omega, Nat.pow_add]
      rw [Nat.mul_div_mul_right _ _ (Nat.two_pow_pos _)]
  have hsm : ∃ m e, fmag x / 2 ^ 1074 * 2 ^ 1074 = m * 2 ^ e ∧ m < 2 ^ 53 := by
    rw [fmag_sig]
    have hs := fsig_lt x
    rcases Nat.le_total 1074 (fpl x) with h | h
    · refine ⟨fsig x, fpl x, ?_, hs⟩
      exact Nat.div_mul_cancel (Nat.dvd_trans (Nat.pow_dvd_pow 2 h) (Nat.dvd_mul_left _ _))
    · refine ⟨fsig x * 2 ^ fpl x / 2 ^ 1074, 1074, rfl, ?_⟩
      rw [Nat.div_lt_iff_lt_mul (Nat.two_pow_pos _)]
      exact Nat.mul_lt_mul_of_lt_of_le hs (Nat.pow_le_pow_right (by decide) h) (Nat.two_pow_pos _)
  obtain ⟨m, e, hme, hm⟩ := hsm
  have hrnd := rnd_exact hme hm
  have hle : fmag x / 2 ^ 1074 * 2 ^ 1074 ≤ fmag x := Nat.div_mul_le_self _ _
  have hn := nearest_val (fsgn x) (fsig x <<< (-1074 + (fpl x : Int)).toNat / 2 ^ (-(-1074 + (fpl x : Int))).toNat) 1074 (by rw [hT, hrnd]; exact Nat.lt_of_le_of_lt hle hlt)
  rw [hT, hrnd] at hn
  refine ⟨_, ?_, hn⟩
  unfold math_Trunc.f ftrunc
  rw [hd]
  simp only [Datum.integral, cut_zero]
  rfl
end Go.Proofs.YtioahkblhekgpaaGreatDoor.FltP
namespace Go.Proofs.YtioahkblhekgpaaGreatDoor.FltP
set_option exponentiation.threshold 4000
open Go.RowKit Go.Proofs.YtioahkblhekgpaaGreatDoor.R Go.Proofs.YtioahkblhekgpaaGreatDoorW.PrintWords Go.Proofs.YtioahkblhekgpaaGreatDoorW.PrintLast Go.Proofs.YtioahkblhekgpaaGreatDoorW.PrintMore Ieee
def GoodF (x : Nat) : Prop := Fini x ∧ fmag x ≤ 2 ^ 1174 ∧ 2 ^ 974 ∣ fmag x
instance (x : Nat) : Decidable (Fini x) := inferInstanceAs (Decidable (_ ∧ _))
instance (x : Nat) : Decidable (GoodF x) := inferInstanceAs (Decidable (_ ∧ _ ∧ _))
def goodB (x : Nat) : Bool := decide (GoodF x)
theorem order_nan_l {x : Nat} (h : 2047 * 2 ^ 52 < x % 2 ^ 63) (y : Nat) : FloatKind.f64.format.order x y = none := by
  rw [fmt_eq]; unfold Format.order; rw [read_nan h]; rfl
theorem order_inf_fin {x y : Nat} (h : x % 2 ^ 63 = 2047 * 2 ^ 52) (hy : Fini y) : FloatKind.f64.format.order x y = some (if fsgn x then .lt else .gt) := by
  rw [fmt_eq]; unfold Format.order; rw [read_inf h, read_fin hy]; rfl
theorem cls (x : Nat) (h : x < 2 ^ 64) : Fini x ∨ x % 2 ^ 63 = 2047 * 2 ^ 52 ∨ 2047 * 2 ^ 52 < x % 2 ^ 63 := by
  unfold Fini; omega
theorem big_fin : Fini 5057542381537067008 ∧ fmag 5057542381537067008 = 2 ^ 1174 ∧ fsig 5057542381537067008 = 2 ^ 52 ∧ fpl 5057542381537067008 = 1122 ∧ fsgn 5057542381537067008 = false := by
  refine ⟨⟨by decide, by decide⟩, ?_, by decide, by decide, by decide⟩
  rw [fmag_sig, show fsig 5057542381537067008 = 2 ^ 52 from by decide, show fpl 5057542381537067008 = 1122 from by decide, ← Nat.pow_add]
theorem cmp_lt {a b : Int} : (compare a b == Ordering.lt) = decide (a < b) := by
  simp only [compare, compareOfLessAndEq]; split
  · simp; omega
  · split
    · simp; omega
    · simp; omega
theorem cmp_eq {a b : Int} : (compare a b == Ordering.eq) = decide (a = b) := by
  simp only [compare, compareOfLessAndEq]; split
  · simp; omega
  · split <;> simp_all
theorem cmp_gt {a b : Int} : (compare a b == Ordering.gt) = decide (b < a) := by
  simp only [compare, compareOfLessAndEq]; split
  · simp; omega
  · split
    · simp; omega
    · simp; omega
theorem some_beq (a b : Ordering) : (some a == some b) = (a == b) := rfl
theorem lt_fin {x y : Nat} (hx : Fini x) (hy : Fini y) : (FloatKind.f64.format.order x y == some .lt) = decide (fval x < fval y) := by rw [fmt_eq]; rw [order_fin hx hy, some_beq, cmp_lt]
theorem eq_fin {x y : Nat} (hx : Fini x) (hy : Fini y) : (FloatKind.f64.format.order x y == some .eq) = decide (fval x = fval y) := by rw [fmt_eq]; rw [order_fin hx hy, some_beq, cmp_eq]
theorem gt_fin {x y : Nat} (hx : Fini x) (hy : Fini y) : (FloatKind.f64.format.order x y == some .gt) = decide (fval y < fval x) := by rw [fmt_eq]; rw [order_fin hx hy, some_beq, cmp_gt]
theorem coordinate_some {x : Nat} (h : x < 2 ^ 64) : admit_coordinate.f x = some (goodB x) := by
  unfold admit_coordinate.f
  rw [abs_some h]
  simp only [Option.bind_some]
  obtain ⟨b1, b2, b3, b4, b5⟩ := big_fin
  have bv : fval 5057542381537067008 = ((2 ^ 1174 : Nat) : Int) := by rw [fval_nonneg (by decide), b2]
  rcases cls x h with hf | hi | hn
  · have hcond : ((FloatKind.f64.format.order (x % 2 ^ 63) 5057542381537067008 == some .lt || FloatKind.f64.format.order (x % 2 ^ 63) 5057542381537067008 == some .eq) = true) ↔ fmag x ≤ 2 ^ 1174 := by
      rw [lt_fin hf.pos b1, eq_fin hf.pos b1, bv, fval_nonneg (b := x % 2 ^ 63) (by omega), fmag_pos]
      simp only [Bool.or_eq_true, decide_eq_true_eq]
      generalize 2 ^ 1174 = z; omega
    by_cases hle : fmag x ≤ 2 ^ 1174
    · rw [if_pos (hcond.2 hle)]
      have hex : fsig x * fsig 5057542381537067008 * 2 ^ (fpl x + fpl 5057542381537067008 - 1074) = fmag x * 2 ^ 100 := by
        rw [b3, b4, fmag_sig, Nat.mul_assoc, Nat.mul_assoc, ← Nat.pow_add, ← Nat.pow_add, show 52 + (fpl x + 1122 - 1074) = fpl x + 100 from by omega]
      have hrn : rnd (fmag x * 2 ^ 100) = fmag x * 2 ^ 100 := rnd_exact (m := fsig x) (e := fpl x + 100) (by rw [fmag_sig, Nat.mul_assoc, ← Nat.pow_add]) (fsig_lt x)
      have hsm : fmag x * 2 ^ 100 < 2 ^ 2098 := by
        have := Nat.mul_le_mul_right (2 ^ 100) hle
        rw [← Nat.pow_add] at this
        exact Nat.lt_of_le_of_lt this (Nat.pow_lt_pow_right (by decide) (by omega))
      obtain ⟨r, e1, e2, e3, e4⟩ := mul_val hf b1 (.inl (by rw [b4]; omega)) (by rw [hex, hrn]; exact hsm)
      rw [hex, hrn] at e3
      rw [b5, Bool.xor_false] at e4
      rw [e1]; simp only [Option.bind_some]
      obtain ⟨t, e5, e6, e7, e8⟩ := trunc_val e2
      rw [e5]; simp only [Option.bind_some]
      rw [eq_fin e2 e6]
      refine congrArg some (decide_eq_decide.2 ?_)
      have key : fval r = fval t ↔ fmag r = fmag t := by
        unfold fval; rw [e8]; cases fsgn r <;> simp <;> omega
      rw [key, e7, e3]
      have hd : fmag x * 2 ^ 100 = fmag x * 2 ^ 100 / 2 ^ 1074 * 2 ^ 1074 ↔ 2 ^ 1074 ∣ fmag x * 2 ^ 100 := ⟨fun h => ⟨_, h.trans (Nat.mul_comm _ _)⟩, fun h => (Nat.div_mul_cancel h).symm⟩
      rw [hd]
      constructor
      · intro hdv
        refine ⟨hf, hle, ?_⟩
        rw [show 1074 = 974 + 100 from rfl, Nat.pow_add] at hdv
        exact Nat.dvd_of_mul_dvd_mul_right (Nat.two_pow_pos _) hdv
      · intro hg
        rw [show 1074 = 974 + 100 from rfl, Nat.pow_add]
        exact Nat.mul_dvd_mul_right hg.2.2 _
    · rw [if_neg (fun h => hle (hcond.1 h))]
      exact congrArg some (decide_eq_false (fun hg : GoodF x => hle hg.2.1)).symm
  · have hp : x % 2 ^ 63 % 2 ^ 63 = 2047 * 2 ^ 52 := by rw [Nat.mod_mod]; exact hi
    have hs : fsgn (x % 2 ^ 63) = false := by unfold fsgn; rw [show x % 2 ^ 63 / 2 ^ 63 % 2 = 0 from by omega]; rfl
    rw [if_neg (by rw [order_inf_fin hp b1, hs]; decide)]
    exact congrArg some (decide_eq_false (fun hg : GoodF x => by have := hg.1.1; omega)).symm
  · have hp : 2047 * 2 ^ 52 < x % 2 ^ 63 % 2 ^ 63 := by rw [Nat.mod_mod]; exact hn
    rw [if_neg (by rw [order_nan_l hp]; decide)]
    exact congrArg some (decide_eq_false (fun hg : GoodF x => by have := hg.1.1; omega)).symm
theorem may_some {x y : Nat} (hx : x < 2 ^ 64) (hy : y < 2 ^ 64) : admit_May.f x y = some (goodB x && goodB y) := by
  unfold admit_May.f
  rw [coordinate_some hx]; simp only [Option.bind_some]
  cases hb : goodB x
  · rw [if_neg (by decide)]; rfl
  · rw [if_pos rfl, coordinate_some hy]; rfl
def sgn3 (a b : Int) : Int := if a < b then -1 else if b < a then 1 else 0
theorem compare_some {x y : Nat} (hx : Fini x) (hy : Fini y) : cmp_Compare_float64.f x y = some (sgn3 (fval x) (fval y)) := by
  unfold cmp_Compare_float64.f cmp_isNaN_float64.f
  simp only [Option.bind_some]
  have h1 : (FloatKind.f64.format.order x x != some .eq) = false := by rw [bne, eq_fin hx hx]; simp
  have h2 : (FloatKind.f64.format.order y y != some .eq) = false := by rw [bne, eq_fin hy hy]; simp
  rw [if_neg (by rw [h1]; decide), if_neg (by rw [h2]; decide)]
  unfold sgn3
  by_cases a : fval x < fval y
  · rw [if_pos (by rw [lt_fin hx hy]; simpa using a), if_pos a]
  · rw [if_neg (by rw [lt_fin hx hy]; simpa using a), if_neg a]
    by_cases b : fval y < fval x
    · rw [if_pos (by rw [gt_fin hx hy]; simpa using b), if_pos b]
    · rw [if_neg (by rw [gt_fin hx hy]; simpa using b), if_neg b]
def hold (px py qx qy : Nat) : Int := if sgn3 (fval px) (fval qx) = 0 then sgn3 (fval py) (fval qy) else sgn3 (fval px) (fval qx)
theorem w64' {a b : Int} (h : a = b) (h1 : -9223372036854775808 ≤ b) (h2 : b ≤ 9223372036854775807) : wrap64 a = b := by subst h; unfold wrap64; omega
theorem or_ev (a b : Int) : Ev (fun k => cmp_Or_int.f k [a, b]) (if a = 0 then b else a) := by
  refine Ev.congr (f := fun k => cmp_Or_int.l0 k 0 [a, b] 2 0) (fun k => by unfold cmp_Or_int.f; rfl) ?_
  by_cases ha : a = 0
  · rw [if_pos ha]
    refine Ev.step (f := fun k => cmp_Or_int.l0 k 0 [a, b] 2 1) (fun k => ?_) ?_
    · simp only [cmp_Or_int.l0]
      rw [if_pos (by omega), if_pos (by omega), if_pos (by simp), if_pos (by simpa [rd] using ha), show wrap64 (0 + 1) = 1 from w64' rfl (by omega) (by omega)]
    · by_cases hb : b = 0
      · subst hb
        refine Ev.step (f := fun k => cmp_Or_int.l0 k 0 [a, 0] 2 2) (fun k => ?_) (Ev.step (f := fun _ => some 0) (fun k => ?_) (Ev.now _))
        · simp only [cmp_Or_int.l0]
          rw [if_pos (by omega), if_pos (by omega), if_pos (by simp), if_pos (by simp [rd]), show wrap64 (1 + 1) = 2 from w64' rfl (by omega) (by omega)]
        · simp only [cmp_Or_int.l0]
          rw [if_neg (by omega)]
      · refine Ev.step (f := fun _ => some b) (fun k => ?_) (Ev.now _)
        simp only [cmp_Or_int.l0]
        rw [if_pos (by omega), if_pos (by omega), if_pos (by simp), if_neg (by simpa [rd] using hb)]
        rfl
  · rw [if_neg ha]
    refine Ev.step (f := fun _ => some a) (fun k => ?_) (Ev.now _)
    simp only [cmp_Or_int.l0]
    rw [if_pos (by omega), if_pos (by omega), if_pos (by simp), if_neg (by simpa [rd] using ha)]
    rfl
theorem hold_ev {px py qx qy : Nat} (h1 : Fini px) (h2 : Fini py) (h3 : Fini qx) (h4 : Fini qy) : Ev (fun k => admit_hold.f k px py qx qy) (hold px py qx qy) := by
  refine Ev.congr (f := fun k => (cmp_Or_int.f k [sgn3 (fval px) (fval qx), sgn3 (fval py) (fval qy)]).bind fun t => some t) (fun k => ?_) (Ev.bind (or_ev _ _) (Ev.now _))
  unfold admit_hold.f
  rw [compare_some h1 h3, compare_some h2 h4]; rfl
theorem goodB_fin {x : Nat} (h : goodB x = true) : Fini x := (of_decide_eq_true h).1
theorem cmp_ev' {px py qx qy : Nat} (h1 : px < 2 ^ 64) (h2 : py < 2 ^ 64) (h3 : qx < 2 ^ 64) (h4 : qy < 2 ^ 64) :
    Ev (fun k => admit_Cmp.f k px py qx qy) (if (goodB px && goodB py) = true ∧ (goodB qx && goodB qy) = true then hold px py qx qy else 0) := by
  by_cases hp : (goodB px && goodB py) = true
  · by_cases hq : (goodB qx && goodB qy) = true
    · rw [if_pos ⟨hp, hq⟩]
      simp only [Bool.and_eq_true] at hp hq
      refine Ev.congr (f := fun k => (admit_hold.f k px py qx qy).bind fun t => some t) (fun k => ?_) (Ev.bind (hold_ev (goodB_fin hp.1) (goodB_fin hp.2) (goodB_fin hq.1) (goodB_fin hq.2)) (Ev.now _))
      unfold admit_Cmp.f
      rw [may_some h1 h2, may_some h3 h4, hp.1, hp.2, hq.1, hq.2]; rfl
    · rw [if_neg (fun h => hq h.2)]
      refine Ev.congr (f := fun _ => some 0) (fun k => ?_) (Ev.now _)
      unfold admit_Cmp.f
      rw [may_some h1 h2, may_some h3 h4]
      simp only [Option.bind_some]
      rw [if_pos hp, if_neg hq]
  · rw [if_neg (fun h => hp h.1)]
    refine Ev.congr (f := fun _ => some 0) (fun k => ?_) (Ev.now _)
    unfold admit_Cmp.f
    rw [may_some h1 h2]
    simp only [Option.bind_some]
    rw [if_neg hp]
end Go.Proofs.YtioahkblhekgpaaGreatDoor.FltP
namespace Go.Proofs.YtioahkblhekgpaaGreatDoor.FltP
set_option exponentiation.threshold 4000
open Go.RowKit Go.Proofs.YtioahkblhekgpaaGreatDoor.R Go.Proofs.YtioahkblhekgpaaGreatDoorW.PrintWords Go.Proofs.YtioahkblhekgpaaGreatDoorW.PrintLast Go.Proofs.YtioahkblhekgpaaGreatDoorW.PrintMore Ieee
theorem toInt_val {x : Nat} (hx : Fini x) : (FloatKind.f64.decode x).toInt .zero = some (if fsgn x then -((fmag x / 2 ^ 1074 : Nat) : Int) else ((fmag x / 2 ^ 1074 : Nat) : Int)) := by
  have hd : FloatKind.f64.decode x = .number (fsgn x) (fsig x) (-1074 + fpl x) := read_fin hx
  rw [hd]
  have hT : fsig x <<< (-1074 + (fpl x : Int)).toNat / 2 ^ (-(-1074 + (fpl x : Int))).toNat = fmag x / 2 ^ 1074 := by
    rw [Nat.shiftLeft_eq, fmag_sig]
    rcases Nat.le_total 1074 (fpl x) with h | h
    · rw [show (-1074 + (fpl x : Int)).toNat = fpl x - 1074 from by omega, show (-(-1074 + (fpl x : Int))).toNat = 0 from by omega, Nat.pow_zero, Nat.div_one]
      conv => rhs; rw [show fpl x = fpl x - 1074 + 1074 from by omega, Nat.pow_add, ← Nat.mul_assoc]
      rw [Nat.mul_div_cancel _ (Nat.two_pow_pos _)]
    · rw [show (-1074 + (fpl x : Int)).toNat = 0 from by omega, show (-(-1074 + (fpl x : Int))).toNat = 1074 - fpl x from by omega, Nat.pow_zero, Nat.mul_one]
      conv => rhs; rw [show 1074 = 1074 - fpl x + fpl x from by omega, Nat.pow_add]
      rw [Nat.mul_div_mul_right _ _ (Nat.two_pow_pos _)]
  simp only [Datum.toInt, Datum.integral, cut_zero, hT]
  rw [signed_eq]; simp
theorem mask_exp {a : Nat} (h : a < 2 ^ 63) : bits .andNot .u64 (fbits a) 9218868437227405312 = ((a % 2 ^ 52 : Nat) : Int) := by
  have e : (BitVec.ofInt 64 (fbits a) &&& ~~~ BitVec.ofInt 64 9218868437227405312).toNat = a % 2 ^ 52 := by
    apply Nat.eq_of_testBit_eq
    intro i
    have ha : BitVec.ofInt 64 (fbits a) = BitVec.ofNat 64 a := by unfold fbits; simp
    have hm : BitVec.ofInt 64 9218868437227405312 = BitVec.ofNat 64 ((2 ^ 11 - 1) <<< 52) := by decide
    rw [ha, hm, BitVec.testBit_toNat, BitVec.getLsbD_and, BitVec.getLsbD_not, Nat.testBit_mod_two_pow, BitVec.getLsbD_ofNat, BitVec.getLsbD_ofNat, Nat.testBit_shiftLeft, Nat.testBit_two_pow_sub_one]
    by_cases h1 : i < 52
    · have h2 : i < 64 := by omega
      have h3 : ¬ 52 ≤ i := by omega
      simp [h1, h2, h3]
    · by_cases h2 : i < 63
      · have h3 : 52 ≤ i := by omega
        have h4 : i - 52 < 11 := by omega
        have h5 : i < 64 := by omega
        simp [h1, h3, h4, h5]
      · have : a.testBit i = false := Nat.testBit_lt_two_pow (Nat.lt_of_lt_of_le h (Nat.pow_le_pow_right (by decide) (by omega)))
        simp [this, h1]
  unfold bits
  show IntKind.u64.wrap (((BitVec.ofInt 64 (fbits a) &&& ~~~ BitVec.ofInt 64 9218868437227405312).toNat : Nat) : Int) = _
  rw [e]
  simp only [IntKind.wrap]; simp [IntKind.signed, IntKind.bits]; omega
theorem join_half (a : Nat) (h : a < 2 ^ 52) : bits .or .u64 ((a : Nat) : Int) 4602678819172646912 = ((a + 1022 * 2 ^ 52 : Nat) : Int) := by
  have e : (BitVec.ofInt 64 ((a : Nat) : Int) ||| BitVec.ofInt 64 4602678819172646912).toNat = a + 1022 * 2 ^ 52 := by
    have ha : BitVec.ofInt 64 ((a : Nat) : Int) = BitVec.ofNat 64 a := by simp
    have hm : BitVec.ofInt 64 4602678819172646912 = BitVec.ofNat 64 (2 ^ 52 * 1022) := by decide
    rw [ha, hm, BitVec.toNat_or, BitVec.toNat_ofNat, BitVec.toNat_ofNat, Nat.mod_eq_of_lt (by omega), Nat.mod_eq_of_lt (by omega), Nat.or_comm, ← Nat.two_pow_add_eq_or_of_lt h]
    omega
  unfold bits
  show IntKind.u64.wrap (((BitVec.ofInt 64 ((a : Nat) : Int) ||| BitVec.ofInt 64 4602678819172646912).toNat : Nat) : Int) = _
  rw [e]
  simp only [IntKind.wrap]; simp [IntKind.signed, IntKind.bits]; omega
theorem field_of (a : Nat) (h : a < 2 ^ 63) : bits .and .u64 ((fbits a) / 4503599627370496) 2047 = ((a / 2 ^ 52 : Nat) : Int) := by
  have h0 : (0 : Int) ≤ (fbits a) / 4503599627370496 := by unfold fbits; omega
  have h1 : (fbits a) / 4503599627370496 < 2048 := by unfold fbits; omega
  have h2 : (fbits a) / 4503599627370496 = ((a / 2 ^ 52 : Nat) : Int) := by unfold fbits; omega
  rw [h2] at h0 h1 ⊢
  generalize ((a / 2 ^ 52 : Nat) : Int) = z at *
  have : bits .and .u64 z 2047 = z % 2048 := by have h3 : z < 4096 := by omega
                                                clear h2; go_bits2
  rw [this]; omega
theorem half_fin (s : Nat) (h1 : 2 ^ 52 ≤ s) (h2 : s < 2 ^ 53) : Fini (s - 2 ^ 52 + 1022 * 2 ^ 52) ∧ fsig (s - 2 ^ 52 + 1022 * 2 ^ 52) = s ∧ fpl (s - 2 ^ 52 + 1022 * 2 ^ 52) = 1021 ∧ fsgn (s - 2 ^ 52 + 1022 * 2 ^ 52) = false := by
  refine ⟨⟨by omega, by omega⟩, ?_, ?_, ?_⟩
  · unfold fsig; rw [if_neg (by omega)]; omega
  · unfold fpl; omega
  · unfold fsgn; rw [show (s - 2 ^ 52 + 1022 * 2 ^ 52) / 2 ^ 63 % 2 = 0 from by omega]; rfl
theorem frexp_ev {y : Nat} (hy : Fini y) (hp : y < 2 ^ 63) (h0 : fmag y ≠ 0) : ∃ (s : Nat) (e : Int), 2 ^ 52 ≤ s ∧ s < 2 ^ 53 ∧ -1073 ≤ e ∧ e ≤ 1024 ∧ fmag y * 2 ^ 52 = s * 2 ^ (e + 1073).toNat ∧
    Ev (fun k => math_Frexp.f k y) (s - 2 ^ 52 + 1022 * 2 ^ 52, e) := by
  have hyv : fval y = fmag y := fval_nonneg hp
  have hz : Fini 0 := ⟨by decide, by decide⟩
  have hz0 : fval 0 = 0 := by decide
  have c0 : (FloatKind.f64.format.order y 0 == some .eq) = false := by rw [eq_fin hy hz, hz0, hyv]; simp; omega
  have hmx : Fini 9218868437227405311 := ⟨by decide, by decide⟩
  have hinf : math_IsInf.f y 0 = some false := by
    unfold math_IsInf.f
    rw [if_pos rfl, abs_some hy.2]; simp only [Option.bind_some]
    rw [gt_fin hy.pos hmx, fval_nonneg (b := y % 2 ^ 63) (by omega), fval_nonneg (b := 9218868437227405311) (by decide), fmag_pos]
    refine congrArg some (decide_eq_false ?_)
    have hb : fmag 9218868437227405311 = (2 ^ 53 - 1) * 2 ^ 2045 := by
      rw [fmag_sig, show fsig 9218868437227405311 = 2 ^ 53 - 1 from by decide, show fpl 9218868437227405311 = 2045 from by decide]
    rw [hb, fmag_sig]
    have h1 := fsig_lt y
    have h2 := hy.fpl_le
    have h3 : fsig y * 2 ^ fpl y ≤ (2 ^ 53 - 1) * 2 ^ 2045 := Nat.mul_le_mul (by omega) (Nat.pow_le_pow_right (by decide) h2)
    intro hh
    exact absurd h3 (Nat.not_le.2 (Int.ofNat_lt.1 hh))
  have hnan : math_IsNaN.f y = some false := by
    unfold math_IsNaN.f; rw [bne, eq_fin hy hy]; simp
  have tail (z : Nat) (a : Int) (ha : a = 0 ∨ a = -52) (hz1 : 2 ^ 52 ≤ z) (hz2 : z < 2047 * 2 ^ 52) (hn : math_normalize.f y = some (z, a)) (hv : fmag z = fmag y * 2 ^ (-a).toNat) :
      ∃ (s : Nat) (e : Int), 2 ^ 52 ≤ s ∧ s < 2 ^ 53 ∧ -1073 ≤ e ∧ e ≤ 1024 ∧ fmag y * 2 ^ 52 = s * 2 ^ (e + 1073).toNat ∧ Ev (fun k => math_Frexp.f k y) (s - 2 ^ 52 + 1022 * 2 ^ 52, e) := by
    have hzz : z < 2 ^ 63 := by omega
    refine ⟨2 ^ 52 + z % 2 ^ 52, a + ((z / 2 ^ 52 : Nat) : Int) - 1022, by omega, by omega, by omega, by omega, ?_, ?_⟩
    · have hm : fmag z = (2 ^ 52 + z % 2 ^ 52) * 2 ^ (z / 2 ^ 52 - 1) := by
        unfold fmag; rw [Nat.mod_eq_of_lt hzz, if_neg (by omega)]
      rw [hm] at hv
      have hF : 1 ≤ z / 2 ^ 52 := by omega
      rcases ha with rfl | rfl
      · simp only [Int.neg_zero, Int.toNat_zero, Nat.pow_zero, Nat.mul_one] at hv
        rw [← hv, Nat.mul_assoc, ← Nat.pow_add, show (0 + ((z / 2 ^ 52 : Nat) : Int) - 1022 + 1073).toNat = z / 2 ^ 52 - 1 + 52 from by omega]
      · rw [show (-(-52) : Int).toNat = 52 from rfl] at hv
        rw [← hv, show (-52 + ((z / 2 ^ 52 : Nat) : Int) - 1022 + 1073).toNat = z / 2 ^ 52 - 1 from by omega]
    · refine Ev.congr (f := fun k => (math_frexp.j0 k y false).bind fun b => some (b.1, b.2)) (fun k => ?_) (Ev.bind (a := (2 ^ 52 + z % 2 ^ 52 - 2 ^ 52 + 1022 * 2 ^ 52, a + ((z / 2 ^ 52 : Nat) : Int) - 1022)) ?_ (Ev.now _))
      · unfold math_Frexp.f math_frexp.f
        rw [if_neg (by rw [c0]; decide), hinf]; simp only [Option.bind_some]
        rw [if_neg (by decide), hnan]; rfl
      · refine Ev.step (f := fun _ => some (2 ^ 52 + z % 2 ^ 52 - 2 ^ 52 + 1022 * 2 ^ 52, a + ((z / 2 ^ 52 : Nat) : Int) - 1022)) (fun k => ?_) (Ev.now _)
        simp only [math_frexp.j0]
        rw [if_neg (by decide), hn]; simp only [Option.bind_some]
        rw [mask_exp hzz, join_half _ (by omega), field_of z hzz]
        have w1 : wrap64 ((z / 2 ^ 52 : Nat) : Int) = ((z / 2 ^ 52 : Nat) : Int) := w64' rfl (by omega) (by omega)
        have w2 : wrap64 (((z / 2 ^ 52 : Nat) : Int) - 1023) = ((z / 2 ^ 52 : Nat) : Int) - 1023 := w64' rfl (by omega) (by omega)
        have w3 : wrap64 (((z / 2 ^ 52 : Nat) : Int) - 1023 + 1) = ((z / 2 ^ 52 : Nat) : Int) - 1022 := w64' (by omega) (by omega) (by omega)
        have w4 : wrap64 (a + (((z / 2 ^ 52 : Nat) : Int) - 1022)) = a + ((z / 2 ^ 52 : Nat) : Int) - 1022 := w64' (by omega) (by omega) (by omega)
        rw [w1, w2, w3, w4]
        unfold fof
        rw [Int.toNat_natCast]
        refine congrArg some (Prod.ext ?_ rfl)
        simp only; omega
  have hthr : Fini 4503599627370496 := ⟨by decide, by decide⟩
  have hthv : fmag 4503599627370496 = 2 ^ 52 := by decide
  have hy1 := hy.1
  have hcond : (FloatKind.f64.format.order (y % 2 ^ 63) 4503599627370496 == some .lt) = decide (fmag y < 2 ^ 52) := by
    rw [lt_fin hy.pos hthr, fval_nonneg (b := y % 2 ^ 63) (by omega), fval_nonneg (b := 4503599627370496) (by decide), fmag_pos, hthv]
    exact decide_eq_decide.2 Int.ofNat_lt
  by_cases hs : fmag y < 2 ^ 52
  · 
    have hy52 : y < 2 ^ 52 := by
      apply Classical.byContradiction
      intro hge
      have : fmag y = (2 ^ 52 + y % 2 ^ 52) * 2 ^ (y / 2 ^ 52 - 1) := by unfold fmag; rw [Nat.mod_eq_of_lt hp, if_neg (by omega)]
      have h3 : (2 ^ 52 + y % 2 ^ 52) * 1 ≤ (2 ^ 52 + y % 2 ^ 52) * 2 ^ (y / 2 ^ 52 - 1) := Nat.mul_le_mul_left _ (Nat.one_le_two_pow)
      omega
    have hym : fmag y = y := by unfold fmag; rw [Nat.mod_eq_of_lt hp, if_pos hy52]
    have hc : Fini 4841369599423283200 := ⟨by decide, by decide⟩
    have hcs : fsig 4841369599423283200 = 2 ^ 52 := by decide
    have hcp : fpl 4841369599423283200 = 1074 := by decide
    have hys : fsig y = y := by unfold fsig; rw [Nat.mod_eq_of_lt hp, if_pos hy52]
    have hyp : fpl y = 0 := by unfold fpl; omega
    have hrn : rnd (y * 2 ^ 52) = y * 2 ^ 52 := rnd_exact rfl (by omega)
    obtain ⟨r, e1, e2, e3, e4⟩ := mul_val hy hc (.inl (by rw [hyp, hcp]; omega)) (by
      rw [hys, hcs, hyp, hcp, show 0 + 1074 - 1074 = 0 from rfl, Nat.pow_zero, Nat.mul_one, hrn]
      exact Nat.lt_of_lt_of_le (show y * 2 ^ 52 < 2 ^ 104 by omega) (Nat.pow_le_pow_right (by decide) (by omega)))
    rw [hys, hcs, hyp, hcp, show 0 + 1074 - 1074 = 0 from rfl, Nat.pow_zero, Nat.mul_one, hrn] at e3
    rw [show fsgn y = false from by unfold fsgn; rw [show y / 2 ^ 63 % 2 = 0 from by omega]; rfl, show fsgn 4841369599423283200 = false from by decide] at e4
    have hrp : r < 2 ^ 63 := by
      have := e2.2
      unfold fsgn at e4
      have h5 : r / 2 ^ 63 % 2 ≠ 1 := by intro hh; rw [hh] at e4; exact absurd e4 (by decide)
      omega
    have hr52 : 2 ^ 52 ≤ r := by
      apply Classical.byContradiction
      intro hlt
      have : fmag r = r := by unfold fmag; rw [Nat.mod_eq_of_lt hrp, if_pos (by omega)]
      omega
    have := e2.1
    refine tail r (-52) (.inr rfl) hr52 (by omega) ?_ (by rw [e3, hym]; rfl)
    unfold math_normalize.f
    rw [abs_some hy.2]; simp only [Option.bind_some]
    rw [if_pos (by rw [hcond]; simpa using hs), e1]; rfl
  · have hge : 2 ^ 52 ≤ y := by
      apply Classical.byContradiction
      intro hlt
      have : fmag y = y := by unfold fmag; rw [Nat.mod_eq_of_lt hp, if_pos (by omega)]
      omega
    refine tail y 0 (.inl rfl) hge (by omega) ?_ (by simp)
    unfold math_normalize.f
    rw [abs_some hy.2]; simp only [Option.bind_some]
    rw [if_neg (by rw [hcond]; simpa using hs)]
end Go.Proofs.YtioahkblhekgpaaGreatDoor.FltP
namespace Go.Proofs.YtioahkblhekgpaaGreatDoor.Rnd
open Go.Proofs.YtioahkblhekgpaaGreatDoor.FltP
def R (z : Int) : Int := if z < 0 then -(rnd z.natAbs : Int) else rnd z.natAbs
def Rep (z : Int) : Prop := ∃ m e : Nat, z.natAbs = m * 2 ^ e ∧ m < 2 ^ 53
theorem R_neg (z : Int) : R (-z) = -R z := by
  unfold R
  rw [Int.natAbs_neg]
  by_cases h : z < 0
  · rw [if_neg (by omega), if_pos h]; omega
  · by_cases h0 : z = 0
    · subst h0; decide
    · rw [if_pos (by omega), if_neg h]
theorem R_zero : R 0 = 0 := by decide
theorem Rep.neg {z : Int} (h : Rep z) : Rep (-z) := by obtain ⟨m, e, h1, h2⟩ := h; exact ⟨m, e, by rw [Int.natAbs_neg]; exact h1, h2⟩
theorem Rep_zero : Rep 0 := ⟨0, 0, rfl, by decide⟩
theorem R_rep {z : Int} (h : Rep z) : R z = z := by
  obtain ⟨m, e, h1, h2⟩ := h
  unfold R
  rw [rnd_exact h1 h2]
  split <;> omega
theorem rnd_rep (v : Nat) : ∃ m e : Nat, rnd v = m * 2 ^ e ∧ m < 2 ^ 53 := by
  by_cases h0 : v = 0
  · subst h0; exact ⟨0, 0, by decide, by decide⟩
  · obtain ⟨k, h1, h2, _, _⟩ := rnd_shape v h0
    by_cases hk : k = 2 ^ 53
    · refine ⟨2 ^ 52, v.log2 - 52 + 1, ?_, by decide⟩
      rw [h1, hk, Nat.pow_succ 2 (v.log2 - 52), show (2 : Nat) ^ 53 = 2 ^ 52 * 2 from rfl, Nat.mul_assoc, Nat.mul_comm 2]
    · exact ⟨k, _, h1, by omega⟩
theorem Rep_R (z : Int) : Rep (R z) := by
  obtain ⟨m, e, h1, h2⟩ := rnd_rep z.natAbs
  refine ⟨m, e, ?_, h2⟩
  rw [← h1]; unfold R; split <;> omega
theorem fval_rep (b : Nat) : Rep (fval b) := ⟨fsig b, fpl b, by
  rw [← fmag_sig]; unfold fval; split <;> omega, fsig_lt b⟩
theorem rep_of_grid {z : Int} {k : Nat} (h : (2 : Int) ^ k ∣ z) (hb : z.natAbs ≤ 2 ^ (k + 53)) : Rep z := by
  obtain ⟨c, rfl⟩ := h
  have h1 : ((2 : Int) ^ k * c).natAbs = c.natAbs * 2 ^ k := by rw [Int.natAbs_mul, Int.natAbs_pow, Nat.mul_comm]; rfl
  rw [h1, Nat.pow_add, Nat.mul_comm] at hb
  have h2 := Nat.le_of_mul_le_mul_left hb (Nat.two_pow_pos k)
  by_cases hc : c.natAbs = 2 ^ 53
  · refine ⟨2 ^ 52, k + 1, ?_, by decide⟩
    rw [h1, hc, Nat.pow_succ 2 k, show (2 : Nat) ^ 53 = 2 ^ 52 * 2 from rfl, Nat.mul_assoc, Nat.mul_comm 2]
  · exact ⟨c.natAbs, k, h1, by omega⟩
theorem grid_of_rep {z : Int} {k : Nat} (h : Rep z) (hb : 2 ^ (k + 52) ≤ z.natAbs) : (2 : Int) ^ k ∣ z := by
  obtain ⟨m, e, h1, h2⟩ := h
  have hke : k ≤ e := by
    apply Classical.byContradiction
    intro hlt
    have : m * 2 ^ e < 2 ^ 53 * 2 ^ e := Nat.mul_lt_mul_of_pos_right h2 (Nat.two_pow_pos e)
    rw [← Nat.pow_add] at this
    have h3 : 2 ^ (53 + e) ≤ 2 ^ (k + 52) := Nat.pow_le_pow_right (by decide) (by omega)
    rw [← h1] at this
    omega
  rw [← Int.dvd_natAbs, h1]
  have := Int.ofNat_dvd.2 (Nat.dvd_trans (Nat.pow_dvd_pow 2 hke) (Nat.dvd_mul_left (2 ^ e) m))
  rw [Int.natCast_pow] at this; exact this
theorem grid_exists (z : Int) : ∃ k : Nat, z.natAbs < 2 ^ (k + 53) ∧ (k = 0 ∨ 2 ^ (k + 52) ≤ z.natAbs) := by
  by_cases h0 : z.natAbs = 0
  · exact ⟨0, by rw [h0]; decide, .inl rfl⟩
  · refine ⟨z.natAbs.log2 - 52, ?_, ?_⟩
    · exact Nat.lt_of_lt_of_le Nat.lt_log2_self (Nat.pow_le_pow_right (by decide) (by omega))
    · rcases Nat.eq_zero_or_pos (z.natAbs.log2 - 52) with h | h
      · exact .inl h
      · refine .inr ?_
        rw [show z.natAbs.log2 - 52 + 52 = z.natAbs.log2 from by omega]
        exact Nat.log2_self_le h0
theorem one_dvd' (z : Int) : (2 : Int) ^ 0 ∣ z := by simp
theorem grid_le {z : Int} {k : Nat} (h : Rep z) (hk : k = 0 ∨ 2 ^ (k + 52) ≤ z.natAbs) : (2 : Int) ^ k ∣ z := by
  rcases hk with rfl | hk
  · exact one_dvd' z
  · exact grid_of_rep h hk
theorem rnd_grid {v k : Nat} (h : 2 ^ k ∣ v) : 2 ^ k ∣ rnd v := by
  by_cases h0 : v = 0
  · subst h0; rw [show rnd 0 = 0 from by decide]; exact Nat.dvd_zero _
  · obtain ⟨c, h1, _, _, _⟩ := rnd_shape v h0
    rcases Nat.le_total k (v.log2 - 52) with hle | hle
    · rw [h1]; exact Nat.dvd_trans (Nat.pow_dvd_pow 2 hle) (Nat.dvd_mul_left _ _)
    · obtain ⟨m, hm⟩ := h
      have hv : v < 2 ^ (v.log2 - 52 + 53) := Nat.lt_of_lt_of_le Nat.lt_log2_self (Nat.pow_le_pow_right (by decide) (by omega))
      have hm2 : m < 2 ^ 53 := by
        have : 2 ^ k * m < 2 ^ k * 2 ^ 53 := by
          rw [← hm, ← Nat.pow_add]; exact Nat.lt_of_lt_of_le hv (Nat.pow_le_pow_right (by decide) (by omega))
        exact Nat.lt_of_mul_lt_mul_left this
      rw [rnd_exact (m := m) (e := k) (by rw [Nat.mul_comm]; exact hm) hm2, hm]
      exact Nat.dvd_mul_right _ _
theorem R_grid {z : Int} {k : Nat} (h : (2 : Int) ^ k ∣ z) : (2 : Int) ^ k ∣ R z := by
  have h1 : 2 ^ k ∣ z.natAbs := by
    have := Int.natAbs_dvd_natAbs.2 h
    rw [Int.natAbs_pow] at this; exact this
  have h2 := Int.ofNat_dvd.2 (rnd_grid h1)
  rw [Int.natCast_pow] at h2
  unfold R; split
  · exact Int.dvd_neg.2 h2
  · exact h2
theorem rnd_err (v : Nat) : 2 * ((rnd v : Int) - v).natAbs ≤ 2 ^ (v.log2 - 52) := by
  unfold rnd
  have hp := Nat.two_pow_pos (v.log2 - 52)
  have h1 := Nat.div_add_mod v (2 ^ (v.log2 - 52))
  have h2 := Nat.mod_lt v hp
  rw [Nat.mul_comm] at h1
  simp only
  generalize hq : v / 2 ^ (v.log2 - 52) = q at *
  generalize v % 2 ^ (v.log2 - 52) = r at *
  generalize 2 ^ (v.log2 - 52) = s at *
  split
  · rw [Nat.add_mul, Nat.one_mul]
    generalize q * s = t at *
    omega
  · rw [Nat.add_zero]
    generalize q * s = t at *
    omega
theorem R_err_abs (z : Int) : (R z - z).natAbs = ((rnd z.natAbs : Int) - z.natAbs).natAbs := by unfold R; split <;> omega
theorem R_err {z : Int} {k : Nat} (h : z.natAbs < 2 ^ (k + 53)) : 2 * (R z - z).natAbs ≤ 2 ^ k := by
  rw [R_err_abs]
  refine Nat.le_trans (rnd_err _) (Nat.pow_le_pow_right (by decide) ?_)
  by_cases h0 : z.natAbs = 0
  · rw [h0]; simp
  · have := (Nat.log2_lt h0).2 h
    omega
theorem R_near (z : Int) {u : Int} (hu : Rep u) : (R z - z).natAbs ≤ (u - z).natAbs := by
  obtain ⟨k, h1, h2⟩ := grid_exists z
  have hg : (2 : Int) ^ k ∣ R z := by
    rcases h2 with h | h
    · subst h; exact one_dvd' _
    · by_cases h0 : z.natAbs = 0
      · rw [h0] at h; have := Nat.two_pow_pos (k + 52); omega
      · obtain ⟨c, e1, _, _, _⟩ := rnd_shape z.natAbs h0
        have hl : z.natAbs.log2 - 52 = k := by
          have a := (Nat.log2_lt h0).2 h1
          have b := (Nat.le_log2 h0).2 h
          omega
        rw [hl] at e1
        have : (2 : Int) ^ k ∣ (rnd z.natAbs : Int) := by rw [e1]; exact ⟨c, by simp [Int.mul_comm]⟩
        unfold R; split
        · exact Int.dvd_neg.2 this
        · exact this
  have he := R_err h1
  have hp : (0 : Int) < 2 ^ k := Int.pow_pos (by decide)
  have far : ∀ y : Int, (2 : Int) ^ k ∣ y → (R z - z).natAbs ≤ (y - z).natAbs := by
    intro y hy
    by_cases hE : y = R z
    · rw [hE]; exact Nat.le_refl _
    · obtain ⟨c, hc⟩ := Int.dvd_sub hy hg
      have hc0 : c ≠ 0 := by intro h; rw [h] at hc; omega
      have hc1 : 2 ^ k ≤ (y - R z).natAbs := by
        rw [hc, Int.natAbs_mul, Int.natAbs_pow]
        exact Nat.le_mul_of_pos_right _ (by omega)
      omega
  rcases h2 with h | h
  · subst h; exact far u (one_dvd' u)
  · by_cases hub : 2 ^ (k + 52) ≤ u.natAbs
    · exact far u (grid_of_rep hu hub)
    · 
      have hd : (2 : Int) ^ k ∣ 2 ^ (k + 52) := ⟨2 ^ 52, by rw [Int.pow_add]⟩
      have hc : ((2 ^ (k + 52) : Nat) : Int) = 2 ^ (k + 52) := by simp
      by_cases hz : z < 0
      · have := far (-(2 ^ (k + 52))) (Int.dvd_neg.2 hd)
        omega
      · have := far (2 ^ (k + 52)) hd
        omega
theorem R_ge {z u : Int} (hu : Rep u) (h : u ≤ z) : u ≤ R z := by
  have := R_near z hu
  omega
theorem R_le {z u : Int} (hu : Rep u) (h : z ≤ u) : R z ≤ u := by
  have := R_near z hu
  omega
theorem R_eq_zero {z : Int} (h : R z = 0) : z = 0 := by
  have h1 : Rep (if z < 0 then -1 else 1) := by split <;> exact ⟨1, 0, by decide, by decide⟩
  by_cases hz : z = 0
  · exact hz
  · by_cases hn : z < 0
    · rw [if_pos hn] at h1; have := R_le (z := z) h1 (by omega); omega
    · rw [if_neg hn] at h1; have := R_ge (z := z) h1 (by omega); omega
theorem R_two (z : Int) : R (2 * z) = 2 * R z := by
  unfold R
  rw [show (2 * z).natAbs = 2 * z.natAbs from by omega, rnd_two]
  by_cases h : z < 0
  · rw [if_pos h, if_pos (by omega)]; omega
  · rw [if_neg h, if_neg (by omega)]; omega
theorem sum_rest {a b : Int} (ha : Rep a) (hb : Rep b) : Rep (a + b - R (a + b)) ∧ (a + b - R (a + b)).natAbs ≤ a.natAbs ∧ (a + b - R (a + b)).natAbs ≤ b.natAbs := by
  have n1 := R_near (a + b) hb
  have n2 := R_near (a + b) ha
  refine ⟨?_, by omega, by omega⟩
  have key : ∀ c d : Int, Rep c → Rep d → c + d = a + b → c.natAbs ≤ d.natAbs → Rep (a + b - R (a + b)) := by
    intro c d hc hd hs hle
    obtain ⟨k, k1, k2⟩ := grid_exists c
    have g1 := grid_le hc k2
    have g2 : (2 : Int) ^ k ∣ d := grid_le hd (k2.imp id (fun h => Nat.le_trans h hle))
    have g3 : (2 : Int) ^ k ∣ a + b := hs ▸ Int.dvd_add g1 g2
    refine rep_of_grid (Int.dvd_sub g3 (R_grid g3)) ?_
    have n3 := R_near (a + b) hd
    have : (a + b - R (a + b)).natAbs ≤ c.natAbs := by omega
    omega
  rcases Nat.le_total a.natAbs b.natAbs with h | h
  · exact key a b ha hb rfl h
  · exact key b a hb ha (Int.add_comm _ _) h
theorem sterbenz {x a : Int} (hx : Rep x) (ha : Rep a) (h1 : (x - a).natAbs ≤ x.natAbs) (h2 : (x - a).natAbs ≤ a.natAbs) : Rep (x - a) := by
  rcases Nat.le_total x.natAbs a.natAbs with h | h
  · obtain ⟨k, k1, k2⟩ := grid_exists x
    refine rep_of_grid (Int.dvd_sub (grid_le hx k2) (grid_le ha (k2.imp id (fun z => Nat.le_trans z h)))) ?_
    omega
  · obtain ⟨k, k1, k2⟩ := grid_exists a
    refine rep_of_grid (Int.dvd_sub (grid_le hx (k2.imp id (fun z => Nat.le_trans z h))) (grid_le ha k2)) ?_
    omega
theorem Rep.two {a : Int} (h : Rep a) : Rep (2 * a) := by
  obtain ⟨m, e, h1, h2⟩ := h
  exact ⟨m, e + 1, by rw [Int.natAbs_mul, h1, Nat.pow_succ]; simp; rw [Nat.mul_comm (2 ^ e) 2, ← Nat.mul_assoc, ← Nat.mul_assoc, Nat.mul_comm m 2], h2⟩
theorem fast_pos {a b : Int} (ha : Rep a) (hb : Rep b) (h0 : 0 ≤ a) (h : b.natAbs ≤ a.natAbs) : Rep (R (a + b) - a) := by
  by_cases hneg : 0 ≤ b
  · have h1 : a ≤ R (a + b) := R_ge ha (by omega)
    have h2 : R (a + b) ≤ 2 * a := R_le ha.two (by omega)
    exact sterbenz (Rep_R _) ha (by omega) (by omega)
  · by_cases hs : 2 * b.natAbs ≤ a.natAbs
    · have h2 : R (a + b) ≤ a := R_le ha (by omega)
      have h1 : a ≤ R (2 * (a + b)) := R_ge ha (by omega)
      rw [R_two] at h1
      exact sterbenz (Rep_R _) ha (by omega) (by omega)
    · 
      have he : Rep (a + b) := by
        have := sterbenz (x := a) (a := -b) ha hb.neg (by omega) (by omega)
        rwa [Int.sub_neg] at this
      rw [R_rep he, show a + b - a = b from by omega]
      exact hb
theorem fast {a b : Int} (ha : Rep a) (hb : Rep b) (h : b.natAbs ≤ a.natAbs) : Rep (R (a + b) - a) := by
  by_cases h0 : 0 ≤ a
  · exact fast_pos ha hb h0 h
  · have := fast_pos ha.neg hb.neg (by omega) (by omega)
    rw [show -a + -b = -(a + b) from by omega, R_neg] at this
    have h2 := this.neg
    rwa [show -(-R (a + b) - -a) = R (a + b) - a from by omega] at h2
theorem knuth {a b : Int} (ha : Rep a) (hb : Rep b) :
    R (R (a - R (R (a + b) - R (R (a + b) - a))) + R (b - R (R (a + b) - a))) = a + b - R (a + b) := by
  have hs := sum_rest ha hb
  by_cases h : b.natAbs ≤ a.natAbs
  · have hf := fast ha hb h
    rw [R_rep hf, show R (a + b) - (R (a + b) - a) = a from by omega, R_rep ha, show a - a = 0 from by omega, R_zero, show b - (R (a + b) - a) = a + b - R (a + b) from by omega, R_rep hs.1, Int.zero_add, R_rep hs.1]
  · by_cases hx : a.natAbs ≤ (R (a + b)).natAbs
    · 
      have hc1 := fast (Rep_R (a + b)) ha.neg (by omega)
      have hc2 := sum_rest (Rep_R (a + b)) ha.neg
      rw [← Int.sub_eq_add_neg] at hc1 hc2
      have hb1 := fast hb hs.1.neg (by omega)
      rw [show b + -(a + b - R (a + b)) = R (a + b) - a from by omega] at hb1
      generalize R (a + b) = x at *
      have hd : Rep (x - R (x - a)) := by
        have := hc1.neg
        rwa [show -(R (x - a) - x) = x - R (x - a) from by omega] at this
      rw [R_rep hd]
      have hp : Rep (a - (x - R (x - a))) := by
        have := hc2.1.neg
        rwa [show -(x - a - R (x - a)) = a - (x - R (x - a)) from by omega] at this
      rw [R_rep hp]
      have hq : Rep (b - R (x - a)) := by
        have := hb1.neg
        rwa [show -(R (x - a) - b) = b - R (x - a) from by omega] at this
      rw [R_rep hq, show a - (x - R (x - a)) + (b - R (x - a)) = a + b - x from by omega]
      exact R_rep hs.1
    · 
      have he : Rep (a + b) := by
        obtain ⟨k, k1, k2⟩ := grid_exists a
        refine rep_of_grid (Int.dvd_add (grid_le ha k2) (grid_le hb (k2.imp id (fun z => by omega)))) ?_
        have hle : (a + b).natAbs ≤ a.natAbs := by
          apply Classical.byContradiction
          intro hgt
          by_cases hpos : 0 ≤ a + b
          · have : Rep (a.natAbs : Int) := by obtain ⟨m, e, h1, h2⟩ := ha; exact ⟨m, e, h1, h2⟩
            have := R_ge this (show (a.natAbs : Int) ≤ a + b by omega)
            omega
          · have : Rep (-(a.natAbs : Int)) := by obtain ⟨m, e, h1, h2⟩ := ha; exact ⟨m, e, by omega, h2⟩
            have := R_le this (show a + b ≤ -(a.natAbs : Int) by omega)
            omega
        omega
      rw [R_rep he, show a + b - a = b from by omega, R_rep hb, show a + b - b = a from by omega, R_rep ha, show a - a = 0 from by omega, show b - b = 0 from by omega, R_zero, show a + b - (a + b) = 0 from by omega]
      decide
end Go.Proofs.YtioahkblhekgpaaGreatDoor.Rnd
namespace Go.Proofs.YtioahkblhekgpaaGreatDoor.Rnd
open Go.Proofs.YtioahkblhekgpaaGreatDoor.FltP
theorem R_scale (k : Nat) (z : Int) : R (2 ^ k * z) = 2 ^ k * R z := by
  induction k with
  | zero => simp
  | succ k ih => rw [Int.pow_succ, Int.mul_comm _ 2, Int.mul_assoc, R_two, ih, ← Int.mul_assoc]
theorem rep_small {z : Int} (h : z.natAbs ≤ 2 ^ 53) : Rep z := rep_of_grid (k := 0) (one_dvd' z) (by simpa using h)
theorem rep_at {z : Int} (k : Nat) (h : (2 : Int) ^ k ∣ z) (hb : z.natAbs ≤ 2 ^ (k + 53)) : Rep z := rep_of_grid h hb
theorem veltkamp_pos {A : Int} (h1 : 2 ^ 52 ≤ A) (h2 : A < 2 ^ 53) :
    ∃ x y : Int, R (R (134217729 * A) - R (R (134217729 * A) - A)) = x ∧ R (A - x) = y ∧ x + y = A ∧ (2 : Int) ^ 27 ∣ x ∧ y.natAbs ≤ 2 ^ 26 ∧ x.natAbs ≤ 2 ^ 53 := by
  have g1 : (134217729 * A).natAbs < 2 ^ (28 + 53) := by omega
  have e1 := R_err g1
  have gc : (2 : Int) ^ 27 ∣ R (134217729 * A) := by
    have hge : (2 : Int) ^ 79 ≤ R (134217729 * A) := R_ge (rep_at 27 (by decide) (by decide)) (by omega)
    exact grid_of_rep (Rep_R _) (by omega)
  have ec : A = 2 ^ 52 → R (134217729 * A) = 134217729 * A := by
    intro h; subst h; exact R_rep (rep_at 27 (by decide) (by decide))
  have e1' : 134217729 * A < 2 ^ 80 → 2 * (R (134217729 * A) - 134217729 * A).natAbs ≤ 2 ^ 27 := fun h => R_err (k := 27) (by omega)
  generalize R (134217729 * A) = c at *
  have ht1 : (2 : Int) ^ 79 ≤ c - A := by
    by_cases hA : A = 2 ^ 52
    · have := ec hA; subst hA; omega
    · by_cases hs : 134217729 * A < 2 ^ 80
      · have := e1' hs; omega
      · omega
  have ht2 : c - A ≤ 2 ^ 80 := by
    by_cases hs : 134217729 * A < 2 ^ 80
    · have := e1' hs; omega
    · omega
  have e2 : 2 * (R (c - A) - (c - A)).natAbs ≤ 2 ^ 27 := by
    by_cases he : c - A = 2 ^ 80
    · rw [he, R_rep (rep_at 27 (by decide) (by decide))]; decide
    · exact R_err (k := 27) (by omega)
  have gt : (2 : Int) ^ 27 ∣ R (c - A) := by
    have hge : (2 : Int) ^ 79 ≤ R (c - A) := R_ge (rep_at 27 (by decide) (by decide)) ht1
    exact grid_of_rep (Rep_R _) (by omega)
  generalize R (c - A) = t at *
  have gx := Int.dvd_sub gc gt
  have hx : Rep (c - t) := rep_at 27 gx (by omega)
  rw [R_rep hx]
  have hy : (A - (c - t)).natAbs ≤ 2 ^ 26 := by omega
  refine ⟨_, _, rfl, rfl, ?_, gx, ?_, ?_⟩
  · rw [R_rep (rep_small (by omega))]; omega
  · rw [R_rep (rep_small (by omega))]; exact hy
  · obtain ⟨d, hd⟩ := gx
    omega
theorem veltkamp {A : Int} (h1 : 2 ^ 52 ≤ A.natAbs) (h2 : A.natAbs < 2 ^ 53) :
    ∃ x y : Int, R (R (134217729 * A) - R (R (134217729 * A) - A)) = x ∧ R (A - x) = y ∧ x + y = A ∧ (2 : Int) ^ 27 ∣ x ∧ y.natAbs ≤ 2 ^ 26 ∧ x.natAbs ≤ 2 ^ 53 := by
  by_cases h : 0 ≤ A
  · exact veltkamp_pos (by omega) (by omega)
  · obtain ⟨x, y, a1, a2, a3, a4, a5, a6⟩ := veltkamp_pos (A := -A) (by omega) (by omega)
    refine ⟨-x, -y, ?_, ?_, by omega, Int.dvd_neg.2 a4, by omega, by omega⟩
    · rw [← a1, show 134217729 * -A = -(134217729 * A) from by omega, R_neg, show -R (134217729 * A) - -A = -(R (134217729 * A) - A) from by omega, R_neg, show -R (134217729 * A) - -R (R (134217729 * A) - A) = -(R (134217729 * A) - R (R (134217729 * A) - A)) from by omega, R_neg, Int.neg_neg]
    · rw [← a2, show -A - x = -(A - -x) from by omega, R_neg, Int.neg_neg]
theorem dekker {A B p q r s : Int} (hA1 : 2 ^ 52 ≤ A.natAbs) (hA2 : A.natAbs < 2 ^ 53) (hB1 : 2 ^ 52 ≤ B.natAbs) (hB2 : B.natAbs < 2 ^ 53) (ha : p + q = A) (hb : r + s = B)
    (gp : (2 : Int) ^ 27 ∣ p) (hq : q.natAbs ≤ 2 ^ 26) (hp : p.natAbs ≤ 2 ^ 53) (gr : (2 : Int) ^ 27 ∣ r) (hs : s.natAbs ≤ 2 ^ 26) (hr : r.natAbs ≤ 2 ^ 53) :
    R (p * r) = p * r ∧ R (q * r) = q * r ∧ R (p * s) = p * s ∧ R (q * s) = q * s ∧ R (R (A * B) - p * r) = R (A * B) - p * r ∧ R (R (A * B) - p * r - q * r) = R (A * B) - p * r - q * r ∧
    R (R (A * B) - p * r - q * r - p * s) = R (A * B) - p * r - q * r - p * s ∧ R (q * s - (R (A * B) - p * r - q * r - p * s)) = A * B - R (A * B) := by
  have bpr : (p * r).natAbs ≤ 2 ^ 106 := by rw [Int.natAbs_mul]; exact Nat.le_trans (Nat.mul_le_mul hp hr) (by decide)
  have bqr : (q * r).natAbs ≤ 2 ^ 79 := by rw [Int.natAbs_mul]; exact Nat.le_trans (Nat.mul_le_mul hq hr) (by decide)
  have bps : (p * s).natAbs ≤ 2 ^ 79 := by rw [Int.natAbs_mul]; exact Nat.le_trans (Nat.mul_le_mul hp hs) (by decide)
  have bqs : (q * s).natAbs ≤ 2 ^ 52 := by rw [Int.natAbs_mul]; exact Nat.le_trans (Nat.mul_le_mul hq hs) (by decide)
  have gpr : (2 : Int) ^ 54 ∣ p * r := by
    have := Int.mul_dvd_mul gp gr
    rwa [← Int.pow_add] at this
  have gqr : (2 : Int) ^ 27 ∣ q * r := Int.dvd_trans gr (Int.dvd_mul_left _ _)
  have gps : (2 : Int) ^ 27 ∣ p * s := Int.dvd_trans gp (Int.dvd_mul_right _ _)
  have hAB : A * B = p * r + q * r + p * s + q * s := by rw [← ha, ← hb]; grind
  have bAB1 : 2 ^ 104 ≤ (A * B).natAbs := by rw [Int.natAbs_mul]; exact Nat.le_trans (by decide) (Nat.mul_le_mul hA1 hB1)
  have bAB2 : (A * B).natAbs < 2 ^ (53 + 53) := by
    rw [Int.natAbs_mul]
    exact Nat.lt_of_le_of_lt (Nat.mul_le_mul (Nat.le_sub_one_of_lt hA2) (Nat.le_sub_one_of_lt hB2)) (by decide)
  have eX := R_err bAB2
  have gX : (2 : Int) ^ 52 ∣ R (A * B) := by
    refine grid_of_rep (Rep_R _) ?_
    have hrep : Rep (2 ^ 104) := rep_at 52 (by decide) (by decide)
    by_cases hn : 0 ≤ A * B
    · have := R_ge (z := A * B) hrep (by omega); omega
    · have := R_le (z := A * B) hrep.neg (by omega); omega
  generalize R (A * B) = X at *
  generalize A * B = ab at *
  have d1 : (2 : Int) ^ 52 ∣ X - p * r := Int.dvd_sub gX (Int.dvd_trans (by decide) gpr)
  have d2 : (2 : Int) ^ 27 ∣ X - p * r - q * r := Int.dvd_sub (Int.dvd_trans (by decide) d1) gqr
  generalize p * r = pr at *
  generalize q * r = qr at *
  generalize p * s = ps at *
  generalize q * s = qs at *
  refine ⟨R_rep (rep_at 54 gpr (by omega)), R_rep (rep_at 27 gqr (by omega)), R_rep (rep_at 27 gps (by omega)), R_rep (rep_small (by omega)), R_rep (rep_at 52 d1 (by omega)), R_rep (rep_at 27 d2 (by omega)), R_rep (rep_small (by omega)), ?_⟩
  rw [show qs - (X - pr - qr - ps) = ab - X from by omega]
  exact R_rep (rep_small (by omega))
end Go.Proofs.YtioahkblhekgpaaGreatDoor.Rnd
namespace Go.Proofs.YtioahkblhekgpaaGreatDoor.FltP
set_option exponentiation.threshold 4000
open Go.RowKit Go.Proofs.YtioahkblhekgpaaGreatDoor.R Go.Proofs.YtioahkblhekgpaaGreatDoorW.PrintWords Go.Proofs.YtioahkblhekgpaaGreatDoorW.PrintLast Go.Proofs.YtioahkblhekgpaaGreatDoorW.PrintMore Ieee
open Go.Proofs.YtioahkblhekgpaaGreatDoor.Rnd (R Rep)
theorem R_nat (n : Nat) : R (n : Int) = rnd n := by
  unfold Rnd.R; rw [if_neg (by omega)]; simp
theorem R_val (s : Bool) (n : Nat) : R (if s then -(n : Int) else n) = if s then -(rnd n : Int) else rnd n := by
  cases s
  · exact R_nat n
  · simp only [if_true]; rw [Rnd.R_neg, R_nat]
theorem R_natAbs (z : Int) : (R z).natAbs = rnd z.natAbs := by unfold Rnd.R; split <;> simp
theorem write_val (z : Int) (neg : Bool) (a : Nat) (hn : z < 0 → neg = true) (hp : 0 < z → neg = false) (hr : (R (z * 2 ^ a)).natAbs < 2 ^ 2098) : Fini (dbl.nearest neg z.natAbs (-1074 + a)) ∧ fval (dbl.nearest neg z.natAbs (-1074 + a)) = R (z * 2 ^ a) := by
  have e : (z * 2 ^ a).natAbs = z.natAbs * 2 ^ a := by rw [Int.natAbs_mul, Int.natAbs_pow]; rfl
  rw [R_natAbs, e] at hr
  obtain ⟨h1, h2, h3⟩ := nearest_val neg z.natAbs a hr
  refine ⟨h1, ?_⟩
  unfold fval
  rw [h2, h3]
  rcases Int.lt_trichotomy z 0 with h | h | h
  · rw [hn h, show z * 2 ^ a = -((z.natAbs * 2 ^ a : Nat) : Int) from by rw [Int.natCast_mul, Int.natCast_pow, ← Int.neg_mul]; congr 1; omega, Rnd.R_neg, R_nat]; rfl
  · subst h; rw [Int.zero_mul, Rnd.R_zero, show (0 : Int).natAbs * 2 ^ a = 0 from by simp, show rnd 0 = 0 from by decide]; simp
  · rw [hp h, show z * 2 ^ a = ((z.natAbs * 2 ^ a : Nat) : Int) from by rw [Int.natCast_mul, Int.natCast_pow]; congr 1; omega, R_nat]; rfl
theorem scale_signed {s : Bool} {m k a : Nat} (h : a ≤ k) : signed s m (k - a) * 2 ^ a = signed s m k := by
  rw [← signed_scale, Nat.sub_add_cancel h]
theorem sum_val {s t : Bool} {m n i k : Nat} (hr : (R (signed s m i + signed t n k)).natAbs < 2 ^ 2098) :
    ∃ d, Datum.sum (.number s m (-1074 + (i : Int))) (.number t n (-1074 + (k : Int))) = some d ∧ Fini (dbl.write d) ∧ fval (dbl.write d) = R (signed s m i + signed t n k) := by
  simp only [Datum.sum]
  generalize hb : min i k = a
  have e1 : (-1074 + (i : Int) - min (-1074 + (i : Int)) (-1074 + (k : Int))).toNat = i - a := by omega
  have e2 : (-1074 + (k : Int) - min (-1074 + (i : Int)) (-1074 + (k : Int))).toNat = k - a := by omega
  have e3 : min (-1074 + (i : Int)) (-1074 + (k : Int)) = -1074 + (a : Int) := by omega
  rw [e1, e2, e3]
  have hS : (signed s m (i - a) + signed t n (k - a)) * 2 ^ a = signed s m i + signed t n k := by
    rw [Int.add_mul, scale_signed (by omega), scale_signed (by omega)]
  generalize signed s m (i - a) + signed t n (k - a) = z at hS
  rw [← hS] at hr ⊢
  refine ⟨_, rfl, ?_⟩
  refine write_val z _ a (fun h => ?_) (fun h => ?_) hr
  · rw [if_neg (by omega)]; simpa using h
  · rw [if_neg (by omega)]; simp; omega
theorem add_fin {x y : Nat} (hx : Fini x) (hy : Fini y) (hr : (R (fval x + fval y)).natAbs < 2 ^ 2098) : ∃ r, floatBits .add .f64 x y = some r ∧ Fini r ∧ fval r = R (fval x + fval y) := by
  rw [fval_eq x, fval_eq y] at hr ⊢
  obtain ⟨d, h1, h2, h3⟩ := sum_val hr
  unfold floatBits
  simp only [fmt_eq, Format.add, read_fin hx, read_fin hy, h1, Option.map_some]
  exact ⟨_, rfl, h2, h3⟩
theorem sub_fin {x y : Nat} (hx : Fini x) (hy : Fini y) (hr : (R (fval x - fval y)).natAbs < 2 ^ 2098) : ∃ r, floatBits .sub .f64 x y = some r ∧ Fini r ∧ fval r = R (fval x - fval y) := by
  have e : -signed (fsgn y) (fsig y) (fpl y) = signed (!fsgn y) (fsig y) (fpl y) := by rw [signed_eq, signed_eq]; cases fsgn y <;> simp
  rw [fval_eq x, fval_eq y, Int.sub_eq_add_neg, e] at hr ⊢
  obtain ⟨d, h1, h2, h3⟩ := sum_val hr
  unfold floatBits
  simp only [fmt_eq, Format.sub, read_fin hx, read_fin hy, Datum.opposite, h1, Option.map_some]
  exact ⟨_, rfl, h2, h3⟩
theorem fval_sgn (x : Nat) : fval x = if fsgn x then -(fmag x : Int) else fmag x := rfl
theorem fpl_ge {x k : Nat} (h : 2 ^ k ≤ fmag x) : k < 53 + fpl x := by
  have h1 := fsig_lt x
  rw [fmag_sig] at h
  have h2 : fsig x * 2 ^ fpl x < 2 ^ (53 + fpl x) := by rw [Nat.pow_add]; exact Nat.mul_lt_mul_of_pos_right h1 (Nat.two_pow_pos _)
  exact (Nat.pow_lt_pow_iff_right (by decide)).mp (Nat.lt_of_le_of_lt h h2)
theorem mul_fin {x y : Nat} {z : Int} (hx : Fini x) (hy : Fini y) (hpl : 1074 ≤ fpl x + fpl y ∨ fval x = 0 ∨ fval y = 0) (hz : fval x * fval y = z * 2 ^ 1074) (hr : (R z).natAbs < 2 ^ 2098) : ∃ r, floatBits .mul .f64 x y = some r ∧ Fini r ∧ fval r = R z := by
  have hp : (0 : Int) < 2 ^ 1074 := by decide
  have hpl' : 1074 ≤ fpl x + fpl y ∨ fsig x * fsig y = 0 := by
    rcases hpl with h | h | h
    · exact .inl h
    · right
      rw [fval_zero_iff, fmag_sig] at h
      rcases Nat.mul_eq_zero.mp h with h | h
      · rw [h, Nat.zero_mul]
      · have := Nat.two_pow_pos (fpl x); omega
    · right
      rw [fval_zero_iff, fmag_sig] at h
      rcases Nat.mul_eq_zero.mp h with h | h
      · rw [h, Nat.mul_zero]
      · have := Nat.two_pow_pos (fpl y); omega
  generalize hM : fsig x * fsig y * 2 ^ (fpl x + fpl y - 1074) = M
  have hMM : fmag x * fmag y = M * 2 ^ 1074 := by
    rw [fmag_sig x, fmag_sig y, ← hM]
    rcases hpl' with h | h
    · rw [Nat.mul_assoc (fsig x * fsig y), ← Nat.pow_add, Nat.sub_add_cancel h, Nat.pow_add]
      generalize 2 ^ fpl x = u
      generalize 2 ^ fpl y = v
      rw [Nat.mul_assoc, Nat.mul_assoc, Nat.mul_left_comm u]
    · rw [h, Nat.zero_mul, Nat.zero_mul]
      rcases Nat.mul_eq_zero.mp h with h | h <;> rw [h] <;> simp
  have hzM : z = if (fsgn x ^^ fsgn y) then -(M : Int) else M := by
    have e : fval x * fval y = (if (fsgn x ^^ fsgn y) then -(M : Int) else M) * 2 ^ 1074 := by
      have hI : (fmag x : Int) * fmag y = M * 2 ^ 1074 := by rw [← Int.natCast_mul, hMM, Int.natCast_mul, Int.natCast_pow]; rfl
      rw [fval_sgn x, fval_sgn y]
      generalize (2 : Int) ^ 1074 = T at hI ⊢
      cases fsgn x <;> cases fsgn y <;> simp only [Bool.false_eq_true, if_false, if_true, Bool.xor_false, Bool.xor_true, Bool.not_false, Bool.not_true, Int.neg_mul, Int.mul_neg, Int.neg_neg, hI]
    rw [hz] at e
    exact Int.eq_of_mul_eq_mul_right (by omega) e
  have hRM : (R z).natAbs = rnd M := by
    rw [hzM, R_val]; split <;> simp
  obtain ⟨r, h1, h2, h3, h4⟩ := mul_val hx hy hpl' (by rw [hM, ← hRM]; exact hr)
  refine ⟨r, h1, h2, ?_⟩
  rw [fval_sgn r, h3, h4, hM, hzM, R_val]
end Go.Proofs.YtioahkblhekgpaaGreatDoor.FltP
namespace Go.Proofs.YtioahkblhekgpaaGreatDoor.FltP
set_option exponentiation.threshold 4000
open Go.RowKit Go.Proofs.YtioahkblhekgpaaGreatDoor.R Go.Proofs.YtioahkblhekgpaaGreatDoorW.PrintWords Go.Proofs.YtioahkblhekgpaaGreatDoorW.PrintLast Go.Proofs.YtioahkblhekgpaaGreatDoorW.PrintMore Ieee
theorem mask_exp64 {a : Nat} (h : a < 2 ^ 64) : bits .andNot .u64 (fbits a) 9218868437227405312 = ((a % 2 ^ 52 + a / 2 ^ 63 * 2 ^ 63 : Nat) : Int) := by
  have e : (BitVec.ofInt 64 (fbits a) &&& ~~~ BitVec.ofInt 64 9218868437227405312).toNat = a % 2 ^ 52 + a / 2 ^ 63 * 2 ^ 63 := by
    apply Nat.eq_of_testBit_eq
    intro i
    have ha : BitVec.ofInt 64 (fbits a) = BitVec.ofNat 64 a := by unfold fbits; simp
    have hm : BitVec.ofInt 64 9218868437227405312 = BitVec.ofNat 64 ((2 ^ 11 - 1) <<< 52) := by decide
    rw [ha, hm, BitVec.testBit_toNat, BitVec.getLsbD_and, BitVec.getLsbD_not, BitVec.getLsbD_ofNat, BitVec.getLsbD_ofNat, Nat.testBit_shiftLeft, Nat.testBit_two_pow_sub_one, show a % 2 ^ 52 + a / 2 ^ 63 * 2 ^ 63 = 2 ^ 63 * (a / 2 ^ 63) + a % 2 ^ 52 from by omega, Nat.testBit_two_pow_mul_add _ (show a % 2 ^ 52 < 2 ^ 63 from by omega), Nat.testBit_mod_two_pow, Nat.testBit_div_two_pow]
    by_cases h1 : i < 52
    · have h2 : i < 63 := by omega
      have h3 : i < 64 := by omega
      have h4 : ¬ 52 ≤ i := by omega
      simp [h1, h2, h3, h4]
    · by_cases h2 : i < 63
      · have h3 : i < 64 := by omega
        have h4 : 52 ≤ i := by omega
        have h5 : i - 52 < 11 := by omega
        simp [h1, h2, h3, h4, h5]
      · by_cases h3 : i < 64
        · have h5 : ¬ i - 52 < 11 := by omega
          rw [if_neg h2, show i - 63 + 63 = i from by omega]
          simp [h3, h5]
        · rw [if_neg h2, show i - 63 + 63 = i from by omega]
          have : a.testBit i = false := Nat.testBit_lt_two_pow (Nat.lt_of_lt_of_le h (Nat.pow_le_pow_right (by decide) (by omega)))
          simp [h3, this]
  unfold bits
  show IntKind.u64.wrap (((BitVec.ofInt 64 (fbits a) &&& ~~~ BitVec.ofInt 64 9218868437227405312).toNat : Nat) : Int) = _
  rw [e]
  simp only [IntKind.wrap]; simp [IntKind.signed, IntKind.bits]; omega
theorem of_nat (n : Nat) : BitVec.ofInt 64 (n : Int) = BitVec.ofNat 64 n := by simp
theorem field_i64 {a : Nat} (h : a < 2 ^ 64) : bits .and .i64 (wrap64 ((fbits a) / 4503599627370496)) 2047 = ((a / 2 ^ 52 % 2048 : Nat) : Int) := by
  have h2 : wrap64 ((fbits a) / 4503599627370496) = ((a / 2 ^ 52 : Nat) : Int) := by unfold fbits wrap64; omega
  rw [h2]
  have e : (BitVec.ofInt 64 ((a / 2 ^ 52 : Nat) : Int) &&& BitVec.ofInt 64 2047).toNat = a / 2 ^ 52 % 2048 := by
    have ha : BitVec.ofInt 64 ((a / 2 ^ 52 : Nat) : Int) = BitVec.ofNat 64 (a / 2 ^ 52) := of_nat _
    have hm : BitVec.ofInt 64 2047 = BitVec.ofNat 64 (2 ^ 11 - 1) := by decide
    rw [ha, hm, BitVec.toNat_and, BitVec.toNat_ofNat, BitVec.toNat_ofNat, Nat.mod_eq_of_lt (by omega), Nat.mod_eq_of_lt (by omega), Nat.and_two_pow_sub_one_eq_mod]
  unfold bits
  show IntKind.i64.wrap (((BitVec.ofInt 64 ((a / 2 ^ 52 : Nat) : Int) &&& BitVec.ofInt 64 2047).toNat : Nat) : Int) = _
  rw [e]
  simp only [IntKind.wrap]; simp [IntKind.signed, IntKind.bits]; omega
theorem join_exp {m s F : Nat} (hm : m < 2 ^ 52) (hs : s ≤ 1) (hF : F < 2048) : bits .or .u64 ((m + s * 2 ^ 63 : Nat) : Int) ((F * 2 ^ 52 : Nat) : Int) = ((m + F * 2 ^ 52 + s * 2 ^ 63 : Nat) : Int) := by
  have e : (BitVec.ofInt 64 ((m + s * 2 ^ 63 : Nat) : Int) ||| BitVec.ofInt 64 ((F * 2 ^ 52 : Nat) : Int)).toNat = m + F * 2 ^ 52 + s * 2 ^ 63 := by
    rw [of_nat, of_nat, BitVec.toNat_or, BitVec.toNat_ofNat, BitVec.toNat_ofNat, Nat.mod_eq_of_lt (by omega), Nat.mod_eq_of_lt (by omega)]
    have h1 : m + s * 2 ^ 63 = 2 ^ 52 * (2 ^ 11 * s) ||| m := by rw [← Nat.two_pow_add_eq_or_of_lt hm]; omega
    have h2 : 2 ^ 11 * s ||| F = 2 ^ 11 * s + F := by rw [← Nat.two_pow_add_eq_or_of_lt (show F < 2 ^ 11 from hF)]
    rw [h1, Nat.or_assoc, Nat.or_comm m, ← Nat.or_assoc, show 2 ^ 52 * (2 ^ 11 * s) = (2 ^ 11 * s) <<< 52 from by rw [Nat.shiftLeft_eq, Nat.mul_comm], show F * 2 ^ 52 = F <<< 52 from by rw [Nat.shiftLeft_eq], ← Nat.shiftLeft_or_distrib, h2, Nat.shiftLeft_eq, Nat.mul_comm _ (2 ^ 52), ← Nat.two_pow_add_eq_or_of_lt hm]
    rw [Nat.shiftLeft_eq]; omega
  unfold bits
  show IntKind.u64.wrap (((BitVec.ofInt 64 ((m + s * 2 ^ 63 : Nat) : Int) ||| BitVec.ofInt 64 ((F * 2 ^ 52 : Nat) : Int)).toNat : Nat) : Int) = _
  rw [e]
  have : (m + F * 2 ^ 52 + s * 2 ^ 63) < 2 ^ 64 := by omega
  generalize m + F * 2 ^ 52 + s * 2 ^ 63 = y at *
  simp only [IntKind.wrap]; simp [IntKind.signed, IntKind.bits]; omega
theorem not_inf {y : Nat} (hy : Fini y) : math_IsInf.f y 0 = some false := by
  have hmx : Fini 9218868437227405311 := ⟨by decide, by decide⟩
  unfold math_IsInf.f
  rw [if_pos rfl, abs_some hy.2]; simp only [Option.bind_some]
  rw [gt_fin hy.pos hmx, fval_nonneg (b := y % 2 ^ 63) (by omega), fval_nonneg (b := 9218868437227405311) (by decide), fmag_pos]
  refine congrArg some (decide_eq_false ?_)
  have hb : fmag 9218868437227405311 = (2 ^ 53 - 1) * 2 ^ 2045 := by
    rw [fmag_sig, show fsig 9218868437227405311 = 2 ^ 53 - 1 from by decide, show fpl 9218868437227405311 = 2045 from by decide]
  rw [hb, fmag_sig]
  have h1 := fsig_lt y
  have h2 := hy.fpl_le
  have h3 : fsig y * 2 ^ fpl y ≤ (2 ^ 53 - 1) * 2 ^ 2045 := Nat.mul_le_mul (by omega) (Nat.pow_le_pow_right (by decide) h2)
  intro hh
  exact absurd h3 (Nat.not_le.2 (Int.ofNat_lt.1 hh))
theorem not_nan {y : Nat} (hy : Fini y) : math_IsNaN.f y = some false := by
  unfold math_IsNaN.f; rw [bne, eq_fin hy hy]; simp
def ldw (x : Nat) (F : Nat) : Nat := x % 2 ^ 52 + F * 2 ^ 52 + x / 2 ^ 63 * 2 ^ 63
theorem ldw_facts {x F : Nat} (hx : Fini x) (h1 : 2 ^ 52 ≤ x % 2 ^ 63) (hF1 : 1 ≤ F) (hF2 : F ≤ 2046) : Fini (ldw x F) ∧ fsig (ldw x F) = fsig x ∧ fpl (ldw x F) = F - 1 ∧ fsgn (ldw x F) = fsgn x := by
  have hx2 := hx.2
  have hs : x / 2 ^ 63 ≤ 1 := by omega
  have e1 : ldw x F % 2 ^ 63 = x % 2 ^ 52 + F * 2 ^ 52 := by unfold ldw; omega
  have e2 : ldw x F / 2 ^ 63 = x / 2 ^ 63 := by unfold ldw; omega
  have e3 : ldw x F % 2 ^ 52 = x % 2 ^ 52 := by unfold ldw; omega
  refine ⟨⟨by rw [e1]; omega, by unfold ldw; omega⟩, ?_, ?_, ?_⟩
  · unfold fsig; rw [e1, e3, if_neg (by omega), if_neg (by omega)]
  · unfold fpl; rw [e1]; omega
  · unfold fsgn; rw [e2]
theorem ldexp_norm {x F : Nat} {e : Int} (hx : Fini x) (h1 : 2 ^ 52 ≤ x % 2 ^ 63) (hF : ((x % 2 ^ 63 / 2 ^ 52 : Nat) : Int) + e = F) (hF1 : 53 ≤ F) (hF2 : F ≤ 2046) :
    ∃ r, math_Ldexp.f x e = some r ∧ Fini r ∧ fval r = fval (ldw x F) := by
  obtain ⟨l1, l2, l3, l4⟩ := ldw_facts hx h1 (by omega) hF2
  have hm : fmag x ≠ 0 := by unfold fmag; rw [if_neg (by omega)]; have := Nat.two_pow_pos (x % 2 ^ 63 / 2 ^ 52 - 1); exact Nat.mul_ne_zero (by omega) (by omega)
  have c0 : (FloatKind.f64.format.order x 0 == some .eq) = false := by
    rw [eq_fin hx ⟨by decide, by decide⟩, show fval 0 = 0 from by decide]
    refine decide_eq_false ?_
    rw [fval_zero_iff]; exact hm
  have hn : math_normalize.f x = some (x, 0) := by
    unfold math_normalize.f
    rw [abs_some hx.2]; simp only [Option.bind_some]
    rw [lt_fin hx.pos (y := 4503599627370496) ⟨by decide, by decide⟩, fval_nonneg (b := x % 2 ^ 63) (by omega), fval_nonneg (b := 4503599627370496) (by decide), fmag_pos, show fmag 4503599627370496 = 2 ^ 52 from by decide]
    have : 2 ^ 52 ≤ fmag x := by
      unfold fmag; rw [if_neg (by omega)]
      exact Nat.le_trans (Nat.le_add_right _ _) (Nat.le_mul_of_pos_right _ (Nat.two_pow_pos _))
    rw [if_neg (by simp; omega)]
  have hE : x / 2 ^ 52 % 2048 = x % 2 ^ 63 / 2 ^ 52 := by omega
  have hone : Fini 4607182418800017408 := ⟨by decide, by decide⟩
  have hr : Rnd.R (fval (ldw x F)) = fval (ldw x F) := Rnd.R_rep (Rnd.fval_rep _)
  obtain ⟨r, r1, r2, r3⟩ := mul_fin (z := fval (ldw x F)) hone l1 (.inl (by rw [l3, show fpl 4607182418800017408 = 1022 from by decide]; omega)) (by rw [show fval 4607182418800017408 = 2 ^ 1074 from by decide +kernel, Int.mul_comm]) (by rw [hr, natAbs_fval]; exact l1.lt)
  rw [hr] at r3
  refine ⟨r, ?_, r2, r3⟩
  unfold math_Ldexp.f math_ldexp.f
  rw [if_neg (by rw [c0]; decide), not_inf hx]; simp only [Option.bind_some]
  rw [if_neg (by decide), not_nan hx]; simp only [Option.bind_some]
  rw [if_neg (by decide), hn]; simp only [Option.bind_some]
  rw [field_i64 hx.2, hE]
  have hx2 := hx.2
  have hx1 := hx.1
  have hj := join_exp (m := x % 2 ^ 52) (s := x / 2 ^ 63) (F := F) (by omega) (by omega) (by omega)
  generalize x % 2 ^ 63 / 2 ^ 52 = E at *
  have hEb : E ≤ 2046 := by omega
  have w1 : wrap64 (e + 0) = e := w64' (by omega) (by omega) (by omega)
  have w2 : wrap64 ((E : Int) - 1023) = (E : Int) - 1023 := w64' rfl (by omega) (by omega)
  have w3 : wrap64 (e + ((E : Int) - 1023)) = (F : Int) - 1023 := w64' (by omega) (by omega) (by omega)
  have w4 : wrap64 ((F : Int) - 1023 + 1023) = F := w64' (by omega) (by omega) (by omega)
  have w5 : IntKind.u64.wrap (F : Int) = F := by simp only [IntKind.wrap]; simp [IntKind.signed, IntKind.bits]; omega
  have w6 : IntKind.u64.wrap ((F : Int) * 4503599627370496) = ((F * 2 ^ 52 : Nat) : Int) := by simp only [IntKind.wrap]; simp [IntKind.signed, IntKind.bits]; omega
  have n1 : ¬ (F : Int) - 1023 < -1075 := by clear w1 w2 w3 w4 w5 w6; omega
  have n2 : ¬ (F : Int) - 1023 > 1023 := by clear w1 w2 w3 w4 w5 w6; omega
  have n3 : ¬ (F : Int) - 1023 < -1022 := by clear w1 w2 w3 w4 w5 w6; omega
  rw [w1, w2, w3, if_neg n1, if_neg n2, if_neg n3, w4, w5, w6, mask_exp64 hx.2, hj]
  have hf : fof ((x % 2 ^ 52 + F * 2 ^ 52 + x / 2 ^ 63 * 2 ^ 63 : Nat) : Int) = ldw x F := by unfold fof ldw; exact Int.toNat_natCast _
  rw [hf, r1]
  rfl
end Go.Proofs.YtioahkblhekgpaaGreatDoor.FltP
namespace Go.Proofs.YtioahkblhekgpaaGreatDoor.Eft
set_option exponentiation.threshold 4000
open Go.RowKit Go.Proofs.YtioahkblhekgpaaGreatDoor.FltP Go.Proofs.YtioahkblhekgpaaGreatDoor.EF Go.Proofs.YtioahkblhekgpaaGreatDoorW.PrintWords Go.Proofs.YtioahkblhekgpaaGreatDoorW.PrintLast Go.Proofs.YtioahkblhekgpaaGreatDoorW.PrintMore Ieee
open Go.Proofs.YtioahkblhekgpaaGreatDoor.Rnd (R Rep)
theorem abs_ef {x : Nat} (h : x < 2 ^ 64) : EF.math_Abs.f x = some (x % 2 ^ 63) := abs_some h
theorem fval_abs {x : Nat} : fval (x % 2 ^ 63) = fmag x := by rw [fval_nonneg (by omega), fmag_pos]
theorem fval_c {c : Nat} {m : Nat} (h1 : c < 2 ^ 63) (h2 : fmag c = m) : fval c = m := by rw [fval_nonneg h1, h2]
theorem R_lt {z : Int} {k : Nat} (h : z.natAbs ≤ 2 ^ k) : (R z).natAbs ≤ 2 ^ k := by
  have hk : Rep ((2 : Int) ^ k) := ⟨1, k, by rw [Int.natAbs_pow]; simp, by decide⟩
  have e : ((2 : Int) ^ k).natAbs = 2 ^ k := by rw [Int.natAbs_pow]; rfl
  have p : (0 : Int) < 2 ^ k := Int.pow_pos (by decide)
  have h1 := Rnd.R_le (z := z) hk (by omega)
  have h2 := Rnd.R_ge (z := z) hk.neg (by omega)
  omega
theorem order_some {x y : Nat} (hx : Fini x) (hy : Fini y) : FloatKind.f64.format.order x y = some (compare (fval x) (fval y)) := order_fin hx hy
theorem tame_ev {x : Nat} (hx : Fini x) (h : fmag x ≤ 2 ^ 2074) : eft_Tame.f x = some true := by
  unfold eft_Tame.f
  rw [abs_ef hx.2]
  simp only [Option.bind_some]
  rw [order_some hx.pos (y := 9110782046170513408) ⟨by decide, by decide⟩, fval_abs, fval_c (c := 9110782046170513408) (m := 2 ^ 2074) (by decide) (by decide +kernel)]
  rcases Nat.lt_or_eq_of_le h with h | h
  · rw [Int.compare_eq_lt.mpr (by omega)]; rfl
  · rw [Int.compare_eq_eq.mpr (by omega)]; rfl
theorem sum_ev {a b : Nat} (ha : Fini a) (hb : Fini b) (h1 : fmag a ≤ 2 ^ 2074) (h2 : fmag b ≤ 2 ^ 2074) :
    ∃ x y, eft_Sum.f a b = some (x, y) ∧ Fini x ∧ Fini y ∧ fval x = R (fval a + fval b) ∧ fval y = fval a + fval b - R (fval a + fval b) := by
  unfold eft_Sum.f
  rw [tame_ev ha h1, tame_ev hb h2]
  simp only [Option.bind_some, Bool.and_true, if_true]
  have ka := natAbs_fval a
  have kb := natAbs_fval b
  have big : (2 : Nat) ^ 2080 < 2 ^ 2098 := by decide
  have e4 : (2 : Nat) ^ 2074 * 2 = 2 ^ 2075 := by decide
  have e5 : (2 : Nat) ^ 2075 * 2 = 2 ^ 2076 := by decide
  have e6 : (2 : Nat) ^ 2076 * 2 = 2 ^ 2077 := by decide
  have e7 : (2 : Nat) ^ 2077 * 2 = 2 ^ 2078 := by decide
  have e8 : (2 : Nat) ^ 2078 * 2 = 2 ^ 2079 := by decide
  have e9 : (2 : Nat) ^ 2079 * 2 = 2 ^ 2080 := by decide
  have bx := R_lt (z := fval a + fval b) (k := 2075) (by omega)
  obtain ⟨x, f1, x1, x2⟩ := add_fin ha hb (by omega)
  rw [f1]; simp only [Option.bind_some]
  have bc := R_lt (z := fval x - fval a) (k := 2076) (by omega)
  obtain ⟨c, f2, c1, c2⟩ := sub_fin x1 ha (by omega)
  rw [f2]; simp only [Option.bind_some]
  have bd := R_lt (z := fval x - fval c) (k := 2077) (by omega)
  obtain ⟨d, f3, d1, d2⟩ := sub_fin x1 c1 (by omega)
  rw [f3]; simp only [Option.bind_some]
  have bp := R_lt (z := fval a - fval d) (k := 2078) (by omega)
  obtain ⟨p, f4, p1, p2⟩ := sub_fin ha d1 (by omega)
  rw [f4]; simp only [Option.bind_some]
  have bq := R_lt (z := fval b - fval c) (k := 2077) (by omega)
  obtain ⟨q, f5, q1, q2⟩ := sub_fin hb c1 (by omega)
  rw [f5]; simp only [Option.bind_some]
  have b_y := R_lt (z := fval p + fval q) (k := 2079) (by omega)
  obtain ⟨y, f6, y1, y2⟩ := add_fin p1 q1 (by omega)
  rw [f6]; simp only [Option.bind_some]
  refine ⟨x, y, rfl, x1, y1, x2, ?_⟩
  rw [y2, p2, q2, d2, c2, x2]
  exact Rnd.knuth (Rnd.fval_rep a) (Rnd.fval_rep b)
theorem safe_ev {x : Nat} (hx : Fini x) (h1 : 2 ^ 624 ≤ fmag x) (h2 : fmag x ≤ 2 ^ 1524) : eft_Safe.f x = some true := by
  unfold eft_Safe.f
  rw [abs_ef hx.2]
  simp only [Option.bind_some]
  have h0 : (0 : Nat) < 2 ^ 624 := by decide
  rw [order_some hx.pos (y := 0) ⟨by decide, by decide⟩, order_some hx.pos (y := 2580562586483294208) ⟨by decide, by decide⟩, order_some hx.pos (y := 6633802251116740608) ⟨by decide, by decide⟩, fval_abs, fval_c (c := 2580562586483294208) (m := 2 ^ 624) (by decide) (by decide +kernel), fval_c (c := 6633802251116740608) (m := 2 ^ 1524) (by decide) (by decide +kernel), fval_c (c := 0) (m := 0) (by decide) (by decide +kernel)]
  have n0 : compare ((fmag x : Nat) : Int) ((0 : Nat) : Int) = .gt := Int.compare_eq_gt.mpr (by omega)
  rw [n0]
  simp only [show (some Ordering.gt == some Ordering.eq) = false from rfl, Bool.false_eq_true, if_false]
  have n1 : (some (compare ((fmag x : Nat) : Int) ((2 ^ 624 : Nat) : Int)) == some .gt || some (compare ((fmag x : Nat) : Int) ((2 ^ 624 : Nat) : Int)) == some .eq) = true := by
    rcases Nat.lt_or_eq_of_le h1 with h | h
    · rw [Int.compare_eq_gt.mpr (by omega)]; rfl
    · rw [Int.compare_eq_eq.mpr (by omega)]; rfl
  rw [if_pos n1]
  rcases Nat.lt_or_eq_of_le h2 with h | h
  · rw [Int.compare_eq_lt.mpr (by omega)]; rfl
  · rw [Int.compare_eq_eq.mpr (by omega)]; rfl
def sig (x : Nat) : Int := if fsgn x then -(fsig x : Int) else fsig x
theorem fval_sig (x : Nat) : fval x = 2 ^ fpl x * sig x := by
  rw [fval_sgn, sig, fmag_sig, Int.natCast_mul, Int.natCast_pow]
  cases fsgn x
  · simp only [Bool.false_eq_true, if_false]; rw [Int.mul_comm]; rfl
  · simp only [if_true]; rw [Int.mul_comm, Int.mul_neg]; rfl
theorem sig_abs (x : Nat) : (sig x).natAbs = fsig x := by unfold sig; split <;> simp
theorem sig_norm {x : Nat} (h : 2 ^ 53 ≤ fmag x) : 2 ^ 52 ≤ (sig x).natAbs ∧ (sig x).natAbs < 2 ^ 53 := by
  rw [sig_abs]
  refine ⟨?_, fsig_lt x⟩
  unfold fmag at h
  unfold fsig
  split at h
  · have : (2 : Nat) ^ 52 < 2 ^ 53 := by decide
    omega
  · rw [if_neg (by assumption)]; omega
theorem two_mul_abs (k : Nat) (z : Int) : (2 ^ k * z).natAbs = 2 ^ k * z.natAbs := by rw [Int.natAbs_mul, Int.natAbs_pow]; rfl
theorem pow_mul_le {k m n : Nat} {z : Int} (h : z.natAbs ≤ 2 ^ m) (hk : k + m ≤ n) : (2 ^ k * z).natAbs ≤ 2 ^ n := by
  rw [two_mul_abs]
  exact Nat.le_trans (Nat.mul_le_mul_left _ h) (by rw [← Nat.pow_add]; exact Nat.pow_le_pow_right (by decide) hk)
theorem lt_of_pow {a k n : Nat} (h : a ≤ 2 ^ k) (hk : k < n) : a < 2 ^ n := Nat.lt_of_le_of_lt h (Nat.pow_lt_pow_right (by decide) hk)
theorem fpl_le_of {x k : Nat} (h : fmag x ≤ 2 ^ k) (h53 : 2 ^ 53 ≤ fmag x) : fpl x + 52 ≤ k := by
  have h1 := (sig_norm h53).1
  rw [sig_abs] at h1
  rw [fmag_sig] at h
  have : 2 ^ (fpl x + 52) ≤ 2 ^ k := Nat.le_trans (by rw [Nat.pow_add, Nat.mul_comm]; exact Nat.mul_le_mul_right _ h1) h
  exact (Nat.pow_le_pow_iff_right (by decide)).mp this
theorem split_ev {a : Nat} (ha : Fini a) (h1 : 2 ^ 624 ≤ fmag a) (h2 : fmag a ≤ 2 ^ 1524) :
    ∃ p q x y, eft_Split.f a = some (p, q) ∧ Fini p ∧ Fini q ∧ fval p = 2 ^ fpl a * x ∧ fval q = 2 ^ fpl a * y ∧ x + y = sig a ∧ (2 : Int) ^ 27 ∣ x ∧ y.natAbs ≤ 2 ^ 26 ∧ x.natAbs ≤ 2 ^ 53 := by
  have h53 : 2 ^ 53 ≤ fmag a := Nat.le_trans (Nat.pow_le_pow_right (by decide) (by decide)) h1
  obtain ⟨n1, n2⟩ := sig_norm h53
  obtain ⟨x, y, vx, vy, a3, a4, a5, a6⟩ := Rnd.veltkamp n1 n2
  have hpl := fpl_ge h1
  have hle := fpl_le_of h2 h53
  have hF : Fini 4728779608772575232 := ⟨by decide, by decide⟩
  have hV : fval 4728779608772575232 = 134217729 * 2 ^ 1074 := by decide +kernel
  have hP : fpl 4728779608772575232 = 1049 := by decide +kernel
  unfold eft_Split.f
  rw [safe_ev ha h1 h2]
  simp only [Option.bind_some, if_true]
  have ea := fval_sig a
  generalize hi : fpl a = i at *
  generalize sig a = A at *
  obtain ⟨c, f1, c1, c2⟩ := mul_fin (z := 2 ^ i * (134217729 * A)) hF ha (.inl (by rw [hP, hi]; omega)) (by rw [hV, ea]; generalize (2 : Int) ^ 1074 = T; generalize (2 : Int) ^ i = I; grind) (lt_of_pow (R_lt (pow_mul_le (m := 81) (by omega) (Nat.le_refl _))) (by omega))
  rw [f1]; simp only [Option.bind_some]
  rw [Rnd.R_scale] at c2
  have bc := R_lt (z := 134217729 * A) (k := 81) (by omega)
  have e1 : fval c - fval a = 2 ^ i * (R (134217729 * A) - A) := by rw [c2, ea, Int.mul_sub]
  obtain ⟨d, f2, d1, d2⟩ := sub_fin c1 ha (by rw [e1]; exact lt_of_pow (R_lt (pow_mul_le (m := 82) (by omega) (Nat.le_refl _))) (by omega))
  rw [f2]; simp only [Option.bind_some]
  rw [e1, Rnd.R_scale] at d2
  have bd := R_lt (z := R (134217729 * A) - A) (k := 82) (by omega)
  have e2 : fval c - fval d = 2 ^ i * (R (134217729 * A) - R (R (134217729 * A) - A)) := by rw [c2, d2, Int.mul_sub]
  obtain ⟨p, f3, p1, p2⟩ := sub_fin c1 d1 (by rw [e2]; exact lt_of_pow (R_lt (pow_mul_le (m := 83) (by omega) (Nat.le_refl _))) (by omega))
  rw [f3]; simp only [Option.bind_some]
  rw [e2, Rnd.R_scale, vx] at p2
  have e3 : fval a - fval p = 2 ^ i * (A - x) := by rw [p2, ea, Int.mul_sub]
  obtain ⟨q, f4, q1, q2⟩ := sub_fin ha p1 (by rw [e3]; exact lt_of_pow (R_lt (pow_mul_le (m := 54) (by omega) (Nat.le_refl _))) (by omega))
  rw [f4]; simp only [Option.bind_some]
  rw [e3, Rnd.R_scale, vy] at q2
  exact ⟨p, q, x, y, rfl, p1, q1, p2, q2, a3, a4, a5, a6⟩
theorem mul_parts {p r i j e : Nat} {P Q : Int} (fp : Fini p) (fr : Fini r) (vp : fval p = 2 ^ i * P) (vr : fval r = 2 ^ j * Q) (he : i + j = e + 1074) (h : 106 ≤ e) (hb : (P * Q).natAbs ≤ 2 ^ 106) (hu : e ≤ 1900) :
    ∃ m, floatBits .mul .f64 p r = some m ∧ Fini m ∧ fval m = 2 ^ e * R (P * Q) := by
  have hP : (2 : Int) ^ i * 2 ^ j = 2 ^ e * 2 ^ 1074 := by rw [← Int.pow_add, ← Int.pow_add, he]
  have low : ∀ {x k : Nat} {Z : Int}, fval x = 2 ^ k * Z → Z ≠ 0 → k < 53 + fpl x := fun {x k Z} hv hz => fpl_ge (by
    rw [← natAbs_fval, hv, two_mul_abs]; exact Nat.le_mul_of_pos_right _ (by omega))
  have hpl : 1074 ≤ fpl p + fpl r ∨ fval p = 0 ∨ fval r = 0 := by
    by_cases h1 : P = 0
    · right; left; rw [vp, h1, Int.mul_zero]
    · by_cases h2 : Q = 0
      · right; right; rw [vr, h2, Int.mul_zero]
      · left; have := low vp h1; have := low vr h2; omega
  obtain ⟨m, f, m1, m2⟩ := mul_fin (z := 2 ^ e * (P * Q)) fp fr hpl (by rw [vp, vr]; generalize (2 : Int) ^ 1074 = T at *; generalize (2 : Int) ^ i = I at *; generalize (2 : Int) ^ j = J at *; generalize (2 : Int) ^ e = E at *; grind)
    (lt_of_pow (R_lt (pow_mul_le hb (Nat.le_refl _))) (by omega))
  exact ⟨m, f, m1, by rw [m2, Rnd.R_scale]⟩
theorem sub_parts {p r e : Nat} {P Q : Int} (fp : Fini p) (fr : Fini r) (vp : fval p = 2 ^ e * P) (vr : fval r = 2 ^ e * Q) (hb : (P - Q).natAbs ≤ 2 ^ 120) (hu : e ≤ 1900) :
    ∃ m, floatBits .sub .f64 p r = some m ∧ Fini m ∧ fval m = 2 ^ e * R (P - Q) := by
  have hv : fval p - fval r = 2 ^ e * (P - Q) := by rw [vp, vr, Int.mul_sub]
  obtain ⟨m, f, m1, m2⟩ := sub_fin fp fr (by rw [hv]; exact lt_of_pow (R_lt (pow_mul_le hb (Nat.le_refl _))) (by omega))
  exact ⟨m, f, m1, by rw [m2, hv, Rnd.R_scale]⟩
set_option maxHeartbeats 2000000 in
theorem prod_ev {a b Ga Gb : Nat} {z : Int} (ha : Fini a) (hb : Fini b) (a1 : 2 ^ 624 ≤ fmag a) (a2 : fmag a ≤ 2 ^ 1524) (b1 : 2 ^ 624 ≤ fmag b) (b2 : fmag b ≤ 2 ^ 1524)
    (ga : 2 ^ Ga ≤ fmag a) (gb : 2 ^ Gb ≤ fmag b) (hG : 1290 ≤ Ga + Gb) (hz : fval a * fval b = z * 2 ^ 1074) :
    ∃ x y, eft_Prod.f a b = some (x, y) ∧ Fini x ∧ Fini y ∧ fval x = R z ∧ fval y = z - R z := by
  have a53 : 2 ^ 53 ≤ fmag a := Nat.le_trans (Nat.pow_le_pow_right (by decide) (by decide)) a1
  have b53 : 2 ^ 53 ≤ fmag b := Nat.le_trans (Nat.pow_le_pow_right (by decide) (by decide)) b1
  have na := sig_norm a53
  have nb := sig_norm b53
  have pa := fpl_ge ga
  have pb := fpl_ge gb
  have la := fpl_le_of a2 a53
  have lb := fpl_le_of b2 b53
  obtain ⟨p, q, p', q', f1, fp, fq, vp, vq, s1, s2, s3, s4⟩ := split_ev ha a1 a2
  obtain ⟨r, s, r', s', f2, fr, fs, vr, vs, t1, t2, t3, t4⟩ := split_ev hb b1 b2
  obtain ⟨d1, d2, d3, d4, d5, d6, d7, d8⟩ := Rnd.dekker na.1 na.2 nb.1 nb.2 s1 t1 s2 s3 s4 t2 t3 t4
  unfold eft_Prod.f
  rw [safe_ev ha a1 a2, safe_ev hb b1 b2]
  simp only [Option.bind_some, Bool.and_true, if_true]
  have ea := fval_sig a
  have eb := fval_sig b
  generalize hi : fpl a = i at *
  generalize hj : fpl b = j at *
  generalize sig a = A at *
  generalize sig b = B at *
  obtain ⟨e, he⟩ : ∃ e, i + j = e + 1074 := ⟨i + j - 1074, by omega⟩
  have hP : (2 : Int) ^ i * 2 ^ j = 2 ^ e * 2 ^ 1074 := by rw [← Int.pow_add, ← Int.pow_add, he]
  have hzz : z = 2 ^ e * (A * B) := by
    have : z * 2 ^ 1074 = 2 ^ e * (A * B) * 2 ^ 1074 := by
      rw [← hz, ea, eb]; generalize (2 : Int) ^ 1074 = T at *; generalize (2 : Int) ^ i = I at *; generalize (2 : Int) ^ j = J at *; generalize (2 : Int) ^ e = E at *; grind
    exact Int.eq_of_mul_eq_mul_right (by decide) this
  have bd : ∀ {u v : Int} {m n : Nat}, u.natAbs ≤ 2 ^ m → v.natAbs ≤ 2 ^ n → m + n ≤ 106 → (u * v).natAbs ≤ 2 ^ 106 := fun {u v m n} hu hv hmn => by
    rw [Int.natAbs_mul]; exact Nat.le_trans (Nat.mul_le_mul hu hv) (by rw [← Nat.pow_add]; exact Nat.pow_le_pow_right (by decide) hmn)
  have bAB := bd (m := 53) (n := 53) (Nat.le_of_lt na.2) (Nat.le_of_lt nb.2) (by decide)
  have bpr := bd s4 t4 (by decide)
  have bqr := bd s3 t4 (by decide)
  have bps := bd s4 t3 (by decide)
  have bqs := bd s3 t3 (by decide)
  have bR := R_lt bAB
  obtain ⟨x1, g1, x11, x12⟩ := mul_parts ha hb ea eb he (by omega) bAB (by omega)
  rw [g1, f1, f2]; simp only [Option.bind_some]
  obtain ⟨m1, g2, m11, m12⟩ := mul_parts fp fr vp vr he (by omega) bpr (by omega)
  rw [g2]; simp only [Option.bind_some]
  rw [d1] at m12
  obtain ⟨e1, g3, e11, e12⟩ := sub_parts x11 m11 x12 m12 (by omega) (by omega)
  rw [g3]; simp only [Option.bind_some]
  rw [d5] at e12
  obtain ⟨m2, g4, m21, m22⟩ := mul_parts fq fr vq vr he (by omega) bqr (by omega)
  rw [g4]; simp only [Option.bind_some]
  rw [d2] at m22
  obtain ⟨e2, g5, e21, e22⟩ := sub_parts e11 m21 e12 m22 (by omega) (by omega)
  rw [g5]; simp only [Option.bind_some]
  rw [d6] at e22
  obtain ⟨m3, g6, m31, m32⟩ := mul_parts fp fs vp vs he (by omega) bps (by omega)
  rw [g6]; simp only [Option.bind_some]
  rw [d3] at m32
  obtain ⟨e3, g7, e31, e32⟩ := sub_parts e21 m31 e22 m32 (by omega) (by omega)
  rw [g7]; simp only [Option.bind_some]
  rw [d7] at e32
  obtain ⟨m4, g8, m41, m42⟩ := mul_parts fq fs vq vs he (by omega) bqs (by omega)
  rw [g8]; simp only [Option.bind_some]
  rw [d4] at m42
  obtain ⟨y, g9, y1, y2⟩ := sub_parts m41 e31 m42 e32 (by omega) (by omega)
  rw [g9]; simp only [Option.bind_some]
  rw [d8] at y2
  refine ⟨x1, y, rfl, x11, y1, by rw [x12, hzz, Rnd.R_scale], ?_⟩
  rw [y2, hzz, Rnd.R_scale, Int.mul_sub]
end Go.Proofs.YtioahkblhekgpaaGreatDoor.Eft
namespace Go.Proofs.YtioahkblhekgpaaGreatDoor.No
open Go.Proofs.YtioahkblhekgpaaGreatDoor.FltP Go.Proofs.YtioahkblhekgpaaGreatDoor.Rnd
def O (a b : Int) : Prop := ∃ t : Nat, a.natAbs < 2 ^ t ∧ (2 : Int) ^ t ∣ b
def NO (l : List Int) : Prop := l.Pairwise O
def growZ : List Int → Int → List Int
  | [], q => if q ≠ 0 then [q] else []
  | x :: xs, q => if q + x - R (q + x) ≠ 0 then (q + x - R (q + x)) :: growZ xs (R (q + x)) else growZ xs (R (q + x))
def downZ : List Int → Int → List Int → List Int × Int
  | [], q, g => (g, q)
  | x :: xs, q, g => if q + x - R (q + x) ≠ 0 then downZ xs (q + x - R (q + x)) (R (q + x) :: g) else downZ xs (R (q + x)) g
def neatZ (e : List Int) : List Int := match e.reverse with
  | [] => []
  | q :: rem => growZ (downZ rem q []).1 (downZ rem q []).2
theorem growZ_sum : ∀ (l : List Int) (q : Int), (growZ l q).sum = l.sum + q
  | [], q => by unfold growZ; split <;> simp_all
  | x :: xs, q => by
    unfold growZ
    split
    · rw [List.sum_cons, growZ_sum, List.sum_cons]; omega
    · rw [growZ_sum, List.sum_cons]; omega
theorem downZ_sum : ∀ (l : List Int) (q : Int) (g : List Int), (downZ l q g).1.sum + (downZ l q g).2 = l.sum + q + g.sum
  | [], q, g => by simp [downZ]; omega
  | x :: xs, q, g => by
    unfold downZ
    split
    · rw [downZ_sum, List.sum_cons, List.sum_cons]; omega
    · rw [downZ_sum, List.sum_cons]; omega
theorem sum_rev (l : List Int) : l.reverse.sum = l.sum := by
  induction l with
  | nil => rfl
  | cons x xs ih => rw [List.reverse_cons, List.sum_append, ih]; simp; omega
theorem neatZ_sum (e : List Int) : (neatZ e).sum = e.sum := by
  unfold neatZ
  rw [← sum_rev e]
  split
  · next h => rw [h]
  · next q rem h => rw [h, growZ_sum, downZ_sum, List.sum_cons]; simp; omega
theorem growZ_ne : ∀ (l : List Int) (q : Int), ∀ y ∈ growZ l q, y ≠ 0
  | [], q => by unfold growZ; split <;> simp_all
  | x :: xs, q => by
    unfold growZ
    split
    · next h => intro y hy; rcases List.mem_cons.mp hy with rfl | hy; exact h; exact growZ_ne _ _ y hy
    · exact growZ_ne _ _
theorem growZ_len : ∀ (l : List Int) (q : Int), (growZ l q).length ≤ l.length + 1
  | [], q => by unfold growZ; split <;> simp
  | x :: xs, q => by
    unfold growZ
    have := growZ_len xs (R (q + x))
    split <;> simp <;> omega
theorem downZ_len : ∀ (l : List Int) (q : Int) (g : List Int), (downZ l q g).1.length ≤ l.length + g.length
  | [], q, g => by simp [downZ]
  | x :: xs, q, g => by
    unfold downZ
    split
    · have := downZ_len xs (q + x - R (q + x)) (R (q + x) :: g); simp at this ⊢; omega
    · have := downZ_len xs (R (q + x)) g; simp at this ⊢; omega
theorem neatZ_len (e : List Int) : (neatZ e).length ≤ e.length := by
  unfold neatZ
  have : e.reverse.length = e.length := List.length_reverse
  split
  · simp
  · next q rem h =>
    rw [h] at this
    have h1 := growZ_len (downZ rem q []).1 (downZ rem q []).2
    have h2 := downZ_len rem q []
    simp at this h2; omega
theorem growZ_rep : ∀ (l : List Int) (q : Int), Rep q → (∀ x ∈ l, Rep x) → ∀ y ∈ growZ l q, Rep y
  | [], q, hq, _ => by unfold growZ; split <;> simp_all
  | x :: xs, q, hq, hl => by
    have hx := hl x (by simp)
    unfold growZ
    have ih := growZ_rep xs (R (q + x)) (Rep_R _) (fun y hy => hl y (by simp [hy]))
    split
    · intro y hy; rcases List.mem_cons.mp hy with rfl | hy; exact (sum_rest hq hx).1; exact ih y hy
    · exact ih
theorem rest_low (z : Int) : O (z - R z) (R z) := by
  obtain ⟨k, k1, k2⟩ := grid_exists z
  have he := R_err k1
  have hp := Nat.two_pow_pos k
  refine ⟨k, by omega, ?_⟩
  rcases k2 with rfl | k2
  · exact one_dvd' _
  · refine grid_of_rep (Rep_R z) ?_
    have hk : Rep ((2 : Int) ^ (k + 52)) := ⟨1, k + 52, by rw [Int.natAbs_pow]; simp, by decide⟩
    have e : ((2 : Int) ^ (k + 52)).natAbs = 2 ^ (k + 52) := by rw [Int.natAbs_pow]; rfl
    have p : (0 : Int) < 2 ^ (k + 52) := Int.pow_pos (by decide)
    by_cases hz : 0 ≤ z
    · have := R_ge (z := z) hk (by omega); omega
    · have := R_le (z := z) hk.neg (by omega); omega
theorem O.le {a b c : Int} (h : O a b) (hc : c.natAbs ≤ a.natAbs) : O c b := by
  obtain ⟨t, h1, h2⟩ := h; exact ⟨t, by omega, h2⟩
theorem two_dvd {t u : Nat} (h : t ≤ u) : (2 : Int) ^ t ∣ 2 ^ u := ⟨2 ^ (u - t), by rw [← Int.pow_add, Nat.add_sub_cancel' h]⟩
theorem O.two {o a b : Int} (ha : O o a) (hb : O o b) : ∃ t : Nat, o.natAbs < 2 ^ t ∧ (2 : Int) ^ t ∣ a ∧ (2 : Int) ^ t ∣ b := by
  obtain ⟨t, h1, h2⟩ := ha
  obtain ⟨u, h3, h4⟩ := hb
  rcases Nat.le_total t u with h | h
  · exact ⟨t, h1, h2, Int.dvd_trans (two_dvd h) h4⟩
  · exact ⟨u, h3, Int.dvd_trans (two_dvd h) h2, h4⟩
theorem O.sum {o a b : Int} (ha : O o a) (hb : O o b) : O o (R (a + b)) ∧ O o (a + b - R (a + b)) ∧ O o (a + b) := by
  obtain ⟨t, h1, h2, h3⟩ := ha.two hb
  have h4 := Int.dvd_add h2 h3
  have h5 := R_grid h4
  exact ⟨⟨t, h1, h5⟩, ⟨t, h1, Int.dvd_sub h4 h5⟩, ⟨t, h1, h4⟩⟩
def Fit : Int → List Int → Prop
  | _, [] => True
  | q, x :: xs => (∀ z ∈ xs, O (q + x - R (q + x)) z) ∧ Fit (R (q + x)) xs
theorem growZ_no : ∀ (rem : List Int) (q : Int), Rep q → (∀ x ∈ rem, Rep x) → Fit q rem → NO (growZ rem q) ∧ ∀ o, O o q → (∀ z ∈ rem, O o z) → ∀ y ∈ growZ rem q, O o y
  | [], q, _, _, _ => by
    unfold growZ
    split
    · exact ⟨List.pairwise_singleton _ _, fun o h _ y hy => by rw [List.mem_singleton.mp hy]; exact h⟩
    · exact ⟨List.Pairwise.nil, fun o h _ y hy => by simp at hy⟩
  | x :: xs, q, hq, hl, hf => by
    obtain ⟨i1, i2⟩ := growZ_no xs (R (q + x)) (Rep_R _) (fun y hy => hl y (by simp [hy])) hf.2
    have all : ∀ o, O o q → (∀ z ∈ x :: xs, O o z) → ∀ y ∈ growZ xs (R (q + x)), O o y := fun o h1 h2 => i2 o (h1.sum (h2 x (by simp))).1 (fun z hz => h2 z (by simp [hz]))
    unfold growZ
    split
    · refine ⟨List.pairwise_cons.mpr ⟨fun y hy => i2 _ (rest_low _) hf.1 y hy, i1⟩, fun o h1 h2 y hy => ?_⟩
      rcases List.mem_cons.mp hy with rfl | hy
      · exact (h1.sum (h2 x (by simp))).2.1
      · exact all o h1 h2 y hy
    · exact ⟨i1, all⟩
theorem fit_of_no : ∀ (rem : List Int) (q : Int), Rep q → (∀ x ∈ rem, Rep x) → NO rem → Fit q rem
  | [], _, _, _, _ => trivial
  | x :: xs, q, hq, hl, hn => by
    obtain ⟨h1, h2⟩ := List.pairwise_cons.mp hn
    exact ⟨fun z hz => (h1 z hz).le (sum_rest hq (hl x (by simp))).2.2, fit_of_no xs _ (Rep_R _) (fun y hy => hl y (by simp [hy])) h2⟩
theorem grow_no {e : List Int} {b : Int} (hb : Rep b) (he : ∀ x ∈ e, Rep x) (hn : NO e) : NO (growZ e b) := (growZ_no e b hb he (fit_of_no e b hb he hn)).1
def Lad : List Int → Nat → Prop
  | [], _ => True
  | x :: xs, s => (2 : Int) ^ s ∣ x ∧ ∃ s', s + 2 ≤ s' ∧ x.natAbs ≤ 2 ^ s' ∧ Lad xs s'
theorem Lad.dvd : ∀ {g : List Int} {s : Nat}, Lad g s → ∀ z ∈ g, (2 : Int) ^ s ∣ z
  | [], _, _, z, hz => by simp at hz
  | x :: xs, s, ⟨h1, s', h2, _, h4⟩, z, hz => by
    rcases List.mem_cons.mp hz with rfl | hz
    · exact h1
    · exact Int.dvd_trans (two_dvd (by omega)) (Lad.dvd h4 z hz)
theorem R_pow {z : Int} {k : Nat} (h : z.natAbs ≤ 2 ^ k) : (R z).natAbs ≤ 2 ^ k := by
  have hk : Rep ((2 : Int) ^ k) := ⟨1, k, by rw [Int.natAbs_pow]; simp, by decide⟩
  have e : ((2 : Int) ^ k).natAbs = 2 ^ k := by rw [Int.natAbs_pow]; rfl
  have p : (0 : Int) < 2 ^ k := Int.pow_pos (by decide)
  have h1 := R_le (z := z) hk (by omega)
  have h2 := R_ge (z := z) hk.neg (by omega)
  omega
theorem fit_of_lad : ∀ (g : List Int) (s : Nat) (q : Int), Rep q → (∀ x ∈ g, Rep x) → Lad g s → q.natAbs ≤ 2 ^ (s + 1) → Fit q g
  | [], _, _, _, _, _, _ => trivial
  | x :: xs, s, q, hq, hl, ⟨h1, s', h2, h3, h4⟩, hb => by
    have hlt : (2 : Nat) ^ (s + 1) < 2 ^ s' := Nat.pow_lt_pow_right (by decide) (by omega)
    refine ⟨fun z hz => ⟨s', ?_, h4.dvd z hz⟩, fit_of_lad xs s' _ (Rep_R _) (fun y hy => hl y (by simp [hy])) h4 (R_pow ?_)⟩
    · have := (sum_rest hq (hl x (by simp))).2.1; omega
    · rw [Nat.pow_succ]; omega
def sumAbs (l : List Int) : Nat := (l.map Int.natAbs).sum
theorem sumAbs_cons (x : Int) (l : List Int) : sumAbs (x :: l) = x.natAbs + sumAbs l := by simp [sumAbs]
theorem desc_sum : ∀ (l : List Int) (t : Nat), l.Pairwise (fun a b => O b a) → (∀ x ∈ l, x ≠ 0) → (∀ x ∈ l, x.natAbs < 2 ^ t) → sumAbs l < 2 ^ t
  | [], t, _, _, _ => by simp [sumAbs]; exact Nat.two_pow_pos t
  | y :: ys, t, hp, h0, hb => by
    rw [sumAbs_cons]
    obtain ⟨h1, h2⟩ := List.pairwise_cons.mp hp
    have hy := h0 y (by simp)
    have hyb := hb y (by simp)
    cases ys with
    | nil => simpa [sumAbs] using hyb
    | cons z zs =>
      obtain ⟨u, u1, u2⟩ := h1 z (by simp)
      obtain ⟨h3, _⟩ := List.pairwise_cons.mp h2
      have hz := h0 z (by simp)
      have hlow : ∀ x ∈ z :: zs, x.natAbs < 2 ^ u := by
        intro x hx
        rcases List.mem_cons.mp hx with rfl | hx
        · exact u1
        · obtain ⟨v, v1, v2⟩ := h3 x hx
          have : 2 ^ v ≤ z.natAbs := Nat.le_of_dvd (by omega) (by have := Int.natAbs_dvd_natAbs.mpr v2; rwa [Int.natAbs_pow] at this)
          omega
      have ih := desc_sum (z :: zs) u h2 (fun x hx => h0 x (by simp [List.mem_cons.mp hx])) hlow
      have hd : 2 ^ u ∣ y.natAbs := by have := Int.natAbs_dvd_natAbs.mpr u2; rwa [Int.natAbs_pow] at this
      have hle : 2 ^ u ≤ y.natAbs := Nat.le_of_dvd (by omega) hd
      have hut : u ≤ t := by
        have : 2 ^ u < 2 ^ t := by omega
        exact Nat.le_of_lt ((Nat.pow_lt_pow_iff_right (by decide)).mp this)
      obtain ⟨c, hc⟩ := hd
      have ht : (2 : Nat) ^ t = 2 ^ u * 2 ^ (t - u) := by rw [← Nat.pow_add]; congr 1; omega
      rw [ht, hc] at hyb
      have hcl : c < 2 ^ (t - u) := Nat.lt_of_mul_lt_mul_left hyb
      have : 2 ^ u * (c + 1) ≤ 2 ^ u * 2 ^ (t - u) := Nat.mul_le_mul_left _ hcl
      rw [Nat.mul_succ] at this
      rw [ht, hc]; omega
theorem below_sum {l : List Int} {h : Int} (hp : l.Pairwise (fun a b => O b a)) (h0 : ∀ x ∈ l, x ≠ 0) (hh : h ≠ 0) (hb : ∀ x ∈ l, O x h) : sumAbs l < h.natAbs := by
  cases l with
  | nil => simp [sumAbs]; omega
  | cons y ys =>
    obtain ⟨t, t1, t2⟩ := hb y (by simp)
    obtain ⟨h1, _⟩ := List.pairwise_cons.mp hp
    have hy := h0 y (by simp)
    have := desc_sum (y :: ys) t hp h0 (fun x hx => by
      rcases List.mem_cons.mp hx with rfl | hx
      · exact t1
      · obtain ⟨v, v1, v2⟩ := h1 x hx
        have : 2 ^ v ≤ y.natAbs := Nat.le_of_dvd (by omega) (by have := Int.natAbs_dvd_natAbs.mpr v2; rwa [Int.natAbs_pow] at this)
        omega)
    have : 2 ^ t ≤ h.natAbs := Nat.le_of_dvd (by omega) (by have := Int.natAbs_dvd_natAbs.mpr t2; rwa [Int.natAbs_pow] at this)
    omega
theorem down_lad : ∀ (rem : List Int) (q : Int) (g : List Int) (s : Nat), Rep q → (∀ x ∈ rem, Rep x) → (∀ x ∈ g, Rep x) → rem.Pairwise (fun a b => O b a) → (∀ x ∈ rem, x ≠ 0) → (∀ x ∈ rem, O x q) →
    q.natAbs + sumAbs rem < 2 ^ s → Lad g s → Rep (downZ rem q g).2 ∧ (∀ x ∈ (downZ rem q g).1, Rep x) ∧ Fit (downZ rem q g).2 (downZ rem q g).1
  | [], q, g, s, hq, _, hg, _, _, _, hb, hL => ⟨hq, hg, fit_of_lad g s q hq hg hL (by simp [sumAbs] at hb; rw [Nat.pow_succ]; omega)⟩
  | x :: xs, q, g, s, hq, hl, hg, hp, h0, hO, hb, hL => by
    obtain ⟨p1, p2⟩ := List.pairwise_cons.mp hp
    have hx := hl x (by simp)
    have hs := fun y (hy : y ∈ xs) => (hO y (by simp [hy])).sum (p1 y hy)
    rw [sumAbs_cons] at hb
    unfold downZ
    split
    · next hne =>
      obtain ⟨k, k1, k2⟩ := grid_exists (q + x)
      have he := R_err k1
      have hk2 : 2 ^ (k + 52) ≤ (q + x).natAbs := by
        rcases k2 with rfl | k2
        · exfalso; exact hne (by rw [R_rep (rep_small (by simp at k1; omega))]; omega)
        · exact k2
      have hks : k + 52 < s := (Nat.pow_lt_pow_iff_right (by decide)).mp (Nat.lt_of_le_of_lt hk2 (by omega))
      have hgr : (2 : Int) ^ k ∣ R (q + x) := by
        refine grid_of_rep (Rep_R _) ?_
        have hk : Rep ((2 : Int) ^ (k + 52)) := ⟨1, k + 52, by rw [Int.natAbs_pow]; simp, by decide⟩
        have e : ((2 : Int) ^ (k + 52)).natAbs = 2 ^ (k + 52) := by rw [Int.natAbs_pow]; rfl
        have p : (0 : Int) < 2 ^ (k + 52) := Int.pow_pos (by decide)
        by_cases hz : 0 ≤ q + x
        · have := R_ge (z := q + x) hk (by omega); omega
        · have := R_le (z := q + x) hk.neg (by omega); omega
      refine down_lad xs _ _ k (sum_rest hq hx).1 (fun y hy => hl y (by simp [hy])) (fun y hy => ?_) p2 (fun y hy => h0 y (by simp [hy])) (fun y hy => (hs y hy).2.1) ?_ ⟨hgr, s, by omega, R_pow (by omega), hL⟩
      · rcases List.mem_cons.mp hy with rfl | hy
        · exact Rep_R _
        · exact hg y hy
      · have := below_sum p2 (fun y hy => h0 y (by simp [hy])) hne (fun y hy => (hs y hy).2.1)
        omega
    · next hne =>
      have hz : R (q + x) = q + x := by omega
      refine down_lad xs _ g s (Rep_R _) (fun y hy => hl y (by simp [hy])) hg p2 (fun y hy => h0 y (by simp [hy])) (fun y hy => (hs y hy).1) ?_ hL
      rw [hz]; omega
theorem neat_no {e : List Int} (he : ∀ x ∈ e, Rep x) (hn : NO e) (h0 : ∀ x ∈ e, x ≠ 0) : NO (neatZ e) ∧ (∀ x ∈ neatZ e, Rep x) ∧ ∀ x ∈ neatZ e, x ≠ 0 := by
  have hr : e.reverse.Pairwise (fun a b => O b a) := List.pairwise_reverse.mpr hn
  have hm : ∀ x, x ∈ e.reverse → x ∈ e := fun x hx => List.mem_reverse.mp hx
  unfold neatZ
  split
  · exact ⟨List.Pairwise.nil, fun x hx => by simp at hx, fun x hx => by simp at hx⟩
  · next q rem h =>
    rw [h] at hr hm
    obtain ⟨p1, p2⟩ := List.pairwise_cons.mp hr
    obtain ⟨d1, d2, d3⟩ := down_lad rem q [] (q.natAbs + sumAbs rem) (he q (hm q (by simp))) (fun x hx => he x (hm x (by simp [hx]))) (fun x hx => by simp at hx) p2 (fun x hx => h0 x (hm x (by simp [hx]))) (fun x hx => p1 x hx) Nat.lt_two_pow_self trivial
    exact ⟨(growZ_no _ _ d1 d2 d3).1, growZ_rep _ _ d1 d2, growZ_ne _ _⟩
theorem last_sign {l : List Int} {z : Int} (hn : NO (l ++ [z])) (h0 : ∀ x ∈ l ++ [z], x ≠ 0) : (0 < (l ++ [z]).sum ↔ 0 < z) ∧ ((l ++ [z]).sum < 0 ↔ z < 0) := by
  have hz := h0 z (by simp)
  obtain ⟨n1, _, n2⟩ := List.pairwise_append.mp hn
  have hb := below_sum (l := l.reverse) (h := z) (List.pairwise_reverse.mpr n1) (fun x hx => h0 x (by simp [List.mem_reverse.mp hx])) hz (fun x hx => n2 x (List.mem_reverse.mp hx) z (by simp))
  have hs : ∀ (m : List Int), m.sum.natAbs ≤ sumAbs m := by
    intro m
    induction m with
    | nil => simp [sumAbs]
    | cons x xs ih => rw [sumAbs_cons, List.sum_cons]; omega
  have h1 := hs l.reverse
  rw [sum_rev] at h1
  rw [List.sum_append]
  simp only [List.sum_cons, List.sum_nil]
  omega
end Go.Proofs.YtioahkblhekgpaaGreatDoor.No
namespace Go.Proofs.YtioahkblhekgpaaGreatDoor.Exp
set_option exponentiation.threshold 4000
open Go.RowKit Go.Proofs.YtioahkblhekgpaaGreatDoor.FltP Go.Proofs.YtioahkblhekgpaaGreatDoor.R Go.Proofs.YtioahkblhekgpaaGreatDoor.E Go.Proofs.YtioahkblhekgpaaGreatDoorW.PrintWords Go.Proofs.YtioahkblhekgpaaGreatDoorW.PrintLast Go.Proofs.YtioahkblhekgpaaGreatDoorW.PrintMore Ieee
open Go.Proofs.YtioahkblhekgpaaGreatDoor.Rnd (Rep)
open Go.Proofs.YtioahkblhekgpaaGreatDoor.No
abbrev Rn := Go.Proofs.YtioahkblhekgpaaGreatDoor.Rnd.R
theorem R_mul {z : Int} {m k : Nat} (hm : m < 2 ^ 53) (h : z.natAbs ≤ m * 2 ^ k) : (Rn z).natAbs ≤ m * 2 ^ k := by
  have hk : Rep ((m : Int) * 2 ^ k) := ⟨m, k, by rw [Int.natAbs_mul, Int.natAbs_pow]; simp, hm⟩
  have e : (m : Int) * 2 ^ k = ((m * 2 ^ k : Nat) : Int) := by simp
  have h1 := Rnd.R_le (z := z) hk (by omega)
  have h2 := Rnd.R_ge (z := z) hk.neg (by omega)
  show (Rnd.R z).natAbs ≤ _
  omega
theorem ne_ev {y : Nat} (h : Fini y) : (FloatKind.f64.format.order y 0 != some .eq) = decide (fval y ≠ 0) := by
  rw [Eft.order_some h (y := 0) ⟨by decide, by decide⟩, Eft.fval_c (c := 0) (m := 0) (by decide) (by decide +kernel)]
  by_cases h0 : fval y = 0
  · rw [h0]; rfl
  · rcases Int.lt_trichotomy (fval y) 0 with h1 | h1 | h1
    · rw [Int.compare_eq_lt.mpr (by omega)]; simp [h0]
    · exact absurd h1 h0
    · rw [Int.compare_eq_gt.mpr (by omega)]; simp [h0]
theorem eq_ev {y : Nat} (h : Fini y) : (FloatKind.f64.format.order y 0 == some .eq) = decide (fval y = 0) := by
  have := ne_ev h
  unfold bne at this
  by_cases h0 : fval y = 0 <;> simp [h0] at this ⊢ <;> simp [this]
theorem wrap_small {n : Nat} (h : n < 2 ^ 62) : wrap64 (n : Int) = n := by unfold wrap64; omega
theorem wrap_succ {i : Nat} (h : i < 1000) : wrap64 ((i : Int) + 1) = ((i + 1 : Nat) : Int) := by
  rw [show (i : Int) + 1 = ((i + 1 : Nat) : Int) from by omega]; exact wrap_small (Nat.lt_of_le_of_lt h (by decide))
theorem wrap_succ' {i : Nat} (h : i ≤ 1000) : wrap64 ((i : Int) + 1) = ((i + 1 : Nat) : Int) := by
  rw [show (i : Int) + 1 = ((i + 1 : Nat) : Int) from by omega]; exact wrap_small (Nat.lt_of_le_of_lt (Nat.succ_le_succ h) (by decide))
theorem rd_mem {l : List Nat} {i : Nat} (h : i < l.length) : rdOf (0 : Nat) l i ∈ l := by
  simp [rdOf, List.getD_eq_getElem?_getD, List.getElem?_eq_getElem h]
theorem tame_of {x m k : Nat} (h : fmag x ≤ m * 2 ^ k) (hm : m ≤ 2 ^ 60) (hk : k ≤ 2014) : fmag x ≤ 2 ^ 2074 :=
  Nat.le_trans h (Nat.le_trans (Nat.mul_le_mul hm (Nat.pow_le_pow_right (by decide) hk)) (by decide))
theorem grow_succ (j : Nat) (out : List Nat) (q : Nat) (l : List Nat) (i s h : Nat) (hlt : i < l.length) (e1 : E.eft_Sum.f q (rdOf (0 : Nat) l (i : Int)) = some (s, h)) (ho : out.length < 17592186044416) :
    expand_grow.l0 (j + 1) out q l (l.length : Int) (i : Int) = if (FloatKind.f64.format.order h 0 != some .eq) = true then expand_grow.l0 j (out ++ [h]) s l (l.length : Int) (wrap64 ((i : Int) + 1)) else expand_grow.l0 j out s l (l.length : Int) (wrap64 ((i : Int) + 1)) := by
  have c1 : (i : Int) < (l.length : Int) := by omega
  have c2 : (0 : Int) ≤ (i : Int) := by omega
  rw [expand_grow.l0, if_pos c1, if_pos c2, if_pos c1, e1]
  simp only [Option.bind_some]
  rw [if_pos ho]
theorem grow_end (j : Nat) (out : List Nat) (q : Nat) (l : List Nat) (i : Nat) (hlt : l.length ≤ i) (ho : out.length < 17592186044416) :
    expand_grow.l0 (j + 1) out q l (l.length : Int) (i : Int) = if (FloatKind.f64.format.order q 0 != some .eq) = true then some (out ++ [q]) else some out := by
  have c1 : ¬ (i : Int) < (l.length : Int) := by omega
  rw [expand_grow.l0, if_neg c1, if_pos ho]
theorem grow_loop (l : List Nat) (k : Nat) (hl : ∀ x ∈ l, Fini x) (hb : ∀ x ∈ l, fmag x ≤ 2 ^ k) (hk : k ≤ 2014) (hn : l.length ≤ 1000) :
    ∀ (n : Nat) (i : Nat) (out : List Nat) (q : Nat), i + n = l.length → Fini q → fmag q ≤ (i + 1) * 2 ^ k → out.length ≤ i →
    ∃ r, Ev (fun j => expand_grow.l0 j out q l (l.length : Int) (i : Int)) (out ++ r) ∧ r.map fval = growZ ((l.drop i).map fval) (fval q) ∧ ∀ x ∈ r, Fini x ∧ fmag x ≤ (l.length + 1) * 2 ^ k := by
  intro n
  induction n with
  | zero =>
    intro i out q hi hq hqb ho
    have hd : l.drop i = [] := List.drop_eq_nil_of_le (by omega)
    by_cases h0 : fval q = 0
    · refine ⟨[], ?_, by rw [hd]; simp [growZ, h0], by simp⟩
      refine Ev.step (f := fun _ => some out) (fun j => ?_) (by simpa using Ev.now out)
      rw [grow_end j out q l i (by omega) (by omega), ne_ev hq]; simp [h0]
    · refine ⟨[q], ?_, by rw [hd]; simp [growZ, h0], fun x hx => ?_⟩
      · refine Ev.step (f := fun _ => some (out ++ [q])) (fun j => ?_) (Ev.now _)
        rw [grow_end j out q l i (by omega) (by omega), ne_ev hq, if_pos (by simp [h0])]
      · rw [List.mem_singleton.mp hx]; exact ⟨hq, by rw [show l.length = i from by omega]; exact hqb⟩
  | succ n ih =>
    intro i out q hi hq hqb ho
    have hlt : i < l.length := by omega
    have hx := hl _ (rd_mem hlt)
    have hxb := hb _ (rd_mem hlt)
    have ho' : out.length < 17592186044416 := by omega
    have hi' : i + 1 + n = l.length := by omega
    have ho1 : out.length ≤ i + 1 := by omega
    have hsl : (2 : Nat) ^ k ≤ (l.length + 1) * 2 ^ k := Nat.le_mul_of_pos_left _ (by omega)
    have hi2 : i < 1000 := by omega
    have hi1 : i + 1 ≤ 1001 := by omega
    have t1 := tame_of hqb (Nat.le_trans hi1 (by decide)) hk
    have t2 := tame_of (m := 1) (by rw [Nat.one_mul]; exact hxb) (by decide) hk
    have hm2 : i + 1 + 1 < 2 ^ 53 := Nat.lt_of_le_of_lt (Nat.succ_le_succ hi1) (by decide)
    obtain ⟨s, h, e1, e2, e3, e4, e5⟩ := Eft.sum_ev hq hx t1 t2
    clear t1 t2
    have hs : fmag s ≤ (i + 1 + 1) * 2 ^ k := by
      rw [← natAbs_fval, e4]
      refine R_mul hm2 ?_
      have := natAbs_fval q
      have := natAbs_fval (rdOf (0 : Nat) l i)
      rw [Nat.succ_mul]; omega
    have hh : fmag h ≤ 2 ^ k := by
      rw [← natAbs_fval, e5]
      have := (Rnd.sum_rest (Rnd.fval_rep q) (Rnd.fval_rep (rdOf (0 : Nat) l i))).2.2
      have := natAbs_fval (rdOf (0 : Nat) l i)
      omega
    have hd : (l.drop i).map fval = fval (rdOf (0 : Nat) l i) :: (l.drop (i + 1)).map fval := by rw [drop_at hlt, List.map_cons]
    have hstep : ∀ j, expand_grow.l0 (j + 1) out q l (l.length : Int) (i : Int) = if fval h ≠ 0 then expand_grow.l0 j (out ++ [h]) s l (l.length : Int) ((i + 1 : Nat) : Int) else expand_grow.l0 j out s l (l.length : Int) ((i + 1 : Nat) : Int) := by
      intro j
      rw [grow_succ j out q l i s h hlt e1 ho', ne_ev e3, wrap_succ hi2]
      by_cases h0 : fval h = 0
      · rw [if_neg (by simp [h0]), if_neg (by simp [h0])]
      · rw [if_pos (by simp [h0]), if_pos h0]
    have hz : fval q + fval (rdOf (0 : Nat) l i) - Rnd.R (fval q + fval (rdOf (0 : Nat) l i)) = fval h := e5.symm
    rw [hd, growZ, hz, ← e4]
    by_cases h0 : fval h = 0
    · obtain ⟨r, r1, r2, r3⟩ := ih (i + 1) out s hi' e2 hs ho1
      refine ⟨r, Ev.step (fun j => (hstep j).trans (if_neg (by simpa using h0))) r1, ?_, r3⟩
      rw [if_neg (by simpa using h0)]
      exact r2
    · obtain ⟨r, r1, r2, r3⟩ := ih (i + 1) (out ++ [h]) s hi' e2 hs (by rw [List.length_append]; exact Nat.succ_le_succ ho)
      refine ⟨h :: r, Ev.step (fun j => (hstep j).trans (if_pos h0)) (by simpa using r1), ?_, fun x hx => ?_⟩
      · rw [if_pos h0, List.map_cons, r2]
      · rcases List.mem_cons.mp hx with rfl | hx
        · exact ⟨e3, Nat.le_trans hh hsl⟩
        · exact r3 x hx
theorem grow_ev {l : List Nat} {b k : Nat} (hl : ∀ x ∈ l, Fini x) (hb : ∀ x ∈ l, fmag x ≤ 2 ^ k) (hq : Fini b) (hqb : fmag b ≤ 2 ^ k) (hk : k ≤ 2000) (hn : l.length ≤ 1000) :
    ∃ r, Ev (fun j => expand_grow.f j l b) r ∧ r.map fval = growZ (l.map fval) (fval b) ∧ ∀ x ∈ r, Fini x ∧ fmag x ≤ (l.length + 1) * 2 ^ k := by
  obtain ⟨r, r1, r2, r3⟩ := grow_loop l k hl hb (Nat.le_trans hk (by decide)) hn l.length 0 [] b (by omega) hq (by omega) (Nat.le_refl _)
  have c1 : l.length < 2 ^ 62 := Nat.lt_of_le_of_lt hn (by decide)
  refine ⟨r, ?_, by simpa using r2, r3⟩
  refine Ev.congr (fun j => ?_) (by simpa using r1)
  unfold expand_grow.f
  rw [wrap_succ' hn, if_pos (by omega), if_pos (by omega)]
theorem wrap_pred {n : Nat} (h : n ≤ 1000) : wrap64 ((n : Int) - 1) = (n : Int) - 1 := by
  have : ∀ z : Int, -1 ≤ z → z < 2 ^ 62 → wrap64 z = z := fun z _ _ => by unfold wrap64; omega
  exact this _ (by omega) (by omega)
theorem up_succ (j : Nat) (g : List Nat) (q : Nat) (out : List Nat) (n s h : Nat) (hlt : n < g.length) (e1 : E.eft_Sum.f (rdOf (0 : Nat) g (n : Int)) q = some (s, h)) (ho : out.length < 17592186044416) :
    expand_neat.l1 (j + 1) g q out ((n : Nat) : Int) = if (FloatKind.f64.format.order h 0 != some .eq) = true then expand_neat.l1 j g s (out ++ [h]) (wrap64 ((n : Int) - 1)) else expand_neat.l1 j g s out (wrap64 ((n : Int) - 1)) := by
  have c1 : (n : Int) < (g.length : Int) := by omega
  have c2 : (0 : Int) ≤ (n : Int) := by omega
  rw [expand_neat.l1, if_pos (show (n : Int) ≥ 0 from c2), if_pos c2, if_pos c1, e1]
  simp only [Option.bind_some]
  rw [if_pos ho]
theorem up_end (j : Nat) (g : List Nat) (q : Nat) (out : List Nat) (ho : out.length < 17592186044416) :
    expand_neat.l1 (j + 1) g q out (-1) = if (FloatKind.f64.format.order q 0 != some .eq) = true then some (out ++ [q]) else some out := by
  rw [expand_neat.l1, if_neg (by decide), if_pos ho]
theorem take_rev {l : List Nat} {n : Nat} (h : n < l.length) : (l.take (n + 1)).reverse = rdOf (0 : Nat) l n :: (l.take n).reverse := by
  rw [List.take_add_one, List.reverse_append]
  simp [rdOf, List.getD_eq_getElem?_getD, List.getElem?_eq_getElem h]
theorem up_loop (g : List Nat) (k : Nat) (hl : ∀ x ∈ g, Fini x) (hb : ∀ x ∈ g, fmag x ≤ 2 ^ k) (hk : k ≤ 2014) (hn : g.length ≤ 1000) :
    ∀ (n : Nat) (out : List Nat) (q : Nat), n ≤ g.length → Fini q → fmag q ≤ (g.length - n + 1) * 2 ^ k → out.length ≤ g.length - n →
    ∃ r, Ev (fun j => expand_neat.l1 j g q out ((n : Int) - 1)) (out ++ r) ∧ r.map fval = growZ ((g.take n).reverse.map fval) (fval q) ∧ ∀ x ∈ r, Fini x ∧ fmag x ≤ (g.length + 1) * 2 ^ k := by
  intro n
  induction n with
  | zero =>
    intro out q hi hq hqb ho
    have ho' : out.length < 17592186044416 := by omega
    by_cases h0 : fval q = 0
    · refine ⟨[], ?_, by simp [growZ, h0], by simp⟩
      refine Ev.step (f := fun _ => some out) (fun j => ?_) (by simpa using Ev.now out)
      show expand_neat.l1 (j + 1) g q out (-1) = _
      rw [up_end j g q out ho', ne_ev hq]; simp [h0]
    · refine ⟨[q], ?_, by simp [growZ, h0], fun x hx => ?_⟩
      · refine Ev.step (f := fun _ => some (out ++ [q])) (fun j => ?_) (Ev.now _)
        show expand_neat.l1 (j + 1) g q out (-1) = _
        rw [up_end j g q out ho', ne_ev hq, if_pos (by simp [h0])]
      · rw [List.mem_singleton.mp hx]; exact ⟨hq, hqb⟩
  | succ n ih =>
    intro out q hi hq hqb ho
    have hlt : n < g.length := by omega
    have hx := hl _ (rd_mem hlt)
    have hxb := hb _ (rd_mem hlt)
    have ho' : out.length < 17592186044416 := by omega
    have hi' : n ≤ g.length := by omega
    have hn1 : n ≤ 1000 := by omega
    obtain ⟨c, hc⟩ : ∃ c, g.length - (n + 1) + 1 = c := ⟨_, rfl⟩
    have hc1 : g.length - n + 1 = c + 1 := by omega
    have ho1 : out.length + 1 ≤ g.length - n := by omega
    have ho2 : out.length ≤ g.length - n := by omega
    have hcb : c ≤ 1001 := by omega
    rw [hc] at hqb
    have hsl : (2 : Nat) ^ k ≤ (g.length + 1) * 2 ^ k := Nat.le_mul_of_pos_left _ (by omega)
    have t1 := tame_of hqb (Nat.le_trans hcb (by decide)) hk
    have t2 := tame_of (m := 1) (by rw [Nat.one_mul]; exact hxb) (by decide) hk
    have hm2 : c + 1 < 2 ^ 53 := Nat.lt_of_le_of_lt (Nat.succ_le_succ hcb) (by decide)
    have hidx : (((n + 1 : Nat) : Int) - 1) = (n : Int) := by omega
    obtain ⟨s, h, e1, e2, e3, e4, e5⟩ := Eft.sum_ev hx hq t2 t1
    clear t1 t2
    have hs : fmag s ≤ (c + 1) * 2 ^ k := by
      rw [← natAbs_fval, e4]
      refine R_mul hm2 ?_
      have := natAbs_fval q
      have := natAbs_fval (rdOf (0 : Nat) g n)
      rw [Nat.succ_mul]; omega
    have hh : fmag h ≤ 2 ^ k := by
      rw [← natAbs_fval, e5]
      have := (Rnd.sum_rest (Rnd.fval_rep (rdOf (0 : Nat) g n)) (Rnd.fval_rep q)).2.1
      have := natAbs_fval (rdOf (0 : Nat) g n)
      omega
    have hstep : ∀ j, expand_neat.l1 (j + 1) g q out (((n + 1 : Nat) : Int) - 1) = if fval h ≠ 0 then expand_neat.l1 j g s (out ++ [h]) ((n : Int) - 1) else expand_neat.l1 j g s out ((n : Int) - 1) := by
      intro j
      rw [hidx, up_succ j g q out n s h hlt e1 ho', ne_ev e3, wrap_pred hn1]
      by_cases h0 : fval h = 0
      · rw [if_neg (by simp [h0]), if_neg (by simp [h0])]
      · rw [if_pos (by simp [h0]), if_pos h0]
    have hz : fval q + fval (rdOf (0 : Nat) g n) - Rnd.R (fval q + fval (rdOf (0 : Nat) g n)) = fval h := by rw [e5, Int.add_comm (fval q)]
    have hz2 : Rnd.R (fval q + fval (rdOf (0 : Nat) g n)) = fval s := by rw [e4, Int.add_comm (fval q)]
    rw [take_rev hlt, List.map_cons, growZ, hz, hz2]
    by_cases h0 : fval h = 0
    · obtain ⟨r, r1, r2, r3⟩ := ih out s hi' e2 (by rw [hc1]; exact hs) ho2
      refine ⟨r, Ev.step (fun j => (hstep j).trans (if_neg (by simpa using h0))) r1, ?_, r3⟩
      rw [if_neg (by simpa using h0)]
      exact r2
    · obtain ⟨r, r1, r2, r3⟩ := ih (out ++ [h]) s hi' e2 (by rw [hc1]; exact hs) (by rw [List.length_append]; exact ho1)
      refine ⟨h :: r, Ev.step (fun j => (hstep j).trans (if_pos h0)) (by simpa using r1), ?_, fun x hx => ?_⟩
      · rw [if_pos h0, List.map_cons, r2]
      · rcases List.mem_cons.mp hx with rfl | hx
        · exact ⟨e3, Nat.le_trans hh hsl⟩
        · exact r3 x hx
theorem down_succ (j : Nat) (l : List Nat) (g : List Nat) (q n s h : Nat) (hlt : n < l.length) (e1 : E.eft_Sum.f q (rdOf (0 : Nat) l (n : Int)) = some (s, h)) (ho : g.length < 17592186044416) :
    expand_neat.l0 (j + 1) l g q ((n : Nat) : Int) = if (FloatKind.f64.format.order h 0 != some .eq) = true then expand_neat.l0 j l (g ++ [s]) h (wrap64 ((n : Int) - 1)) else expand_neat.l0 j l g s (wrap64 ((n : Int) - 1)) := by
  have c1 : (n : Int) < (l.length : Int) := by omega
  have c2 : (0 : Int) ≤ (n : Int) := by omega
  rw [expand_neat.l0, if_pos (show (n : Int) ≥ 0 from c2), if_pos c2, if_pos c1, e1]
  simp only [Option.bind_some]
  rw [if_pos ho]
theorem down_end (j : Nat) (l g : List Nat) (q : Nat) : expand_neat.l0 (j + 1) l g q (-1) = expand_neat.l1 j g q [] (wrap64 ((g.length : Int) - 1)) := by
  rw [expand_neat.l0, if_neg (by decide)]
theorem down_loop (l : List Nat) (k : Nat) (hl : ∀ x ∈ l, Fini x) (hb : ∀ x ∈ l, fmag x ≤ 2 ^ k) (hk : k ≤ 2014) (hn : l.length ≤ 1000) :
    ∀ (n : Nat) (g : List Nat) (q : Nat), n < l.length → Fini q → fmag q ≤ (l.length - n) * 2 ^ k → (∀ x ∈ g, Fini x ∧ fmag x ≤ (l.length + 1) * 2 ^ k) → g.length + n < l.length →
    ∃ g' q', (g'.reverse.map fval, fval q') = downZ ((l.take n).reverse.map fval) (fval q) (g.reverse.map fval) ∧ Fini q' ∧ fmag q' ≤ (l.length + 1) * 2 ^ k ∧ (∀ x ∈ g', Fini x ∧ fmag x ≤ (l.length + 1) * 2 ^ k) ∧ g'.length < l.length ∧
      ∀ r, Ev (fun j => expand_neat.l1 j g' q' [] ((g'.length : Int) - 1)) r → Ev (fun j => expand_neat.l0 j l g q ((n : Int) - 1)) r := by
  intro n
  induction n with
  | zero =>
    intro g q hi hq hqb hg hgl
    have hg1 : g.length ≤ 1000 := by omega
    have hq1 : fmag q ≤ (l.length + 1) * 2 ^ k := Nat.le_trans hqb (Nat.mul_le_mul_right _ (by omega))
    refine ⟨g, q, by simp [downZ], hq, hq1, hg, by omega, fun r hr => ?_⟩
    refine Ev.step (f := fun j => expand_neat.l1 j g q [] ((g.length : Int) - 1)) (fun j => ?_) hr
    show expand_neat.l0 (j + 1) l g q (-1) = _
    rw [down_end, wrap_pred hg1]
  | succ n ih =>
    intro g q hi hq hqb hg hgl
    have hlt : n < l.length := by omega
    have hx := hl _ (rd_mem hlt)
    have hxb := hb _ (rd_mem hlt)
    have ho' : g.length < 17592186044416 := by omega
    have hn1 : n ≤ 1000 := by omega
    obtain ⟨c, hc⟩ : ∃ c, l.length - (n + 1) = c := ⟨_, rfl⟩
    have hc1 : l.length - n = c + 1 := by omega
    have hcl : c + 1 ≤ l.length + 1 := by omega
    have hg2 : g.length + 1 + n < l.length := by omega
    have hg3 : g.length + n < l.length := by omega
    have hcb : c ≤ 1001 := by omega
    rw [hc] at hqb
    have t1 := tame_of hqb (Nat.le_trans hcb (by decide)) hk
    have t2 := tame_of (m := 1) (by rw [Nat.one_mul]; exact hxb) (by decide) hk
    have hm2 : c + 1 < 2 ^ 53 := Nat.lt_of_le_of_lt (Nat.succ_le_succ hcb) (by decide)
    have hidx : (((n + 1 : Nat) : Int) - 1) = (n : Int) := by omega
    obtain ⟨s, h, e1, e2, e3, e4, e5⟩ := Eft.sum_ev hq hx t1 t2
    clear t1 t2
    have hs : fmag s ≤ (c + 1) * 2 ^ k := by
      rw [← natAbs_fval, e4]
      refine R_mul hm2 ?_
      have := natAbs_fval q
      have := natAbs_fval (rdOf (0 : Nat) l n)
      rw [Nat.succ_mul]; omega
    have hh : fmag h ≤ 2 ^ k := by
      rw [← natAbs_fval, e5]
      have := (Rnd.sum_rest (Rnd.fval_rep q) (Rnd.fval_rep (rdOf (0 : Nat) l n))).2.2
      have := natAbs_fval (rdOf (0 : Nat) l n)
      omega
    have hh2 : fmag h ≤ (c + 1) * 2 ^ k := Nat.le_trans hh (Nat.le_mul_of_pos_left _ (Nat.succ_pos _))
    have hs2 : fmag s ≤ (l.length + 1) * 2 ^ k := Nat.le_trans hs (Nat.mul_le_mul_right _ hcl)
    have hstep : ∀ j, expand_neat.l0 (j + 1) l g q (((n + 1 : Nat) : Int) - 1) = if fval h ≠ 0 then expand_neat.l0 j l (g ++ [s]) h ((n : Int) - 1) else expand_neat.l0 j l g s ((n : Int) - 1) := by
      intro j
      rw [hidx, down_succ j l g q n s h hlt e1 ho', ne_ev e3, wrap_pred hn1]
      by_cases h0 : fval h = 0
      · rw [if_neg (by simp [h0]), if_neg (by simp [h0])]
      · rw [if_pos (by simp [h0]), if_pos h0]
    have hz : fval q + fval (rdOf (0 : Nat) l n) - Rnd.R (fval q + fval (rdOf (0 : Nat) l n)) = fval h := e5.symm
    rw [take_rev hlt, List.map_cons, downZ, hz, ← e4]
    by_cases h0 : fval h = 0
    · obtain ⟨g', q', r1, r2, r3, r4, r5, r6⟩ := ih g s hlt e2 (by rw [hc1]; exact hs) hg hg3
      refine ⟨g', q', ?_, r2, r3, r4, r5, fun r hr => Ev.step (fun j => (hstep j).trans (if_neg (by simpa using h0))) (r6 r hr)⟩
      rw [if_neg (by simpa using h0)]
      exact r1
    · obtain ⟨g', q', r1, r2, r3, r4, r5, r6⟩ := ih (g ++ [s]) h hlt e3 (by rw [hc1]; exact hh2) (fun x hx => by
        rcases List.mem_append.mp hx with hx | hx
        · exact hg x hx
        · rw [List.mem_singleton.mp hx]; exact ⟨e2, hs2⟩) (by rw [List.length_append]; exact hg2)
      refine ⟨g', q', ?_, r2, r3, r4, r5, fun r hr => Ev.step (fun j => (hstep j).trans (if_pos h0)) (r6 r hr)⟩
      rw [if_pos h0, r1, List.reverse_append]
      rfl
theorem wrap_idx {m : Nat} (h : m ≤ 1000) : wrap64 (((m + 1 : Nat) : Int) - 1) = (m : Int) ∧ wrap64 (((m + 1 : Nat) : Int) - 2) = (m : Int) - 1 := by
  have : ∀ z : Int, -1 ≤ z → z < 2 ^ 62 → wrap64 z = z := fun z _ _ => by unfold wrap64; omega
  constructor
  · rw [show ((m + 1 : Nat) : Int) - 1 = (m : Int) from by omega]; exact this _ (by omega) (by omega)
  · rw [show ((m + 1 : Nat) : Int) - 2 = (m : Int) - 1 from by omega]; exact this _ (by omega) (by omega)
theorem neat_unfold (j : Nat) (l : List Nat) (m : Nat) (hm : l.length = m + 1) (h : m ≤ 1000) : expand_neat.f j l = expand_neat.l0 j l [] (rdOf (0 : Nat) l (m : Int)) ((m : Int) - 1) := by
  unfold expand_neat.f
  rw [hm, (wrap_idx h).1, (wrap_idx h).2, if_neg (by omega), if_pos (by omega), if_pos (by omega), if_pos (by omega), if_pos (by omega)]
theorem neat_ev {l : List Nat} {k : Nat} (hl : ∀ x ∈ l, Fini x) (hb : ∀ x ∈ l, fmag x ≤ 2 ^ k) (hk : k ≤ 2000) (hn : l.length ≤ 1000) :
    ∃ r, Ev (fun j => expand_neat.f j l) r ∧ r.map fval = neatZ (l.map fval) ∧ ∀ x ∈ r, Fini x ∧ fmag x ≤ 2 ^ (k + 20) := by
  cases hm : l.length with
  | zero =>
    have : l = [] := List.length_eq_zero_iff.mp hm
    subst this
    exact ⟨[], ⟨0, fun j _ => rfl⟩, rfl, by simp⟩
  | succ m =>
    have hm1 : m ≤ 1000 := by omega
    have hlt : m < l.length := by omega
    have hq := hl _ (rd_mem hlt)
    have hqb := hb _ (rd_mem hlt)
    have h1 : l.length - m = 1 := by omega
    obtain ⟨g, q, d1, d2, d3, d4, d5, d6⟩ := down_loop l k hl hb (Nat.le_trans hk (by decide)) hn m [] (rdOf (0 : Nat) l m) hlt hq (by rw [h1, Nat.one_mul]; exact hqb) (by simp) (by simpa using hlt)
    have hL : (l.length + 1) * 2 ^ k ≤ 2 ^ (k + 10) := by
      rw [Nat.pow_add, Nat.mul_comm (2 ^ k)]
      exact Nat.mul_le_mul_right _ (Nat.le_trans (Nat.succ_le_succ hn) (by decide))
    have hg5 : g.length ≤ 1000 := by omega
    have h0 : g.length - g.length + 1 = 1 := by omega
    obtain ⟨r, r1, r2, r3⟩ := up_loop g (k + 10) (fun x hx => (d4 x hx).1) (fun x hx => Nat.le_trans (d4 x hx).2 hL) (by omega) hg5 g.length [] q (Nat.le_refl _) d2 (by rw [h0, Nat.one_mul]; exact Nat.le_trans d3 hL) (Nat.zero_le _)
    refine ⟨r, ?_, ?_, fun x hx => ⟨(r3 x hx).1, Nat.le_trans (r3 x hx).2 ?_⟩⟩
    · exact Ev.congr (fun j => neat_unfold j l m hm hm1) (d6 r (by simpa using r1))
    · have hrev : (l.map fval).reverse = fval (rdOf (0 : Nat) l m) :: (l.take m).reverse.map fval := by
        rw [← List.map_reverse, ← List.map_cons, ← take_rev hlt, List.take_of_length_le (by omega)]
      unfold neatZ
      rw [hrev]
      simp only
      rw [r2, List.take_of_length_le (Nat.le_refl _)]
      have := d1
      simp only [List.reverse_nil, List.map_nil] at this
      rw [← this]
    · rw [show k + 20 = k + 10 + 10 from rfl, Nat.pow_add 2 (k + 10), Nat.mul_comm (2 ^ (k + 10))]
      exact Nat.mul_le_mul_right _ (Nat.le_trans (Nat.succ_le_succ hg5) (by decide))
end Go.Proofs.YtioahkblhekgpaaGreatDoor.Exp
namespace Go.Proofs.YtioahkblhekgpaaGreatDoor.Exp
set_option exponentiation.threshold 4000
open Go.RowKit Go.Proofs.YtioahkblhekgpaaGreatDoor.FltP Go.Proofs.YtioahkblhekgpaaGreatDoor.R Go.Proofs.YtioahkblhekgpaaGreatDoor.E Go.Proofs.YtioahkblhekgpaaGreatDoorW.PrintWords Go.Proofs.YtioahkblhekgpaaGreatDoorW.PrintLast Go.Proofs.YtioahkblhekgpaaGreatDoorW.PrintMore Ieee
theorem one_ldexp {e : Int} (h1 : -900 ≤ e) (h2 : e ≤ 1023) : ∃ r, math_Ldexp.f 4607182418800017408 e = some r ∧ Fini r ∧ fval r = 2 ^ (e + 1074).toNat := by
  obtain ⟨F, hF⟩ : ∃ F : Nat, (1023 : Int) + e = F := ⟨(1023 + e).toNat, by omega⟩
  have hx : Fini 4607182418800017408 := ⟨by decide, by decide⟩
  obtain ⟨r, r1, r2, r3⟩ := ldexp_norm (x := 4607182418800017408) (F := F) (e := e) hx (by decide) (by rw [show (4607182418800017408 % 2 ^ 63 / 2 ^ 52 : Nat) = 1023 from by decide]; exact hF) (by omega) (by omega)
  refine ⟨r, r1, r2, ?_⟩
  obtain ⟨l1, l2, l3, l4⟩ := ldw_facts (F := F) hx (by decide) (by omega) (by omega)
  rw [r3, fval_sgn, l4, show fsgn 4607182418800017408 = false from by decide, fmag_sig, l2, l3, show fsig 4607182418800017408 = 2 ^ 52 from by decide, ← Nat.pow_add, show 52 + (F - 1) = (e + 1074).toNat from by omega]
  simp
theorem and_one (n : Nat) (hn : n < 2 ^ 63) : Go.bits .and .u64 (n : Int) 1 = ((n % 2 : Nat) : Int) := by
  have e : (BitVec.ofInt 64 (n : Int) &&& BitVec.ofInt 64 1).toNat = n % 2 := by
    have hm : BitVec.ofInt 64 1 = BitVec.ofNat 64 (2 ^ 1 - 1) := by decide
    rw [of_nat, hm, BitVec.toNat_and, BitVec.toNat_ofNat, BitVec.toNat_ofNat, Nat.mod_eq_of_lt (by omega), Nat.mod_eq_of_lt (by omega), Nat.and_two_pow_sub_one_eq_mod]
  unfold Go.bits
  show IntKind.u64.wrap (((BitVec.ofInt 64 (n : Int) &&& BitVec.ofInt 64 1).toNat : Nat) : Int) = _
  rw [e]
  simp only [IntKind.wrap]; simp [IntKind.signed, IntKind.bits]; omega
theorem low_odd (j : Nat) (e : Int) (n : Nat) (h : n % 2 = 1) (hn : n < 2 ^ 63) : expand_low.l0 (j + 1) e (n : Int) = (math_Ldexp.f 4607182418800017408 e).bind fun t => some t := by
  rw [expand_low.l0, and_one n hn, h, if_neg (by decide)]
theorem low_even (j : Nat) (e : Int) (n : Nat) (h : n % 2 = 0) (hn : n < 2 ^ 63) : expand_low.l0 (j + 1) e (n : Int) = expand_low.l0 j (wrap64 (e + 1)) ((n / 2 : Nat) : Int) := by
  rw [expand_low.l0, and_one n hn, h, if_pos (by decide)]
  rfl
theorem low_loop : ∀ (v n : Nat) (e : Int), n % 2 = 1 → n * 2 ^ v < 2 ^ 63 → -900 ≤ e → e + v ≤ 1023 → ∃ r, Ev (fun j => expand_low.l0 j e ((n * 2 ^ v : Nat) : Int)) r ∧ Fini r ∧ fval r = 2 ^ (e + v + 1074).toNat := by
  intro v
  induction v with
  | zero =>
    intro n e ho hn h1 h2
    obtain ⟨r, r1, r2, r3⟩ := one_ldexp h1 (by omega)
    refine ⟨r, Ev.step (f := fun _ => some r) (fun j => ?_) (Ev.now _), r2, by rw [r3]; congr 2; omega⟩
    rw [Nat.pow_zero, Nat.mul_one] at hn ⊢
    rw [low_odd j e n ho hn, r1]; rfl
  | succ v ih =>
    intro n e ho hn h1 h2
    have hw : wrap64 (e + 1) = e + 1 := w64' rfl (by omega) (by omega)
    have hd : n * 2 ^ (v + 1) = n * 2 ^ v * 2 := by rw [Nat.pow_succ, Nat.mul_assoc]
    rw [hd] at hn ⊢
    obtain ⟨r, r1, r2, r3⟩ := ih n (e + 1) ho (by omega) (by omega) (by omega)
    refine ⟨r, Ev.step (fun j => ?_) r1, r2, by rw [r3]; congr 2; omega⟩
    rw [low_even j e (n * 2 ^ v * 2) (by omega) hn, hw, show n * 2 ^ v * 2 / 2 = n * 2 ^ v from by omega]
theorem odd_part (n : Nat) (h : 0 < n) : ∃ m v, n = m * 2 ^ v ∧ m % 2 = 1 := by
  induction n using Nat.strongRecOn with
  | _ n ih =>
    by_cases ho : n % 2 = 1
    · exact ⟨n, 0, by simp, ho⟩
    · obtain ⟨m, v, h1, h2⟩ := ih (n / 2) (by omega) (by omega)
      exact ⟨m, v + 1, by rw [Nat.pow_succ, ← Nat.mul_assoc, ← h1]; omega, h2⟩
theorem low_ev {x : Nat} (hx : Fini x) (hb : 2 ^ 600 ≤ fmag x) : ∃ r t, Ev (fun j => expand_low.f j x) r ∧ Fini r ∧ fval r = 2 ^ t ∧ 2 ^ t ∣ fmag x ∧ ∀ u, 2 ^ u ∣ fmag x → u ≤ t := by
  have hm : fmag (x % 2 ^ 63) = fmag x := fmag_pos x
  have h0 : fmag x ≠ 0 := fun h => by rw [h] at hb; exact absurd hb (by decide)
  obtain ⟨s, e, s1, s2, e1, e2, hs, hE⟩ := frexp_ev (y := x % 2 ^ 63) hx.pos (by omega) (by rw [hm]; exact h0)
  rw [hm] at hs
  obtain ⟨f1, f2, f3, f4⟩ := half_fin s s1 s2
  have he : -500 ≤ e := by
    have h1 : 2 ^ 652 ≤ s * 2 ^ (e + 1073).toNat := by rw [← hs, show (652 : Nat) = 600 + 52 from rfl, Nat.pow_add]; exact Nat.mul_le_mul_right _ hb
    have h2 : s * 2 ^ (e + 1073).toNat < 2 ^ (53 + (e + 1073).toNat) := by rw [Nat.pow_add]; exact Nat.mul_lt_mul_of_pos_right s2 (Nat.two_pow_pos _)
    have h3 := (Nat.pow_lt_pow_iff_right (a := 2) (by decide)).mp (Nat.lt_of_le_of_lt h1 h2)
    omega
  obtain ⟨l1, l2, l3, l4⟩ := ldw_facts (x := s - 2 ^ 52 + 1022 * 2 ^ 52) (F := 1075) f1 (by omega) (by decide) (by decide)
  obtain ⟨t8, g1, g2, g3⟩ := ldexp_norm (x := s - 2 ^ 52 + 1022 * 2 ^ 52) (F := 1075) (e := 53) f1 (by omega) (by omega) (by decide) (by decide)
  have hv8 : fval t8 = ((s * 2 ^ 1074 : Nat) : Int) := by rw [g3, fval_sgn, l4, f4, fmag_sig, l2, f2, l3]; rfl
  have hi8 : floatToIntVal .f64 t8 .u64 = some (s : Int) := by
    have hm8 : fmag t8 = s * 2 ^ 1074 := by rw [← natAbs_fval, hv8]; exact Int.natAbs_natCast _
    have hs8 : fsgn t8 = false := by
      cases hh : fsgn t8
      · rfl
      · rw [fval_sgn, hh, hm8] at hv8
        have hZ : 0 < s * 2 ^ 1074 := Nat.mul_pos (by omega) (Nat.two_pow_pos _)
        generalize s * 2 ^ 1074 = Z at hv8 hZ
        simp only [if_true] at hv8
        omega
    unfold floatToIntVal
    rw [toInt_val g2, hm8, hs8, Nat.mul_div_cancel _ (Nat.two_pow_pos _)]
    simp only [Bool.false_eq_true, if_false]
    rw [if_pos]
    have hmin : IntKind.u64.min = 0 := rfl
    have hmax : IntKind.u64.max = 18446744073709551615 := rfl
    rw [hmin, hmax]; omega
  obtain ⟨m, v, hmv, hodd⟩ := odd_part s (by omega)
  have hvb : v < 53 := by
    have : 2 ^ v < 2 ^ 53 := by
      have h1 : 2 ^ v ≤ m * 2 ^ v := Nat.le_mul_of_pos_left _ (by omega)
      omega
    exact (Nat.pow_lt_pow_iff_right (by decide)).mp this
  have hw : wrap64 (e - 53) = e - 53 := w64' rfl (by omega) (by omega)
  obtain ⟨r, r1, r2, r3⟩ := low_loop v m (e - 53) hodd (by rw [← hmv]; omega) (by omega) (by omega)
  have hx' : fmag x = m * 2 ^ (e - 53 + v + 1074).toNat := by
    have h1 : fmag x * 2 ^ 52 = m * 2 ^ (e - 53 + v + 1074).toNat * 2 ^ 52 := by
      rw [hs, hmv, Nat.mul_assoc, ← Nat.pow_add, Nat.mul_assoc, ← Nat.pow_add, show v + (e + 1073).toNat = (e - 53 + v + 1074).toNat + 52 from by omega]
    exact Nat.eq_of_mul_eq_mul_right (by decide) h1
  refine ⟨r, (e - 53 + v + 1074).toNat, ?_, r2, r3, ⟨m, by rw [hx', Nat.mul_comm]⟩, fun u hu => ?_⟩
  · refine Ev.congr (f := fun j => (math_Frexp.f j (x % 2 ^ 63)).bind fun bt => (math_Ldexp.f bt.1 53).bind fun t108 => (floatToIntVal .f64 t108 .u64).bind fun t109 => expand_low.l0 j (wrap64 (bt.2 - 53)) t109) (fun j => ?_) (Ev.bind hE ?_)
    · unfold expand_low.f; rw [abs_some hx.2]; rfl
    · refine Ev.congr (fun j => ?_) r1
      simp only [g1, Option.bind_some, hi8, hw]
      rw [← hmv]
  · apply Classical.byContradiction
    intro hlt
    have h2 : 2 ^ ((e - 53 + v + 1074).toNat + 1) ∣ fmag x := Nat.dvd_trans (Nat.pow_dvd_pow 2 (by omega)) hu
    rw [hx', Nat.pow_succ, Nat.mul_comm] at h2
    have h3 := Nat.dvd_of_mul_dvd_mul_right (Nat.two_pow_pos _) h2
    omega
end Go.Proofs.YtioahkblhekgpaaGreatDoor.Exp
namespace Go.Proofs.YtioahkblhekgpaaGreatDoor.Exp
set_option exponentiation.threshold 4000
open Go.RowKit Go.Proofs.YtioahkblhekgpaaGreatDoor.FltP Go.Proofs.YtioahkblhekgpaaGreatDoor.R Go.Proofs.YtioahkblhekgpaaGreatDoor.E Go.Proofs.YtioahkblhekgpaaGreatDoorW.PrintWords Go.Proofs.YtioahkblhekgpaaGreatDoorW.PrintLast Go.Proofs.YtioahkblhekgpaaGreatDoorW.PrintMore Ieee
open Go.Proofs.YtioahkblhekgpaaGreatDoor.No
theorem all_end (j : Nat) (l : List Nat) (a b : Nat) : expand_all.l0 (j + 1) l a b l (l.length : Int) (l.length : Int) = some true := by
  rw [expand_all.l0, if_neg (by omega)]
theorem all_first (j : Nat) (l : List Nat) (a b : Nat) (h : 0 < l.length) (hw : expand_within.f (rdOf (0 : Nat) l ((0 : Nat) : Int)) a b = some true) : expand_all.l0 (j + 1) l a b l (l.length : Int) ((0 : Nat) : Int) = expand_all.l0 j l a b l (l.length : Int) (wrap64 (((0 : Nat) : Int) + 1)) := by
  rw [expand_all.l0, if_pos (by omega), if_pos (by omega), if_pos (by omega), hw]
  simp only [Option.bind_some, if_true]
  rw [if_neg (by decide)]
theorem all_next (j : Nat) (l : List Nat) (a b i m r : Nat) (h : i + 1 < l.length) (hi : i < 1000) (hw : expand_within.f (rdOf (0 : Nat) l ((i + 1 : Nat) : Int)) a b = some true)
    (hm : math_Abs.f (rdOf (0 : Nat) l (i : Int)) = some m) (hr : expand_low.f j (rdOf (0 : Nat) l ((i + 1 : Nat) : Int)) = some r) (hlt : (FloatKind.f64.format.order m r == some .gt || FloatKind.f64.format.order m r == some .eq) = false) :
    expand_all.l0 (j + 1) l a b l (l.length : Int) ((i + 1 : Nat) : Int) = expand_all.l0 j l a b l (l.length : Int) (wrap64 (((i + 1 : Nat) : Int) + 1)) := by
  have hp : wrap64 (((i + 1 : Nat) : Int) - 1) = (i : Int) := (wrap_idx (Nat.le_of_lt hi)).1
  have c1 : ((i + 1 : Nat) : Int) < (l.length : Int) := by omega
  have c2 : (0 : Int) ≤ ((i + 1 : Nat) : Int) := by omega
  have c3 : ((i + 1 : Nat) : Int) > 0 := by omega
  have c4 : (0 : Int) ≤ (i : Int) := by omega
  have c5 : (i : Int) < (l.length : Int) := by omega
  rw [expand_all.l0, if_pos c1, if_pos c2, if_pos c1, hw]
  simp only [Option.bind_some, if_true]
  rw [if_pos c3, hp, if_pos c4, if_pos c5, hm, hr]
  simp only [Option.bind_some]
  rw [if_neg (by rw [hlt]; decide)]
theorem below_low {x y m r t : Nat} (hx : Fini x) (hm : math_Abs.f x = some m) (hr : Fini r) (hrt : fval r = 2 ^ t) (ht : ∀ u, 2 ^ u ∣ fmag y → u ≤ t) (hO : O (fval x) (fval y)) : (FloatKind.f64.format.order m r == some .gt || FloatKind.f64.format.order m r == some .eq) = false := by
  rw [abs_some hx.2] at hm
  injection hm with hm
  subst hm
  obtain ⟨u, u1, u2⟩ := hO
  rw [natAbs_fval] at u1
  have hu : 2 ^ u ∣ fmag y := by
    have := Int.natAbs_dvd_natAbs.mpr u2
    rwa [Int.natAbs_pow, natAbs_fval] at this
  have hle : 2 ^ u ≤ 2 ^ t := Nat.pow_le_pow_right (by decide) (ht u hu)
  have hlt : fmag x < 2 ^ t := Nat.lt_of_lt_of_le u1 hle
  have hc : ((2 ^ t : Nat) : Int) = 2 ^ t := by simp
  rw [Eft.order_some hx.pos hr, Eft.fval_abs, hrt, ← hc, Int.compare_eq_lt.mpr (by omega)]
  rfl
theorem all_ev {l : List Nat} {a b : Nat} (hl : ∀ x ∈ l, Fini x ∧ 2 ^ 600 ≤ fmag x) (hw : ∀ x ∈ l, expand_within.f x a b = some true) (hn : NO (l.map fval)) (h64 : l.length ≤ 64) : Ev (fun j => expand_all.f j l a b) true := by
  have main : ∀ (n i : Nat), i + n = l.length → Ev (fun j => expand_all.l0 j l a b l (l.length : Int) (i : Int)) true := by
    intro n
    induction n with
    | zero =>
      intro i hi
      obtain rfl : i = l.length := by omega
      exact Ev.step (f := fun _ => some true) (fun j => all_end j l a b) (Ev.now _)
    | succ n ih =>
      intro i hi
      have hlt : i < l.length := by omega
      have h0 := ih (i + 1) (by omega)
      have hi1 : i < 1000 := by omega
      cases i with
      | zero => exact Ev.step (fun j => (all_first j l a b hlt (hw _ (rd_mem hlt))).trans (by rw [wrap_succ (i := 0) (by decide)])) h0
      | succ i =>
        have hlt' : i < l.length := by omega
        have hi2 : i < 1000 := by omega
        have hx := hl _ (rd_mem hlt')
        have hy := hl _ (rd_mem hlt)
        obtain ⟨r, t, ⟨K, hK⟩, r2, r3, r4, r5⟩ := low_ev hy.1 hy.2
        have hO : O (fval (rdOf (0 : Nat) l i)) (fval (rdOf (0 : Nat) l ((i + 1 : Nat) : Int))) := by
          have := List.pairwise_iff_getElem.mp hn i (i + 1) (by simpa using hlt') (by simpa using hlt) (by omega)
          simpa [rdOf, List.getD_eq_getElem?_getD, List.getElem?_eq_getElem hlt', List.getElem?_eq_getElem hlt] using this
        have hb := below_low hx.1 (abs_some hx.1.2) r2 r3 r5 hO
        obtain ⟨K2, hK2⟩ := h0
        refine ⟨K + K2 + 1, fun j hj => ?_⟩
        obtain ⟨j', rfl⟩ : ∃ j', j = j' + 1 := ⟨j - 1, by omega⟩
        show expand_all.l0 (j' + 1) l a b l (l.length : Int) ((i + 1 : Nat) : Int) = _
        rw [all_next j' l a b i _ r hlt hi2 (hw _ (rd_mem hlt)) (abs_some hx.1.2) (hK j' (by omega)) hb, wrap_succ hi1]
        exact hK2 j' (by omega)
  have c : ¬ (l.length : Int) > 64 := by omega
  refine Ev.congr (fun j => ?_) (main l.length 0 (by omega))
  unfold expand_all.f
  rw [if_neg c]
  rfl
end Go.Proofs.YtioahkblhekgpaaGreatDoor.Exp
namespace Go.Proofs.YtioahkblhekgpaaGreatDoor.Exp
set_option exponentiation.threshold 4000
open Go.RowKit Go.Proofs.YtioahkblhekgpaaGreatDoor.FltP Go.Proofs.YtioahkblhekgpaaGreatDoor.R Go.Proofs.YtioahkblhekgpaaGreatDoor.E Go.Proofs.YtioahkblhekgpaaGreatDoorW.PrintWords Go.Proofs.YtioahkblhekgpaaGreatDoorW.PrintLast Go.Proofs.YtioahkblhekgpaaGreatDoorW.PrintMore Ieee
open Go.Proofs.YtioahkblhekgpaaGreatDoor.No
open Go.Proofs.YtioahkblhekgpaaGreatDoor.Rnd (Rep)
structure Xp (k G : Nat) (l : List Nat) (z : Int) : Prop where
  fin : ∀ x ∈ l, Fini x ∧ fmag x ≤ 2 ^ k
  grid : ∀ x ∈ l, 2 ^ G ∣ fmag x
  ne : ∀ x ∈ l, fval x ≠ 0
  no : NO (l.map fval)
  sum : (l.map fval).sum = z
theorem Xp.mono {k k' G : Nat} {l : List Nat} {z : Int} (h : Xp k G l z) (hk : k ≤ k') : Xp k' G l z :=
  ⟨fun x hx => ⟨(h.fin x hx).1, Nat.le_trans (h.fin x hx).2 (Nat.pow_le_pow_right (by decide) hk)⟩, h.grid, h.ne, h.no, h.sum⟩
theorem Xp.nil (k G : Nat) : Xp k G [] 0 := ⟨by simp, by simp, by simp, List.Pairwise.nil, rfl⟩
theorem dvd_val {G x : Nat} : (2 : Int) ^ G ∣ fval x ↔ 2 ^ G ∣ fmag x := by
  rw [← natAbs_fval, ← Int.natAbs_dvd_natAbs, Int.natAbs_pow]; rfl
theorem growZ_dvd (G : Nat) : ∀ (l : List Int) (q : Int), (2 : Int) ^ G ∣ q → (∀ x ∈ l, (2 : Int) ^ G ∣ x) → ∀ y ∈ growZ l q, (2 : Int) ^ G ∣ y
  | [], q, hq, _ => by unfold growZ; split <;> simp_all
  | x :: xs, q, hq, hl => by
    have h1 := Int.dvd_add hq (hl x (by simp))
    have h2 := Rnd.R_grid h1
    have ih := growZ_dvd G xs _ h2 (fun y hy => hl y (by simp [hy]))
    unfold growZ
    split
    · intro y hy; rcases List.mem_cons.mp hy with rfl | hy; exact Int.dvd_sub h1 h2; exact ih y hy
    · exact ih
theorem downZ_dvd (G : Nat) : ∀ (l : List Int) (q : Int) (g : List Int), (2 : Int) ^ G ∣ q → (∀ x ∈ l, (2 : Int) ^ G ∣ x) → (∀ x ∈ g, (2 : Int) ^ G ∣ x) → (2 : Int) ^ G ∣ (downZ l q g).2 ∧ ∀ x ∈ (downZ l q g).1, (2 : Int) ^ G ∣ x
  | [], q, g, hq, _, hg => ⟨hq, hg⟩
  | x :: xs, q, g, hq, hl, hg => by
    have h1 := Int.dvd_add hq (hl x (by simp))
    have h2 := Rnd.R_grid h1
    unfold downZ
    split
    · exact downZ_dvd G xs _ _ (Int.dvd_sub h1 h2) (fun y hy => hl y (by simp [hy])) (fun y hy => by
        rcases List.mem_cons.mp hy with rfl | hy
        · exact h2
        · exact hg y hy)
    · exact downZ_dvd G xs _ _ h2 (fun y hy => hl y (by simp [hy])) hg
theorem neatZ_dvd (G : Nat) (l : List Int) (hl : ∀ x ∈ l, (2 : Int) ^ G ∣ x) : ∀ y ∈ neatZ l, (2 : Int) ^ G ∣ y := by
  have hm : ∀ x, x ∈ l.reverse → x ∈ l := fun x hx => List.mem_reverse.mp hx
  unfold neatZ
  split
  · simp
  · next q rem h =>
    rw [h] at hm
    obtain ⟨h1, h2⟩ := downZ_dvd G rem q [] (hl q (hm q (by simp))) (fun x hx => hl x (hm x (by simp [hx]))) (by simp)
    exact growZ_dvd G _ _ h1 h2
theorem rep_map {l : List Nat} : ∀ x ∈ l.map fval, Rep x := fun x hx => by
  obtain ⟨y, _, rfl⟩ := List.mem_map.mp hx; exact Rnd.fval_rep y
theorem of_map {l : List Nat} {P : Int → Prop} (h : ∀ y ∈ l.map fval, P y) : ∀ x ∈ l, P (fval x) := fun x hx => h _ (List.mem_map.mpr ⟨x, hx, rfl⟩)
theorem to_map {l : List Nat} {P : Int → Prop} (h : ∀ x ∈ l, P (fval x)) : ∀ y ∈ l.map fval, P y := fun y hy => by
  obtain ⟨x, hx, rfl⟩ := List.mem_map.mp hy; exact h x hx
theorem grow_xp {k G : Nat} {l : List Nat} {b : Nat} {z : Int} (h : Xp k G l z) (hb : Fini b) (hbk : fmag b ≤ 2 ^ k) (hbG : 2 ^ G ∣ fmag b) (hk : k ≤ 2000) (hn : l.length ≤ 63) :
    ∃ r, Ev (fun j => expand_grow.f j l b) r ∧ Xp (k + 6) G r (z + fval b) ∧ r.length ≤ l.length + 1 := by
  obtain ⟨r, r1, r2, r3⟩ := grow_ev (fun x hx => (h.fin x hx).1) (fun x hx => (h.fin x hx).2) hb hbk hk (Nat.le_trans hn (by decide))
  have hlen : r.length ≤ l.length + 1 := by
    have := growZ_len (l.map fval) (fval b)
    rw [← r2, List.length_map, List.length_map] at this; exact this
  refine ⟨r, r1, ⟨fun x hx => ⟨(r3 x hx).1, Nat.le_trans (r3 x hx).2 ?_⟩, fun x hx => dvd_val.mp (of_map (P := fun y => (2 : Int) ^ G ∣ y) ?_ x hx), of_map (P := fun y => y ≠ 0) ?_, ?_, ?_⟩, hlen⟩
  · rw [Nat.pow_add, Nat.mul_comm (2 ^ k)]; exact Nat.mul_le_mul_right _ (Nat.succ_le_succ hn)
  · rw [r2]; exact growZ_dvd G _ _ (dvd_val.mpr hbG) (to_map (P := fun y => (2 : Int) ^ G ∣ y) fun x hx => dvd_val.mpr (h.grid x hx))
  · rw [r2]; exact growZ_ne _ _
  · rw [r2]; exact grow_no (Rnd.fval_rep b) rep_map h.no
  · rw [r2, growZ_sum, h.sum]
theorem neat_xp {k G : Nat} {l : List Nat} {z : Int} (h : Xp k G l z) (hk : k ≤ 2000) (hn : l.length ≤ 64) :
    ∃ r, Ev (fun j => expand_neat.f j l) r ∧ Xp (k + 20) G r z ∧ r.length ≤ l.length := by
  obtain ⟨r, r1, r2, r3⟩ := neat_ev (fun x hx => (h.fin x hx).1) (fun x hx => (h.fin x hx).2) hk (Nat.le_trans hn (by decide))
  obtain ⟨n1, n2, n3⟩ := neat_no (e := l.map fval) rep_map h.no (to_map (P := fun y => y ≠ 0) h.ne)
  have hlen : r.length ≤ l.length := by
    have := neatZ_len (l.map fval)
    rw [← r2, List.length_map, List.length_map] at this; exact this
  refine ⟨r, r1, ⟨r3, fun x hx => dvd_val.mp (of_map (P := fun y => (2 : Int) ^ G ∣ y) ?_ x hx), of_map (P := fun y => y ≠ 0) ?_, ?_, ?_⟩, hlen⟩
  · rw [r2]; exact neatZ_dvd G _ (to_map (P := fun y => (2 : Int) ^ G ∣ y) fun x hx => dvd_val.mpr (h.grid x hx))
  · rw [r2]; exact n3
  · rw [r2]; exact n1
  · rw [r2, neatZ_sum, h.sum]
theorem Xp.big {k G : Nat} {l : List Nat} {z : Int} (h : Xp k G l z) (hG : 600 ≤ G) : ∀ x ∈ l, Fini x ∧ 2 ^ 600 ≤ fmag x := fun x hx => by
  refine ⟨(h.fin x hx).1, ?_⟩
  have h1 := h.grid x hx
  have h2 := h.ne x hx
  have h3 : fmag x ≠ 0 := fun h0 => h2 ((fval_zero_iff x).mpr h0)
  exact Nat.le_trans (Nat.pow_le_pow_right (by decide) hG) (Nat.le_of_dvd (by omega) h1)
theorem Xp.low {k G : Nat} {l : List Nat} {z : Int} (h : Xp k G l z) : ∀ x ∈ l, 2 ^ G ≤ fmag x := fun x hx => by
  have h1 := h.grid x hx
  have h3 : fmag x ≠ 0 := fun h0 => h.ne x hx ((fval_zero_iff x).mpr h0)
  exact Nat.le_of_dvd (by omega) h1
theorem order_inf {y : Nat} (h : Fini y) : FloatKind.f64.format.order y 9218868437227405312 = some .lt := by
  have hr : FloatKind.f64.format.read 9218868437227405312 = .infinity false := read_inf (b := 9218868437227405312) (by decide)
  unfold Format.order
  rw [hr, show FloatKind.f64.format.read y = _ from read_fin h]
  rfl
theorem within_inf {y : Nat} (h : Fini y) (h1 : 1 ≤ fmag y) : expand_within.f y 1 9218868437227405312 = some true := by
  have hone : Fini 1 := ⟨by decide, by decide⟩
  have hv : fval 1 = 1 := by decide
  unfold expand_within.f
  rw [abs_some h.2]
  simp only [Option.bind_some]
  rw [order_inf h.pos, Eft.order_some h.pos hone, Eft.fval_abs, hv]
  have : (some (compare ((fmag y : Nat) : Int) 1) == some .gt || some (compare ((fmag y : Nat) : Int) 1) == some .eq) = true := by
    rcases Nat.lt_or_eq_of_le h1 with h2 | h2
    · rw [Int.compare_eq_gt.mpr (by omega)]; rfl
    · rw [← h2]; rfl
  rw [if_pos this]
  rfl
theorem within_fin {y a b : Nat} (h : Fini y) (ha : Fini a) (hb : Fini b) (ha0 : a < 2 ^ 63) (hb0 : b < 2 ^ 63) (h1 : fmag a ≤ fmag y) (h2 : fmag y ≤ fmag b) : expand_within.f y a b = some true := by
  unfold expand_within.f
  rw [abs_some h.2]
  simp only [Option.bind_some]
  rw [Eft.order_some h.pos ha, Eft.order_some h.pos hb, Eft.fval_abs, fval_nonneg ha0, fval_nonneg hb0]
  have n1 : (some (compare ((fmag y : Nat) : Int) (fmag a : Int)) == some .gt || some (compare ((fmag y : Nat) : Int) (fmag a : Int)) == some .eq) = true := by
    rcases Nat.lt_or_eq_of_le h1 with h | h
    · rw [Int.compare_eq_gt.mpr (by omega)]; rfl
    · rw [Int.compare_eq_eq.mpr (by omega)]; rfl
  rw [if_pos n1]
  rcases Nat.lt_or_eq_of_le h2 with h | h
  · rw [Int.compare_eq_lt.mpr (by omega)]; rfl
  · rw [Int.compare_eq_eq.mpr (by omega)]; rfl
theorem closed_xp {k G : Nat} {l : List Nat} {z : Int} (h : Xp k G l z) (hk : k ≤ 2000) (hn : l.length ≤ 64) (hG : 600 ≤ G) :
    ∃ r, Ev (fun j => closed j l) r ∧ Xp (k + 20) G r z ∧ r.length ≤ l.length := by
  obtain ⟨r, r1, r2, r3⟩ := neat_xp h hk hn
  have ha : Ev (fun j => expand_all.f j r 1 9218868437227405312) true := all_ev (r2.big hG) (fun x hx => within_inf (r2.fin x hx).1 (Nat.le_trans (Nat.one_le_two_pow) (r2.low x hx))) r2.no (Nat.le_trans r3 hn)
  exact ⟨r, Ev.bind r1 (Ev.bind ha (Ev.now r)), r2, r3⟩
theorem plusAt_pick {e f : List Nat} {n i j : Nat} {out : List Nat} {t : Bool} {Q : List Nat → Prop} (hj : j < f.length) (hi : i < e.length) (hlt : ltAbs (rdOf (0 : Nat) e i) (rdOf (0 : Nat) f j) = some t)
    (h1 : t = true → ∃ r, Ev (fun q => (expand_grow.f q out (rdOf (0 : Nat) e i)).bind (plusAt q e f n (i + 1) j)) r ∧ Q r)
    (h2 : t = false → ∃ r, Ev (fun q => (expand_grow.f q out (rdOf (0 : Nat) f j)).bind (plusAt q e f n i (j + 1))) r ∧ Q r) : ∃ r, Ev (fun q => plusAt q e f (n + 1) i j out) r ∧ Q r := by
  cases t with
  | false =>
    obtain ⟨r, r1, r2⟩ := h2 rfl
    refine ⟨r, Ev.congr (fun q => ?_) r1, r2⟩
    simp only [plusAt]
    rw [if_pos hj, if_pos hi, hlt, Option.bind_some, if_neg (by decide)]
  | true =>
    obtain ⟨r, r1, r2⟩ := h1 rfl
    refine ⟨r, Ev.congr (fun q => ?_) r1, r2⟩
    simp only [plusAt]
    rw [if_pos hj, if_pos hi, hlt, Option.bind_some]
    simp only [if_true]
theorem plusAt_xp (e f : List Nat) (G : Nat) (hef : ∀ x ∈ e ++ f, Fini x ∧ 2 ^ G ∣ fmag x) : ∀ (n i j k : Nat) (out : List Nat) (z : Int), i ≤ e.length → j ≤ f.length → i + j + n = e.length + f.length → Xp k G out z → (∀ x ∈ e ++ f, fmag x ≤ 2 ^ k) → out.length + n ≤ 64 → k + 6 * n ≤ 2000 →
    ∃ r, Ev (fun q => plusAt q e f n i j out) r ∧ Xp (k + 6 * n) G r (z + ((e.drop i).map fval).sum + ((f.drop j).map fval).sum) ∧ r.length ≤ out.length + n := by
  intro n
  induction n with
  | zero =>
    intro i j k out z hi hj hn h hb hl hk
    refine ⟨out, ⟨0, fun q _ => by unfold plusAt; rfl⟩, ?_, by omega⟩
    rw [List.drop_eq_nil_of_le (show e.length ≤ i by omega), List.drop_eq_nil_of_le (show f.length ≤ j by omega)]
    simpa using h
  | succ n ih =>
    intro i j k out z hi hj hn h hb hl hk
    have up : ∀ x ∈ e ++ f, fmag x ≤ 2 ^ (k + 6) := fun x hx => Nat.le_trans (hb x hx) (Nat.pow_le_pow_right (by decide) (by omega))
    have me : i < e.length → rdOf (0 : Nat) e i ∈ e ++ f := fun hlt => List.mem_append.mpr (.inl (rd_mem hlt))
    have mf : j < f.length → rdOf (0 : Nat) f j ∈ e ++ f := fun hlt => List.mem_append.mpr (.inr (rd_mem hlt))
    have takeE : i < e.length → ∃ r, Ev (fun q => (expand_grow.f q out (rdOf (0 : Nat) e i)).bind (plusAt q e f n (i + 1) j)) r ∧ Xp (k + 6 * (n + 1)) G r (z + ((e.drop i).map fval).sum + ((f.drop j).map fval).sum) ∧ r.length ≤ out.length + (n + 1) := fun hlt => by
      obtain ⟨o, o1, o2, o3⟩ := grow_xp h (hef _ (me hlt)).1 (hb _ (me hlt)) (hef _ (me hlt)).2 (by omega) (by omega)
      obtain ⟨r, r1, r2, r3⟩ := ih (i + 1) j (k + 6) o _ hlt hj (by omega) o2 up (by omega) (by omega)
      refine ⟨r, Ev.bind o1 r1, ?_, by omega⟩
      rw [drop_at hlt, List.map_cons, List.sum_cons]
      rw [show k + 6 * (n + 1) = k + 6 + 6 * n from by omega, show z + (fval (rdOf (0 : Nat) e i) + ((e.drop (i + 1)).map fval).sum) = z + fval (rdOf (0 : Nat) e i) + ((e.drop (i + 1)).map fval).sum from by omega]
      exact r2
    have takeF : j < f.length → ∃ r, Ev (fun q => (expand_grow.f q out (rdOf (0 : Nat) f j)).bind (plusAt q e f n i (j + 1))) r ∧ Xp (k + 6 * (n + 1)) G r (z + ((e.drop i).map fval).sum + ((f.drop j).map fval).sum) ∧ r.length ≤ out.length + (n + 1) := fun hlt => by
      obtain ⟨o, o1, o2, o3⟩ := grow_xp h (hef _ (mf hlt)).1 (hb _ (mf hlt)) (hef _ (mf hlt)).2 (by omega) (by omega)
      obtain ⟨r, r1, r2, r3⟩ := ih i (j + 1) (k + 6) o _ hi hlt (by omega) o2 up (by omega) (by omega)
      refine ⟨r, Ev.bind o1 r1, ?_, by omega⟩
      rw [drop_at hlt, List.map_cons, List.sum_cons]
      rw [show k + 6 * (n + 1) = k + 6 + 6 * n from by omega, show z + ((e.drop i).map fval).sum + (fval (rdOf (0 : Nat) f j) + ((f.drop (j + 1)).map fval).sum) = z + fval (rdOf (0 : Nat) f j) + ((e.drop i).map fval).sum + ((f.drop (j + 1)).map fval).sum from by omega]
      exact r2
    by_cases hj1 : j < f.length
    · by_cases hi1 : i < e.length
      · have hlt : ltAbs (rdOf (0 : Nat) e i) (rdOf (0 : Nat) f j) = some (FloatKind.f64.format.order (rdOf (0 : Nat) e i % 2 ^ 63) (rdOf (0 : Nat) f j % 2 ^ 63) == some .lt) := by
          unfold ltAbs; rw [abs_some (hef _ (me hi1)).1.2, abs_some (hef _ (mf hj1)).1.2]; simp only [Option.bind_some]
        refine plusAt_pick hj1 hi1 hlt (fun _ => takeE hi1) (fun _ => takeF hj1)
      · obtain ⟨r, r1, r2⟩ := takeF hj1
        exact ⟨r, Ev.congr (fun q => by simp only [plusAt]; rw [if_pos hj1, if_neg hi1]) r1, r2⟩
    · have hi1 : i < e.length := by omega
      obtain ⟨r, r1, r2⟩ := takeE hi1
      exact ⟨r, Ev.congr (fun q => by simp only [plusAt]; rw [if_neg hj1, if_pos ⟨by omega, hi1⟩]) r1, r2⟩
theorem plus_xp {k G : Nat} {e f : List Nat} {y z : Int} (he : Xp k G e y) (hf : Xp k G f z) (hn : e.length + f.length ≤ 64) (hk : k + 6 * (e.length + f.length) ≤ 2000) (hG : 600 ≤ G) :
    ∃ r, Ev (fun q => expand_plus.f q e f) r ∧ Xp (k + 6 * (e.length + f.length) + 20) G r (y + z) ∧ r.length ≤ e.length + f.length := by
  have hb : ∀ x ∈ e ++ f, (Fini x ∧ 2 ^ G ∣ fmag x) ∧ fmag x ≤ 2 ^ k := fun x hx => by
    rcases List.mem_append.mp hx with hx | hx
    · exact ⟨⟨(he.fin x hx).1, he.grid x hx⟩, (he.fin x hx).2⟩
    · exact ⟨⟨(hf.fin x hx).1, hf.grid x hx⟩, (hf.fin x hx).2⟩
  obtain ⟨o, o1, o2, o3⟩ := plusAt_xp e f G (fun x hx => (hb x hx).1) (e.length + f.length) 0 0 k [] 0 (by omega) (by omega) (by omega) (Xp.nil _ _) (fun x hx => (hb x hx).2) (by simpa using hn) hk
  simp only [List.drop_zero, he.sum, hf.sum, Int.zero_add, List.length_nil, Nat.zero_add] at o2 o3
  obtain ⟨r, r1, r2, r3⟩ := closed_xp o2 hk (Nat.le_trans o3 hn) hG
  exact ⟨r, Ev.bind o1 r1, r2, Nat.le_trans r3 o3⟩
end Go.Proofs.YtioahkblhekgpaaGreatDoor.Exp
namespace Go.Proofs.YtioahkblhekgpaaGreatDoor.Exp
set_option exponentiation.threshold 4000
open Go.RowKit Go.Proofs.YtioahkblhekgpaaGreatDoor.FltP Go.Proofs.YtioahkblhekgpaaGreatDoor.R Go.Proofs.YtioahkblhekgpaaGreatDoor.E Go.Proofs.YtioahkblhekgpaaGreatDoorW.PrintWords Go.Proofs.YtioahkblhekgpaaGreatDoorW.PrintLast Go.Proofs.YtioahkblhekgpaaGreatDoorW.PrintMore Ieee
open Go.Proofs.YtioahkblhekgpaaGreatDoor.No
open Go.Proofs.YtioahkblhekgpaaGreatDoor.Rnd (Rep)
structure PrEq (a b y : Int) : Prop where
  eq : a * b = y * 2 ^ 1074
theorem PrEq.zero (b : Int) : PrEq 0 b 0 := ⟨by rw [Int.zero_mul, Int.zero_mul]⟩
theorem PrEq.zero' (b : Int) : PrEq b 0 0 := ⟨by rw [Int.mul_zero, Int.zero_mul]⟩
theorem PrEq.add {a a' b y y' : Int} (h : PrEq a b y) (h' : PrEq a' b y') : PrEq (a + a') b (y + y') := ⟨by rw [Int.add_mul, h.eq, h'.eq, Int.add_mul]⟩
theorem PrEq.add' {a b b' y y' : Int} (h : PrEq a b y) (h' : PrEq a b' y') : PrEq a (b + b') (y + y') := ⟨by rw [Int.mul_add, h.eq, h'.eq, Int.add_mul]⟩
theorem prod_split {x b Ge Gb G ke kb K : Nat} (h1 : 2 ^ Ge ∣ fmag x) (h2 : 2 ^ Gb ∣ fmag b) (hG : G + 1074 = Ge + Gb) (k1 : fmag x ≤ 2 ^ ke) (k2 : fmag b ≤ 2 ^ kb) (hK : ke + kb ≤ K + 1074) :
    ∃ z : Int, PrEq (fval x) (fval b) z ∧ (2 : Int) ^ G ∣ z ∧ z.natAbs ≤ 2 ^ K := by
  obtain ⟨c, hc⟩ := dvd_val.mpr h1
  obtain ⟨d, hd⟩ := dvd_val.mpr h2
  have e : fval x * fval b = 2 ^ G * (c * d) * 2 ^ 1074 := by
    have : (2 : Int) ^ Ge * 2 ^ Gb = 2 ^ G * 2 ^ 1074 := by rw [← Int.pow_add, ← Int.pow_add, hG]
    rw [hc, hd]
    generalize (2 : Int) ^ 1074 = T at *; generalize (2 : Int) ^ Ge = I at *; generalize (2 : Int) ^ Gb = J at *; generalize (2 : Int) ^ G = E at *; grind
  refine ⟨2 ^ G * (c * d), ⟨e⟩, ⟨_, rfl⟩, ?_⟩
  have h3 : (fval x * fval b).natAbs ≤ 2 ^ (K + 1074) := by
    rw [Int.natAbs_mul, natAbs_fval, natAbs_fval]
    exact Nat.le_trans (Nat.mul_le_mul k1 k2) (by rw [← Nat.pow_add]; exact Nat.pow_le_pow_right (by decide) hK)
  rw [e, Int.natAbs_mul, Nat.pow_add, show ((2 : Int) ^ 1074).natAbs = 2 ^ 1074 from by rw [Int.natAbs_pow]; rfl] at h3
  exact Nat.le_of_mul_le_mul_right h3 (Nat.two_pow_pos _)
theorem prod_xp {x b Ge Gb G ke kb K : Nat} (hx : Fini x) (hb : Fini b) (x2 : fmag x ≤ 2 ^ ke) (x3 : 2 ^ Ge ∣ fmag x) (x4 : fval x ≠ 0) (b1 : 2 ^ 624 ≤ fmag b) (b2 : fmag b ≤ 2 ^ 1524) (bG : 2 ^ Gb ∣ fmag b) (bK : fmag b ≤ 2 ^ kb) (hG : G + 1074 = Ge + Gb) (hG2 : 216 ≤ G) (he1 : 624 ≤ Ge) (he2 : ke ≤ 1524) (hK : ke + kb ≤ K + 1074) :
    ∃ p r zz, Eft.eft_Prod.f x b = some (p, r) ∧ Fini p ∧ Fini r ∧ fval p + fval r = zz ∧ PrEq (fval x) (fval b) zz ∧ fmag p ≤ 2 ^ K ∧ fmag r ≤ 2 ^ K ∧ 2 ^ G ∣ fmag p ∧ 2 ^ G ∣ fmag r := by
  have x0 : fmag x ≠ 0 := fun h0 => x4 ((fval_zero_iff x).mpr h0)
  have b0 : fmag b ≠ 0 := fun h0 => by rw [h0] at b1; exact absurd b1 (by decide)
  have xl : 2 ^ Ge ≤ fmag x := Nat.le_of_dvd (Nat.pos_of_ne_zero x0) x3
  have bl : 2 ^ Gb ≤ fmag b := Nat.le_of_dvd (Nat.pos_of_ne_zero b0) bG
  have hGG : 1290 ≤ Ge + Gb := by clear b1 b2 x2 bK xl bl; omega
  obtain ⟨zz, z1, z2, z3⟩ := prod_split x3 bG hG x2 bK hK
  obtain ⟨p, r, p1, p2, p3, p4, p5⟩ := Eft.prod_ev hx hb (Nat.le_trans (Nat.pow_le_pow_right (by decide) he1) xl) (Nat.le_trans x2 (Nat.pow_le_pow_right (by decide) he2)) b1 b2 xl bl hGG z1.eq
  refine ⟨p, r, zz, p1, p2, p3, by rw [p4, p5]; clear b1 b2 x2 bK xl bl; omega, z1, ?_, ?_, ?_, ?_⟩
  · rw [← natAbs_fval, p4]; exact Eft.R_lt z3
  · rw [← natAbs_fval, p5]
    have h1 := Rnd.R_near zz Rnd.Rep_zero
    have e1 : (0 - zz).natAbs = zz.natAbs := by clear b1 b2 x2 bK xl bl z3; omega
    have e2 : (zz - Rnd.R zz).natAbs = (Rnd.R zz - zz).natAbs := by clear b1 b2 x2 bK xl bl z3 h1; omega
    rw [e2]; exact Nat.le_trans h1 (by rw [e1]; exact z3)
  · exact dvd_val.mp (by rw [p4]; exact Rnd.R_grid z2)
  · exact dvd_val.mp (by rw [p5]; exact Int.dvd_sub z2 (Rnd.R_grid z2))
theorem scaleL_xp {b Gb kb Ge ke G : Nat} (hb : Fini b) (b1 : 2 ^ 624 ≤ fmag b) (b2 : fmag b ≤ 2 ^ 1524) (bG : 2 ^ Gb ∣ fmag b) (bK : fmag b ≤ 2 ^ kb) (hG : G + 1074 = Ge + Gb) (hG2 : 216 ≤ G) (he1 : 624 ≤ Ge) (he2 : ke ≤ 1524) (e : List Nat) :
    ∀ (out : List Nat) (z : Int) (K : Nat), (∀ x ∈ e, Fini x ∧ fmag x ≤ 2 ^ ke ∧ 2 ^ Ge ∣ fmag x ∧ fval x ≠ 0) → Xp K G out z → ke + kb ≤ K + 1074 → out.length + 2 * e.length ≤ 64 → K + 12 * e.length ≤ 2000 →
    ∃ r y, Ev (fun q => scaleL q b e out) r ∧ PrEq (e.map fval).sum (fval b) y ∧ Xp (K + 12 * e.length) G r (z + y) ∧ r.length ≤ out.length + 2 * e.length := by
  induction e with
  | nil => exact fun out z K _ h _ _ _ => ⟨out, 0, ⟨0, fun q _ => rfl⟩, PrEq.zero _, by rw [Int.add_zero]; exact h, Nat.le_refl _⟩
  | cons x e ih =>
    intro out z K he h hK hl hk
    obtain ⟨x1, x2, x3, x4⟩ := he x (List.mem_cons_self ..)
    rw [List.length_cons] at hl hk
    obtain ⟨p, r, zz, p1, p2, p3, p4, p5, pb, rb, pG, rG⟩ := prod_xp x1 hb x2 x3 x4 b1 b2 bG bK hG hG2 he1 he2 hK
    have pb2 : fmag p ≤ 2 ^ (K + 6) := Nat.le_trans pb (Nat.pow_le_pow_right (by decide) (Nat.le_add_right _ _))
    clear b1 b2 bK x2 pb
    have n1 : K ≤ 2000 := by clear rb pb2; omega
    have n2 : out.length ≤ 63 := by clear rb pb2; omega
    have n3 : K + 6 ≤ 2000 := by clear rb pb2; omega
    obtain ⟨o1, q1, q2, q3⟩ := grow_xp h p3 rb rG n1 n2
    have n4 : o1.length ≤ 63 := by clear rb pb2; omega
    obtain ⟨o2, q4, q5, q6⟩ := grow_xp q2 p2 pb2 pG n3 n4
    clear rb pb2
    obtain ⟨rr, y, r1, r2, r3, r4⟩ := ih o2 _ (K + 6 + 6) (fun w hw => he w (List.mem_cons_of_mem _ hw)) q5 (by omega) (by omega) (by omega)
    refine ⟨rr, zz + y, ?_, ?_, ?_, by rw [List.length_cons]; omega⟩
    · refine Ev.congr (f := fun q => (expand_grow.f q out r).bind fun o => (expand_grow.f q o p).bind (scaleL q b e)) (fun q => ?_) (Ev.bind q1 (Ev.bind q4 r1))
      simp only [scaleL]; rw [p1, Option.bind_some]
    · rw [List.map_cons, List.sum_cons]; exact p5.add r2
    · rw [List.length_cons, show K + 12 * (e.length + 1) = K + 6 + 6 + 12 * e.length from by omega, show z + (zz + y) = z + fval r + fval p + y from by omega]
      exact r3
theorem within_450 {b : Nat} (hb : Fini b) (b1 : 2 ^ 624 ≤ fmag b) (b2 : fmag b ≤ 2 ^ 1524) : expand_within.f b 2580562586483294208 6633802251116740608 = some true :=
  within_fin hb ⟨by decide, by decide⟩ ⟨by decide, by decide⟩ (by decide) (by decide) (by rw [show fmag 2580562586483294208 = 2 ^ 624 from by decide +kernel]; exact b1) (by rw [show fmag 6633802251116740608 = 2 ^ 1524 from by decide +kernel]; exact b2)
theorem scale_xp {b Gb kb Ge ke G K : Nat} {e : List Nat} {z : Int} (h : Xp ke Ge e z) (hb : Fini b) (b0 : fval b ≠ 0) (b2 : kb ≤ 1524) (bG : 2 ^ Gb ∣ fmag b) (bK : fmag b ≤ 2 ^ kb) (hG : G + 1074 = Ge + Gb) (hG2 : 600 ≤ G) (he1 : 624 ≤ Ge) (hb1 : 624 ≤ Gb) (he2 : ke ≤ 1524)
    (hK : ke + kb ≤ K + 1074) (hl : e.length ≤ 32) (hk : K + 12 * e.length ≤ 2000) :
    ∃ r y, Ev (fun q => expand_Scale.f q e b) r ∧ PrEq z (fval b) y ∧ Xp (K + 12 * e.length + 20) G r y ∧ r.length ≤ 2 * e.length := by
  have m0 : fmag b ≠ 0 := fun h0 => b0 ((fval_zero_iff b).mpr h0)
  have b1 : 2 ^ 624 ≤ fmag b := Nat.le_trans (Nat.pow_le_pow_right (by decide) hb1) (Nat.le_of_dvd (Nat.pos_of_ne_zero m0) bG)
  have b3 : fmag b ≤ 2 ^ 1524 := Nat.le_trans bK (Nat.pow_le_pow_right (by decide) b2)
  obtain ⟨o, y, o1, o2, o3, o4⟩ := scaleL_xp hb b1 b3 bG bK hG (Nat.le_trans (by decide) hG2) he1 he2 e [] 0 K (fun x hx => ⟨(h.fin x hx).1, (h.fin x hx).2, h.grid x hx, h.ne x hx⟩) (Xp.nil _ _) hK (by clear b1 b3 bK; rw [List.length_nil]; omega) hk
  rw [Int.zero_add] at o3
  rw [List.length_nil, Nat.zero_add] at o4
  obtain ⟨r, r1, r2, r3⟩ := closed_xp o3 hk (by clear b1 b3 bK; omega) hG2
  refine ⟨r, y, ?_, by rw [← h.sum]; exact o2, r2, Nat.le_trans r3 o4⟩
  refine Ev.congr (fun q => ?_) (Ev.bind o1 r1)
  unfold expand_Scale.f
  rw [if_pos ⟨by rw [eq_ev hb]; simp [b0], within_450 hb b1 b3⟩]
theorem mulL_xp {Gb kb Ge ke G K L : Nat} {e : List Nat} {z : Int} (h : Xp ke Ge e z) (b2 : kb ≤ 1524) (hG : G + 1074 = Ge + Gb) (hG2 : 600 ≤ G) (he1 : 624 ≤ Ge) (hb1 : 624 ≤ Gb) (he2 : ke ≤ 1524) (hK : ke + kb ≤ K + 1074) (hl : e.length ≤ 16) (hL : L ≤ 64) (f : List Nat) :
    ∀ (out : List Nat) (y : Int) (K' : Nat), (∀ x ∈ f, Fini x ∧ fmag x ≤ 2 ^ kb ∧ 2 ^ Gb ∣ fmag x ∧ fval x ≠ 0) → Xp K' G out y → K + 12 * e.length + 20 ≤ K' → out.length + 2 * e.length * f.length ≤ L → K' + (6 * L + 20) * f.length ≤ 2000 →
    ∃ r w, Ev (fun q => mulL q e f out) r ∧ PrEq z (f.map fval).sum w ∧ Xp (K' + (6 * L + 20) * f.length) G r (y + w) ∧ r.length ≤ out.length + 2 * e.length * f.length := by
  induction f with
  | nil => exact fun out y K' _ ho _ _ _ => ⟨out, 0, ⟨0, fun q _ => rfl⟩, PrEq.zero' _, by rw [Int.add_zero]; exact ho, Nat.le_refl _⟩
  | cons b f ih =>
    intro out y K' hf ho hKK hll hk
    obtain ⟨x1, x2, x3, x4⟩ := hf b (List.mem_cons_self ..)
    have hm : 2 * e.length * (b :: f).length = 2 * e.length * f.length + 2 * e.length := by rw [List.length_cons, Nat.mul_succ]
    have hm2 : K' + (6 * L + 20) * (b :: f).length = K' + (6 * L + 20) + (6 * L + 20) * f.length := by rw [List.length_cons, Nat.mul_succ, Nat.add_assoc, Nat.add_comm ((6 * L + 20) * _)]
    rw [hm] at hll
    rw [hm2] at hk
    rw [hm, hm2]
    have n0 : K + 12 * e.length ≤ 2000 := by clear x2 hm hm2; generalize (6 * L + 20) * f.length = M2 at *; omega
    obtain ⟨p, w1, p1, p2, p3, p4⟩ := scale_xp h x1 x4 b2 x3 x2 hG hG2 he1 hb1 he2 hK (Nat.le_trans hl (by decide)) n0
    clear x2 x3 x4 hm hm2
    have n1 : out.length + p.length ≤ L := by generalize 2 * e.length * f.length = M at *; omega
    have n2 : K' + 6 * (out.length + p.length) ≤ 2000 := by generalize (6 * L + 20) * f.length = M2 at *; omega
    have n3 : K' + 6 * (out.length + p.length) + 20 ≤ K' + (6 * L + 20) := by omega
    obtain ⟨o, o1, o2, o3⟩ := plus_xp ho (p3.mono hKK) (Nat.le_trans n1 hL) n2 hG2
    obtain ⟨r, w2, r1, r2, r3, r4⟩ := ih o _ (K' + (6 * L + 20)) (fun x hx => hf x (List.mem_cons_of_mem _ hx)) (o2.mono n3) (Nat.le_trans hKK (Nat.le_add_right _ _)) (by generalize 2 * e.length * f.length = M at *; omega) hk
    refine ⟨r, w1 + w2, ?_, ?_, ?_, by generalize 2 * e.length * f.length = M at *; omega⟩
    · refine Ev.congr (f := fun q => (expand_Scale.f q e b).bind fun p' => if out.length + p'.length < 9223372036854775807 then (expand_plus.f q out p').bind (mulL q e f) else none) (fun q => by simp only [mulL]) (Ev.bind p1 (Ev.congr (fun q => ?_) (Ev.bind o1 r1)))
      rw [if_pos (Nat.lt_of_le_of_lt (Nat.le_trans n1 hL) (by decide))]
    · rw [List.map_cons, List.sum_cons]; exact p2.add' r2
    · rw [← Int.add_assoc]
      exact r3
end Go.Proofs.YtioahkblhekgpaaGreatDoor.Exp
namespace Go.Proofs.YtioahkblhekgpaaGreatDoor.Exp
set_option exponentiation.threshold 4000
open Go.RowKit Go.Proofs.YtioahkblhekgpaaGreatDoor.FltP Go.Proofs.YtioahkblhekgpaaGreatDoor.R Go.Proofs.YtioahkblhekgpaaGreatDoor.E Go.Proofs.YtioahkblhekgpaaGreatDoorW.PrintWords Go.Proofs.YtioahkblhekgpaaGreatDoorW.PrintLast Go.Proofs.YtioahkblhekgpaaGreatDoorW.PrintMore Ieee
open Go.Proofs.YtioahkblhekgpaaGreatDoor.No
open Go.Proofs.YtioahkblhekgpaaGreatDoor.Rnd (Rep)
theorem neg_loop (e : List Nat) (he : ∀ x ∈ e, Fini x) (hn : e.length ≤ 1000) : ∀ (n i : Nat) (out : List Nat), i + n = e.length → out.length = e.length → Ev (fun j => expand_Neg.l0 j out e (e.length : Int) (i : Int)) (out.take i ++ (e.drop i).map fneg) := by
  intro n
  induction n with
  | zero =>
    intro i out hi ho
    have h1 : e.drop i = [] := List.drop_eq_nil_of_le (by omega)
    rw [h1, List.map_nil, List.append_nil, List.take_of_length_le (by omega)]
    exact Ev.step (f := fun _ => some out) (fun j => by rw [expand_Neg.l0, if_neg (by omega)]) (Ev.now _)
  | succ n ih =>
    intro i out hi ho
    have hlt : i < e.length := by omega
    have h0 := ih (i + 1) (out.set i (fneg (rdOf (0 : Nat) e (i : Int)))) (by omega) (by rw [List.length_set]; exact ho)
    have e1 : (out.set i (fneg (rdOf (0 : Nat) e (i : Int)))).take (i + 1) ++ (e.drop (i + 1)).map fneg = out.take i ++ (e.drop i).map fneg := by
      rw [drop_at hlt, List.map_cons, List.take_add_one, List.take_set_of_le (Nat.le_refl _), List.append_assoc]
      congr 1
      rw [List.getElem?_set_self (by omega)]
      rfl
    rw [e1] at h0
    refine Ev.step (fun j => ?_) h0
    have c1 : (i : Int) < (e.length : Int) := by omega
    have c2 : (i : Int) < (out.length : Int) := by omega
    rw [expand_Neg.l0, if_pos c1, if_pos (by omega), if_pos c1, if_pos c2, Int.toNat_natCast, wrap_succ (by omega)]
theorem neg_ev {e : List Nat} (he : ∀ x ∈ e, Fini x) (hn : e.length ≤ 1000) : Ev (fun j => expand_Neg.f j e) (e.map fneg) := by
  have h := neg_loop e he hn e.length 0 (List.replicate (e.length : Int).toNat 0) (by omega) (by simp)
  rw [List.take_zero, List.drop_zero, List.nil_append] at h
  refine Ev.congr (fun j => ?_) h
  unfold expand_Neg.f
  rw [if_pos (by omega), if_pos (by omega)]
  rfl
theorem O.neg2 {a b : Int} (h : O a b) : O (-a) (-b) := by
  obtain ⟨t, h1, h2⟩ := h
  exact ⟨t, by rw [Int.natAbs_neg]; exact h1, by rw [Int.dvd_neg]; exact h2⟩
theorem map_neg_val {l : List Nat} (h : ∀ x ∈ l, Fini x) : (l.map fneg).map fval = (l.map fval).map (fun z => -z) := by
  rw [List.map_map, List.map_map]
  exact List.map_congr_left fun x hx => fval_neg (h x hx)
theorem sum_neg (l : List Int) : (l.map (fun z => -z)).sum = -l.sum := by
  induction l with
  | nil => rfl
  | cons x xs ih => rw [List.map_cons, List.sum_cons, ih, List.sum_cons]; omega
theorem Xp.neg {k G : Nat} {l : List Nat} {z : Int} (h : Xp k G l z) : Xp k G (l.map fneg) (-z) := by
  have hf : ∀ x ∈ l, Fini x := fun x hx => (h.fin x hx).1
  refine ⟨fun y hy => ?_, fun y hy => ?_, fun y hy => ?_, ?_, ?_⟩
  · obtain ⟨x, hx, rfl⟩ := List.mem_map.mp hy
    exact ⟨(hf x hx).neg, by rw [fmag_neg (hf x hx)]; exact (h.fin x hx).2⟩
  · obtain ⟨x, hx, rfl⟩ := List.mem_map.mp hy
    rw [fmag_neg (hf x hx)]; exact h.grid x hx
  · obtain ⟨x, hx, rfl⟩ := List.mem_map.mp hy
    rw [fval_neg (hf x hx)]; have := h.ne x hx; omega
  · rw [map_neg_val hf]
    exact List.Pairwise.map _ (fun a b hab => O.neg2 hab) h.no
  · rw [map_neg_val hf, sum_neg, h.sum]
theorem check_xp {k G : Nat} {l : List Nat} {z : Int} (h : Xp k G l z) (hk : k ≤ 2000) (hG : 600 ≤ G) (hn : l.length ≤ 64) : Ev (fun q => expand_Check.f q l) true := by
  have ha : Ev (fun j => expand_all.f j l 1 9065746049896808448) true := all_ev (h.big hG) (fun x hx => within_fin (h.fin x hx).1 ⟨by decide, by decide⟩ ⟨by decide, by decide⟩ (by decide) (by decide) (by rw [show fmag 1 = 1 from by decide]; exact Nat.le_trans (Nat.one_le_two_pow) (h.low x hx)) (by rw [show fmag 9065746049896808448 = 2 ^ 2064 from by decide +kernel]; exact Nat.le_trans (h.fin x hx).2 (Nat.pow_le_pow_right (by decide) (Nat.le_trans hk (by decide))))) h.no hn
  exact Ev.bind ha (Ev.now _)
theorem safe_xp {k G : Nat} {l : List Nat} {z : Int} (h : Xp k G l z) (hk : k ≤ 1524) (hG : 624 ≤ G) (hn : l.length ≤ 64) : Ev (fun q => expand_Safe.f q l) true := by
  have ha : Ev (fun j => expand_all.f j l 2580562586483294208 6633802251116740608) true := all_ev (h.big (Nat.le_trans (by decide) hG)) (fun x hx => within_450 (h.fin x hx).1 (Nat.le_trans (Nat.pow_le_pow_right (by decide) hG) (h.low x hx)) (Nat.le_trans (h.fin x hx).2 (Nat.pow_le_pow_right (by decide) hk))) h.no hn
  exact Ev.bind ha (Ev.now _)
theorem sign_xp {k G : Nat} {l : List Nat} {z : Int} (h : Xp k G l z) (hk : k ≤ 2000) (hG : 600 ≤ G) (hn : l.length ≤ 64) : Ev (fun q => expand_Sign.f q l) z.sign := by
  have hc := check_xp h hk hG hn
  have hj : Ev (fun q => expand_Sign.j0 q l ((l.length : Int) == 0)) z.sign := by
    rcases List.eq_nil_or_concat l with rfl | ⟨l', y, rfl⟩
    · have : z = 0 := by rw [← h.sum]; rfl
      subst this
      exact Ev.step (f := fun _ => some 0) (fun j => by rfl) (Ev.now _)
    · rw [List.concat_eq_append] at *
      have hm : y ∈ l' ++ [y] := by simp
      have hy := h.fin y hm
      have hno := h.no
      rw [List.map_append, List.map_cons, List.map_nil] at hno
      have hs := last_sign hno (by
        intro x hx
        rw [show l'.map fval ++ [fval y] = (l' ++ [y]).map fval from by simp] at hx
        obtain ⟨w, hw, rfl⟩ := List.mem_map.mp hx
        exact h.ne w hw)
      rw [show l'.map fval ++ [fval y] = (l' ++ [y]).map fval from by simp, h.sum] at hs
      have hlen : (l' ++ [y]).length = l'.length + 1 := by simp
      have hlt : l'.length ≤ 63 := by rw [hlen] at hn; omega
      have hne := h.ne y hm
      refine Ev.step (f := fun _ => some z.sign) (fun j => ?_) (Ev.now _)
      have hrd : rdOf (0 : Nat) (l' ++ [y]) (l'.length : Int) = y := by simp [rdOf]
      rw [hlen, expand_Sign.j0, show ((((l'.length + 1 : Nat) : Int)) == 0) = false from by rw [beq_eq_false_iff_ne]; omega, if_neg (by decide)]
      rw [show ((l' ++ [y]).length : Int) = ((l'.length + 1 : Nat) : Int) from by rw [hlen], (wrap_idx (Nat.le_trans hlt (by decide))).1, if_pos (by omega), if_pos (by omega), hrd, Eft.order_some hy.1 (y := 0) ⟨by decide, by decide⟩, Eft.fval_c (c := 0) (m := 0) (by decide) (by decide +kernel)]
      rcases Int.lt_trichotomy (fval y) 0 with h1 | h1 | h1
      · rw [Int.compare_eq_lt.mpr (by omega), if_pos (by rfl), Int.sign_eq_neg_one_of_neg (hs.2.mpr h1)]
      · exact absurd h1 hne
      · rw [Int.compare_eq_gt.mpr (by omega), if_neg (by decide), Int.sign_eq_one_of_pos (hs.1.mpr h1)]
  refine Ev.congr (f := fun q => (expand_Check.f q l).bind fun t => if t = true then expand_Sign.j0 q l ((l.length : Int) == 0) else expand_Sign.j0 q l true) (fun q => rfl) (Ev.bind hc ?_)
  exact Ev.congr (fun q => if_pos rfl) hj
theorem cmp_xp {k G : Nat} {e f : List Nat} {y z : Int} (he : Xp k G e y) (hf : Xp k G f z) (hn : e.length + f.length ≤ 64) (hk : k + 6 * (e.length + f.length) + 20 ≤ 2000) (hG : 600 ≤ G) : Ev (fun q => expand_Cmp.f q e f) (y - z).sign := by
  have hl : (f.map fneg).length = f.length := List.length_map ..
  obtain ⟨r, r1, r2, r3⟩ := plus_xp he hf.neg (by rw [hl]; exact hn) (by rw [hl]; omega) hG
  rw [hl] at r2 r3
  have hs := sign_xp r2 hk hG (Nat.le_trans r3 hn)
  rw [show y + -z = y - z from by omega] at hs
  refine Ev.bind (neg_ev (fun x hx => (hf.fin x hx).1) (by omega)) ?_
  exact Ev.congr (fun q => if_pos (by rw [hl]; omega)) (Ev.bind r1 hs)
theorem less_xp {x y : Nat} (hx : GoodF x) (hy : GoodF y) : ∃ r, Ev (fun q => orient_exactly_1.f q x y) r ∧ Xp 1175 974 r (fval x - fval y) ∧ r.length ≤ 2 := by
  obtain ⟨x1, x2, x3⟩ := hx
  obtain ⟨y1, y2, y3⟩ := hy
  have up : (2 : Nat) ^ 1174 ≤ 2 ^ 2074 := Nat.pow_le_pow_right (by decide) (by decide)
  obtain ⟨d, t, e1, e2, e3, e4, e5⟩ := Eft.sum_ev x1 y1.neg (Nat.le_trans x2 up) (by rw [fmag_neg y1]; exact Nat.le_trans y2 up)
  rw [fval_neg y1, show fval x + -fval y = fval x - fval y from by clear x2 y2 up; omega] at e4 e5
  have hD : (2 : Int) ^ 974 ∣ fval x - fval y := Int.dvd_sub (dvd_val.mpr x3) (dvd_val.mpr y3)
  have hb : (fval x - fval y).natAbs ≤ 2 ^ 1175 := by
    have h1 : (fval x - fval y).natAbs ≤ fmag x + fmag y := by rw [← natAbs_fval, ← natAbs_fval]; clear x2 y2 up; omega
    refine Nat.le_trans h1 (Nat.le_trans (Nat.add_le_add x2 y2) ?_)
    rw [show (1175 : Nat) = 1174 + 1 from rfl, Nat.pow_succ, Nat.mul_two]; exact Nat.le_refl _
  generalize fval x - fval y = z at *
  have d2 : fmag d ≤ 2 ^ 1175 := by rw [← natAbs_fval, e4]; exact Eft.R_lt hb
  have t2 : fmag t ≤ 2 ^ 1175 := by
    rw [← natAbs_fval, e5]
    have h1 := Rnd.R_near z Rnd.Rep_zero
    have i1 : (0 - z).natAbs = z.natAbs := by clear x2 y2 up hb d2 h1; omega
    have i2 : (z - Rnd.R z).natAbs = (Rnd.R z - z).natAbs := by clear x2 y2 up hb d2 h1; omega
    rw [i2]; exact Nat.le_trans h1 (by rw [i1]; exact hb)
  have dG : 2 ^ 974 ∣ fmag d := dvd_val.mp (by rw [e4]; exact Rnd.R_grid hD)
  have tG : 2 ^ 974 ∣ fmag t := dvd_val.mp (by rw [e5]; exact Int.dvd_sub hD (Rnd.R_grid hD))
  have hlow : O (fval t) (fval d) := by rw [e4, e5]; exact rest_low z
  have hsum : fval t + fval d = z := by rw [e4, e5]; clear x2 y2 up hb d2 t2; omega
  clear x2 y2 x3 y3 up hb hD
  have hev : ∀ r, Ev (fun q => orient_exactly_1.l0 q [] [t, d] 2 0) r → Ev (fun q => orient_exactly_1.f q x y) r := fun r h => by
    refine Ev.congr (fun q => ?_) h
    unfold orient_exactly_1.f eft_Diff.f E.eft_Sum.f
    rw [e1]; rfl
  have r1 : ∀ q out, orient_exactly_1.l0 (q + 1) out [t, d] 2 1 = if fval d ≠ 0 then (if out.length < 17592186044416 then orient_exactly_1.l0 q (out ++ [d]) [t, d] 2 2 else none) else orient_exactly_1.l0 q out [t, d] 2 2 := fun q out => by
    rw [orient_exactly_1.l0, if_pos (by decide), if_pos (by decide), if_pos (by simp), show rdOf (0 : Nat) [t, d] 1 = d from rfl, ne_ev e2, show wrap64 (1 + 1) = 2 from by unfold wrap64; omega]
    by_cases h : fval d = 0
    · rw [if_neg (by simp [h]), if_neg (by simp [h])]
    · rw [if_pos (by simp [h]), if_pos h]
  have r0 : ∀ q, orient_exactly_1.l0 (q + 1) [] [t, d] 2 0 = if fval t ≠ 0 then orient_exactly_1.l0 q [t] [t, d] 2 1 else orient_exactly_1.l0 q [] [t, d] 2 1 := fun q => by
    rw [orient_exactly_1.l0, if_pos (by decide), if_pos (by decide), if_pos (by simp), show rdOf (0 : Nat) [t, d] 0 = t from rfl, ne_ev e3, show wrap64 (0 + 1) = 1 from by unfold wrap64; omega]
    by_cases h : fval t = 0
    · rw [if_neg (by simp [h]), if_neg (by simp [h])]
    · rw [if_pos (by simp [h]), if_pos (by decide), if_pos h]; rfl
  have r2 : ∀ q out, orient_exactly_1.l0 (q + 1) out [t, d] 2 2 = some out := fun q out => by rw [orient_exactly_1.l0, if_neg (by decide)]
  by_cases ht : fval t = 0
  · by_cases hd : fval d = 0
    · refine ⟨[], hev _ (Ev.step (fun q => (r0 q).trans (if_neg (by simp [ht]))) (Ev.step (fun q => (r1 q []).trans (if_neg (by simp [hd]))) (Ev.step (f := fun _ => some []) (fun q => r2 q []) (Ev.now _)))), ?_, by decide⟩
      rw [← hsum, ht, hd]; exact Xp.nil _ _
    · refine ⟨[d], hev _ (Ev.step (fun q => (r0 q).trans (if_neg (by simp [ht]))) (Ev.step (f := fun q => orient_exactly_1.l0 q [d] [t, d] 2 2) (fun q => (r1 q []).trans (by rw [if_pos hd, if_pos (by decide)]; rfl)) (Ev.step (f := fun _ => some [d]) (fun q => r2 q [d]) (Ev.now _)))), ?_, by simp⟩
      refine ⟨fun w hw => ?_, fun w hw => ?_, fun w hw => ?_, List.pairwise_singleton _ _, ?_⟩
      · rw [List.mem_singleton.mp hw]; exact ⟨e2, d2⟩
      · rw [List.mem_singleton.mp hw]; exact dG
      · rw [List.mem_singleton.mp hw]; exact hd
      · rw [← hsum, ht, List.map_cons, List.map_nil, List.sum_cons, List.sum_nil, Int.add_zero, Int.zero_add]
  · by_cases hd : fval d = 0
    · exfalso
      obtain ⟨u, u1, u2⟩ := hlow
      have hz := e4.symm.trans hd
      have := Rnd.R_eq_zero hz
      rw [e5, this] at ht
      exact ht (by rw [Rnd.R_zero]; rfl)
    · refine ⟨[t, d], hev _ (Ev.step (fun q => (r0 q).trans (if_pos ht)) (Ev.step (f := fun q => orient_exactly_1.l0 q [t, d] [t, d] 2 2) (fun q => (r1 q [t]).trans (by rw [if_pos hd, if_pos (by simp)]; rfl)) (Ev.step (f := fun _ => some [t, d]) (fun q => r2 q [t, d]) (Ev.now _)))), ?_, by simp⟩
      have two : ∀ {Q : Nat → Prop}, Q t → Q d → ∀ w ∈ [t, d], Q w := fun {Q} h1 h2 w hw => by
        rcases List.mem_cons.mp hw with rfl | hw
        · exact h1
        · rw [List.mem_singleton.mp hw]; exact h2
      refine ⟨two ⟨e3, t2⟩ ⟨e2, d2⟩, two tG dG, two ht hd, ?_, ?_⟩
      · exact List.pairwise_cons.mpr ⟨fun w hw => by rw [List.mem_singleton.mp hw]; exact hlow, List.pairwise_singleton _ _⟩
      · rw [← hsum, List.map_cons, List.map_cons, List.map_nil, List.sum_cons, List.sum_cons, List.sum_nil, Int.add_zero]
theorem side_xp {a b c d : Nat} (ha : GoodF a) (hb : GoodF b) (hc : GoodF c) (hd : GoodF d) : ∃ r w, Ev (fun q => side q a b c d) r ∧ PrEq (fval a - fval b) (fval c - fval d) w ∧ Xp 1500 874 r w ∧ r.length ≤ 8 := by
  obtain ⟨e, e1, e2, e3⟩ := less_xp ha hb
  obtain ⟨f, f1, f2, f3⟩ := less_xp hc hd
  have s1 := safe_xp e2 (by decide) (by decide) (Nat.le_trans e3 (by decide))
  have s2 := safe_xp f2 (by decide) (by decide) (Nat.le_trans f3 (by decide))
  have hl : 2 * e.length * f.length ≤ 8 := Nat.le_trans (Nat.mul_le_mul (Nat.mul_le_mul_left 2 e3) f3) (by decide)
  have hl2 : (6 * 8 + 20) * f.length ≤ 136 := Nat.le_trans (Nat.mul_le_mul_left _ f3) (by decide)
  obtain ⟨r, w, r1, r2, r3, r4⟩ := mulL_xp (K := 1276) (L := 8) (G := 874) e2 (kb := 1175) (Gb := 974) (by decide) (by decide) (by decide) (by decide) (by decide) (by decide) (by decide) (Nat.le_trans e3 (by decide)) (by decide) f [] 0 1320 (fun x hx => ⟨(f2.fin x hx).1, (f2.fin x hx).2, f2.grid x hx, f2.ne x hx⟩) (Xp.nil _ _) (by omega) (by rw [List.length_nil, Nat.zero_add]; exact hl) (by omega)
  rw [Int.zero_add] at r3
  rw [List.length_nil, Nat.zero_add] at r4
  refine ⟨r, w, ?_, by rw [f2.sum] at r2; exact r2, r3.mono (by omega), Nat.le_trans r4 hl⟩
  refine Ev.bind e1 (Ev.bind f1 ?_)
  obtain ⟨K1, h1⟩ := s1
  obtain ⟨K2, h2⟩ := s2
  obtain ⟨K3, h3⟩ := r1
  exact ⟨K1 + K2 + K3, fun q hq => by
    show (if expand_Safe.f q e = some true ∧ expand_Safe.f q f = some true then mulL q e f [] else none) = some r
    rw [if_pos ⟨h1 q (by omega), h2 q (by omega)⟩]
    exact h3 q (by omega)⟩
def detF (ax ay bx b_y cx cy : Nat) : Int := (fval bx - fval ax) * (fval cy - fval ay) - (fval b_y - fval ay) * (fval cx - fval ax)
theorem sign_scale {a b : Int} (h : a = b * 2 ^ 1074) : a.sign = b.sign := by
  rw [h, Int.sign_mul, show ((2 : Int) ^ 1074).sign = 1 from Int.sign_eq_one_of_pos (Int.pow_pos (by decide)), Int.mul_one]
theorem exactly_ev {ax ay bx b_y cx cy : Nat} (h1 : GoodF ax) (h2 : GoodF ay) (h3 : GoodF bx) (h4 : GoodF b_y) (h5 : GoodF cx) (h6 : GoodF cy) : Ev (fun q => exactly.f q ax ay bx b_y cx cy) (detF ax ay bx b_y cx cy).sign := by
  obtain ⟨p, y, p1, p2, p3, p4⟩ := side_xp h3 h1 h6 h2
  obtain ⟨s, z, s1, s2, s3, s4⟩ := side_xp h4 h2 h5 h1
  have c1 := check_xp p3 (by decide) (by decide) (Nat.le_trans p4 (by decide))
  have c2 := check_xp s3 (by decide) (by decide) (Nat.le_trans s4 (by decide))
  have hc := cmp_xp p3 s3 (by omega) (by omega) (by decide)
  rw [show (detF ax ay bx b_y cx cy).sign = (y - z).sign from sign_scale (by unfold detF; rw [p2.eq, s2.eq, Int.sub_mul])]
  refine Ev.bind p1 (Ev.bind s1 ?_)
  obtain ⟨K1, k1⟩ := c1
  obtain ⟨K2, k2⟩ := c2
  obtain ⟨K3, k3⟩ := hc
  exact ⟨K1 + K2 + K3, fun q hq => by
    show (if expand_Check.f q p = some true ∧ expand_Check.f q s = some true then expand_Cmp.f q p s else none) = _
    rw [if_pos ⟨k1 q (by omega), k2 q (by omega)⟩]
    exact k3 q (by omega)⟩
end Go.Proofs.YtioahkblhekgpaaGreatDoor.Exp
