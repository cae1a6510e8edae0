/- What the proof needs of NumP, FltP: only what is used is left (wip/tools/prune.py). Conditions stand in each sentence. -/
import Derived.Test.YtioahkblhekgpaaGreatDoorQKWMath
set_option linter.unusedVariables false
set_option linter.unusedSimpArgs false
namespace Go.Proofs.YtioahkblhekgpaaGreatDoorW.PrintWords
end Go.Proofs.YtioahkblhekgpaaGreatDoorW.PrintWords
namespace Go.Proofs.YtioahkblhekgpaaGreatDoor.NumP
open Go.Proofs.YtioahkblhekgpaaGreatDoorW.PrintWords
def dval : List Int → Int
 | [] => 0
 | d :: ds => d + 16777216 * dval ds
def Dig (l : List Int) : Prop := ∀ d ∈ l, 0 ≤ d ∧ d < 16777216
def W (n : Nat) : Int := 16777216 ^ n
theorem W_zero : W 0 = 1 := rfl
theorem W_succ (n : Nat) : W (n + 1) = 16777216 * W n := by unfold W; rw [Int.pow_succ, Int.mul_comm]
theorem W_add (a b : Nat) : W (a + b) = W a * W b := by unfold W; exact Int.pow_add _ _ _
theorem W_pos (n : Nat) : 0 < W n := by unfold W; exact Int.pow_pos (by omega)
theorem W_two (n : Nat) : W n = 2 ^ (24 * n) := by unfold W; rw [Int.pow_mul]; rfl
theorem dval_append (a b : List Int) : dval (a ++ b) = dval a + W a.length * dval b := by
 induction a with
 | nil => simp [dval, W_zero]
 | cons d ds ih => simp only [List.cons_append, dval, ih, List.length_cons, W_succ]; grind
theorem dval_snoc (a : List Int) (d : Int) : dval (a ++ [d]) = dval a + W a.length * d := by rw [dval_append]; simp [dval]
theorem dval_zeros (n : Nat) : dval (List.replicate n 0) = 0 := by
 induction n with
 | zero => rfl
 | succ n ih => rw [List.replicate_succ, dval, ih]; rfl
theorem Dig.cons {d : Int} {l : List Int} (h : Dig (d :: l)) : (0 ≤ d ∧ d < 16777216) ∧ Dig l := ⟨h d (by simp), fun x hx => h x (by simp [hx])⟩
theorem Dig.join {a b : List Int} (h : Dig a) (h' : Dig b) : Dig (a ++ b) := fun x hx => (List.mem_append.1 hx).elim (h x) (h' x)
theorem dval_bd : ∀ {l : List Int}, Dig l → 0 ≤ dval l ∧ dval l < W l.length
 | [], _ => by simp [dval, W_zero]
 | d :: ds, h => by
  have ⟨h1, h2⟩ := h.cons
  have ⟨h3, h4⟩ := dval_bd h2
  simp only [dval, List.length_cons, W_succ]
  omega
theorem dval_zero : ∀ {l : List Int}, Dig l → dval l = 0 → ∀ d ∈ l, d = 0
 | [], _, _ => by simp
 | d :: ds, h, h0 => by
  have ⟨h1, h2⟩ := h.cons
  have ⟨h3, _⟩ := dval_bd h2
  simp only [dval] at h0
  intro x hx
  rcases List.mem_cons.1 hx with rfl | hx
  ·omega
  ·exact dval_zero h2 (by omega) x hx
def dig (l : List Int) (e i : Int) : Int := if i < e ∨ e + l.length ≤ i then 0 else rd l (i - e)
theorem rd_dig {l : List Int} (h : Dig l) (i : Int) : 0 ≤ rd l i ∧ rd l i < 16777216 := by
 unfold rd
 rw [List.getD_eq_getElem?_getD]
 by_cases hi : i.toNat < l.length
 ·rw [List.getElem?_eq_getElem hi]; exact h _ (List.getElem_mem hi)
 ·rw [List.getElem?_eq_none (by omega)]; simp
theorem dig_bd {l : List Int} (h : Dig l) (e i : Int) : 0 ≤ dig l e i ∧ dig l e i < 16777216 := by
 unfold dig; split
 ·omega
 ·exact rd_dig h _
def dpart (l : List Int) (e b : Int) : Nat → Int
 | 0 => 0
 | n + 1 => dpart l e b n + W n * dig l e (b + n)
theorem dpart_bd {l : List Int} (h : Dig l) (e b : Int) : ∀ n : Nat, 0 ≤ dpart l e b n ∧ dpart l e b n < W n
 | 0 => by simp [dpart, W_zero]
 | n + 1 => by
  have ⟨h1, h2⟩ := dpart_bd h e b n
  have ⟨h3, h4⟩ := dig_bd h e (b + n)
  have hw := W_pos n
  simp only [dpart, W_succ]
  have := Int.mul_le_mul_of_nonneg_left (show dig l e (b + n) ≤ 16777215 by omega) (Int.le_of_lt hw)
  have := Int.mul_nonneg (Int.le_of_lt hw) h3
  constructor <;> omega
theorem dpart_low (l : List Int) (e b : Int) (n : Nat) (h : b + n ≤ e) : dpart l e b n = 0 := by
 induction n with
 | zero => rfl
 | succ n ih => rw [dpart, ih (by omega)]; unfold dig; rw [if_pos (by omega)]; simp
theorem dpart_mid (l : List Int) (e : Int) : ∀ n : Nat, n ≤ l.length → dpart l e e n = dval (l.take n)
 | 0, _ => by simp [dpart, dval]
 | n + 1, h => by
  rw [dpart, dpart_mid l e n (by omega), List.take_add_one, List.getElem?_eq_getElem (by omega)]
  simp only [Option.toList]
  rw [dval_snoc, List.length_take, Nat.min_eq_left (by omega)]
  unfold dig; rw [if_neg (by omega)]
  unfold rd; rw [show (e + (n : Int) - e).toNat = n from by omega, List.getD_eq_getElem?_getD, List.getElem?_eq_getElem (by omega)]; rfl
theorem dpart_high (l : List Int) (e b : Int) (n m : Nat) (h : e + l.length ≤ b + n) : dpart l e b (n + m) = dpart l e b n := by
 induction m with
 | zero => rfl
 | succ m ih => rw [← Nat.add_assoc, dpart, ih]; unfold dig; rw [if_pos (by omega)]; simp
theorem dpart_shift (l : List Int) (e b : Int) (j : Nat) (h : b + j ≤ e) : ∀ n : Nat, dpart l e b (j + n) = W j * dpart l e (b + j) n
 | 0 => by rw [Nat.add_zero, dpart_low l e b j h]; simp [dpart]
 | n + 1 => by
  rw [← Nat.add_assoc, dpart, dpart_shift l e b j h n, dpart, W_add]
  rw [show b + ((j + n : Nat) : Int) = b + j + n from by omega]
  grind
theorem dpart_all (l : List Int) (e b : Int) (n : Nat) (h1 : b ≤ e) (h2 : e + l.length ≤ b + n) : dpart l e b n = W (e - b).toNat * dval l := by
 obtain ⟨m, rfl⟩ : ∃ m : Nat, n = (e - b).toNat + (l.length + m) := ⟨n - (e - b).toNat - l.length, by omega⟩
 rw [dpart_shift l e b (e - b).toNat (by omega), show b + ((e - b).toNat : Int) = e from by omega, dpart_high l e e l.length m (by omega), dpart_mid l e l.length (Nat.le_refl _), List.take_length]
theorem dval_zero_below (l : List Int) (h : rd l 0 = 0) (h0 : l ≠ []) : dval l = 16777216 * dval (l.drop 1) := by
 cases l with
 | nil => exact absurd rfl h0
 | cons d ds => simp [rd, List.getD] at h; simp [dval, h]
theorem Dig.take {l : List Int} (h : Dig l) (n : Nat) : Dig (l.take n) := fun x hx => h x (List.mem_of_mem_take hx)
theorem Dig.drop {l : List Int} (h : Dig l) (n : Nat) : Dig (l.drop n) := fun x hx => h x (List.mem_of_mem_drop hx)
structure Worth (S : Int) (D : List Int) (E : Int) (B n : Nat) (x : Int) : Prop where
 digits : Dig D
 sign : S = x.sign
 lo : -(n : Int) ≤ E
 hi : E + D.length ≤ n
 place : -(B : Int) ≤ E
 val : S * (W (E + B).toNat * dval D) = x
theorem Worth.zero (B n : Nat) : Worth 0 [] 0 B n 0 := ⟨fun x hx => by simp at hx, rfl, by omega, by simp, by omega, by simp⟩
theorem Worth.wide {S : Int} {D : List Int} {E : Int} {B n n' : Nat} {x : Int} (h : Worth S D E B n x) (hn : n ≤ n') : Worth S D E B n' x := ⟨h.digits, h.sign, by have := h.lo; omega, by have := h.hi; omega, h.place, h.val⟩
theorem Worth.neg {S : Int} {D : List Int} {E : Int} {B n : Nat} {x : Int} (h : Worth S D E B n x) : Worth (-S) D E B n (-x) where
 digits := h.digits
 sign := by rw [Int.sign_neg, h.sign]
 lo := h.lo
 hi := h.hi
 place := h.place
 val := by have := h.val; grind
theorem Worth.abs {S : Int} {D : List Int} {E : Int} {B n : Nat} {x : Int} (h : Worth S D E B n x) (h0 : S ≠ 0) : W (E + B).toNat * dval D = x.natAbs := by
 have hv := h.val
 have hs := h.sign
 have hp := Int.mul_nonneg (Int.le_of_lt (W_pos (E + B).toNat)) (dval_bd h.digits).1
 generalize W (E + B).toNat * dval D = y at *
 rcases Int.lt_trichotomy x 0 with hx | hx | hx
 ·rw [Int.sign_eq_neg_one_of_neg hx] at hs; subst hs; omega
 ·subst hx; simp at hs; exact absurd hs h0
 ·rw [Int.sign_eq_one_of_pos hx] at hs; subst hs; omega
theorem Worth.mk' {S : Int} {D : List Int} {E : Int} {B n : Nat} (hd : Dig D) (hS : S = 1 ∨ S = -1) (hlo : -(n : Int) ≤ E) (hhi : E + D.length ≤ n) (hp : -(B : Int) ≤ E) (h0 : dval D ≠ 0) : Worth S D E B n (S * (W (E + B).toNat * dval D)) where
 digits := hd
 sign := by
  have := dval_bd hd
  have : 0 < dval D := by omega
  have := Int.mul_pos (W_pos (E + B).toNat) this
  rw [Int.sign_mul, Int.sign_eq_one_of_pos this, Int.mul_one]
  rcases hS with rfl | rfl <;> rfl
 lo := hlo
 hi := hhi
 place := hp
 val := rfl
end Go.Proofs.YtioahkblhekgpaaGreatDoor.NumP
namespace Go.Proofs.YtioahkblhekgpaaGreatDoor.FltP
set_option exponentiation.threshold 4000
open Go.Proofs.YtioahkblhekgpaaGreatDoorW.PrintWords Ieee
abbrev dbl : Format := Ieee.double
def Fini (b : Nat) : Prop := b % 2 ^ 63 < 2047 * 2 ^ 52 ∧ b < 2 ^ 64
def fmag (b : Nat) : Nat := if b % 2 ^ 63 < 2 ^ 52 then b % 2 ^ 63 else (2 ^ 52 + b % 2 ^ 52) * 2 ^ (b % 2 ^ 63 / 2 ^ 52 - 1)
def fsgn (b : Nat) : Bool := b / 2 ^ 63 % 2 == 1
def fval (b : Nat) : Int := if fsgn b then -(fmag b : Int) else fmag b
def fsig (b : Nat) : Nat := if b % 2 ^ 63 < 2 ^ 52 then b % 2 ^ 63 else 2 ^ 52 + b % 2 ^ 52
def fpl (b : Nat) : Nat := b % 2 ^ 63 / 2 ^ 52 - 1
theorem fmag_sig (b : Nat) : fmag b = fsig b * 2 ^ fpl b := by
 unfold fmag fsig fpl
 split
 ·rename_i h; rw [Nat.div_eq_of_lt h]; simp
 ·rfl
theorem fsig_lt (b : Nat) : fsig b < 2 ^ 53 := by
 unfold fsig; split <;> omega
theorem read_fin {b : Nat} (h : Fini b) : dbl.read b = .number (fsgn b) (fsig b) (-1074 + fpl b) := by
 have h1 := h.1
 have e1 : dbl.signWeight = 2 ^ 63 := by decide
 have e2 : dbl.binade = 2 ^ 52 := by decide
 have e3 : dbl.infRung = 2047 * 2 ^ 52 := by decide +kernel
 have e4 : dbl.leastPlace = -1074 := by decide +kernel
 unfold Format.read
 simp only [e1, e2, e3, e4]
 unfold fsig fpl fsgn
 split
 ·rename_i hlt; rw [Nat.div_eq_of_lt hlt]; simp
 ·rw [show b % 2 ^ 63 % 2 ^ 52 = b % 2 ^ 52 from by omega]
theorem read_inf {b : Nat} (h : b % 2 ^ 63 = 2047 * 2 ^ 52) : dbl.read b = .infinity (fsgn b) := by
 have e1 : dbl.signWeight = 2 ^ 63 := by decide
 have e2 : dbl.binade = 2 ^ 52 := by decide
 have e3 : dbl.infRung = 2047 * 2 ^ 52 := by decide +kernel
 unfold Format.read
 simp only [e1, e2, e3]
 rw [if_neg (by omega), if_neg (by omega), if_pos h]; rfl
theorem read_nan {b : Nat} (h : 2047 * 2 ^ 52 < b % 2 ^ 63) : dbl.read b = .nan (fsgn b) (b % 2 ^ 63 - 2047 * 2 ^ 52) := by
 have e1 : dbl.signWeight = 2 ^ 63 := by decide
 have e2 : dbl.binade = 2 ^ 52 := by decide
 have e3 : dbl.infRung = 2047 * 2 ^ 52 := by decide +kernel
 unfold Format.read
 simp only [e1, e2, e3]
 rw [if_neg (by omega), if_neg (by omega), if_neg (by omega)]; rfl
theorem signed_eq (s : Bool) (m k : Nat) : signed s m k = if s then -((m * 2 ^ k : Nat) : Int) else ((m * 2 ^ k : Nat) : Int) := by
 unfold signed; simp [Nat.shiftLeft_eq]
theorem fval_eq (b : Nat) : fval b = signed (fsgn b) (fsig b) (fpl b) := by rw [signed_eq, ← fmag_sig]; rfl
theorem signed_scale (s : Bool) (m k j : Nat) : signed s m (k + j) = signed s m k * 2 ^ j := by
 rw [signed_eq, signed_eq, Nat.pow_add, ← Nat.mul_assoc]
 split <;> simp [Int.neg_mul]
theorem order_fin {x y : Nat} (hx : Fini x) (hy : Fini y) : dbl.order x y = some (compare (fval x) (fval y)) := by
 unfold Format.order
 rw [read_fin hx, read_fin hy]
 simp only [Datum.order]
 rw [fval_eq, fval_eq]
 have key : ∀ (a b : Int) (j : Nat), compare (a * 2 ^ j) (b * 2 ^ j) = compare a b := by
  intro a b j
  have hp : (0 : Int) < 2 ^ j := Int.pow_pos (by omega)
  simp only [compare, compareOfLessAndEq]
  have h1 : a * 2 ^ j < b * 2 ^ j ↔ a < b := ⟨fun h => Int.lt_of_mul_lt_mul_right h (Int.le_of_lt hp), fun h => Int.mul_lt_mul_of_pos_right h hp⟩
  have h2 : a * 2 ^ j = b * 2 ^ j ↔ a = b := ⟨fun h => Int.eq_of_mul_eq_mul_right (by omega) h, fun h => by rw [h]⟩
  simp only [h1, h2]
 rcases Nat.le_total (fpl x) (fpl y) with h | h
 ·rw [show min (-1074 + (fpl x : Int)) (-1074 + fpl y) = -1074 + fpl x from by omega]
  rw [show (-1074 + (fpl x : Int) - (-1074 + fpl x)).toNat = 0 from by omega, show (-1074 + (fpl y : Int) - (-1074 + fpl x)).toNat = fpl y - fpl x from by omega]
  rw [← key _ _ (fpl x), ← signed_scale, ← signed_scale]
  rw [show 0 + fpl x = fpl x from by omega, show fpl y - fpl x + fpl x = fpl y from by omega]
 ·rw [show min (-1074 + (fpl x : Int)) (-1074 + fpl y) = -1074 + fpl y from by omega]
  rw [show (-1074 + (fpl x : Int) - (-1074 + fpl y)).toNat = fpl x - fpl y from by omega, show (-1074 + (fpl y : Int) - (-1074 + fpl y)).toNat = 0 from by omega]
  rw [← key _ _ (fpl y), ← signed_scale, ← signed_scale]
  rw [show 0 + fpl y = fpl y from by omega, show fpl x - fpl y + fpl y = fpl x from by omega]
def rnd (v : Nat) : Nat :=
 let s := v.log2 - 52
 let q := v / 2 ^ s
 let r := v % 2 ^ s
 (q + (if 2 ^ s < 2 * r ∨ 2 ^ s = 2 * r ∧ q % 2 = 1 then 1 else 0)) * 2 ^ s
theorem cut_even (neg : Bool) (n d : Nat) (hd : d ≤ n.log2 + 2) : Toward.even.cut neg n d = n / 2 ^ d + (if 2 ^ d < 2 * (n % 2 ^ d) ∨ 2 ^ d = 2 * (n % 2 ^ d) ∧ n / 2 ^ d % 2 = 1 then 1 else 0) := by
 unfold Toward.cut
 rw [Nat.min_eq_left hd, Nat.shiftLeft_eq, Nat.one_mul]
 simp only
 congr 1
 by_cases h1 : 2 ^ d < 2 * (n % 2 ^ d)
 ·simp [h1]
 ·by_cases h2 : 2 ^ d = 2 * (n % 2 ^ d)
  ·rw [← h2]; by_cases h3 : n / 2 ^ d % 2 = 1 <;> simp [h3]
  ·simp [h1, h2]
theorem log2_shift {m k : Nat} (h : m ≠ 0) : (m * 2 ^ k).log2 = m.log2 + k := by
 induction k with
 | zero => simp
 | succ k ih =>
  rw [Nat.pow_succ, ← Nat.mul_assoc, Nat.mul_comm _ 2, Nat.log2_two_mul (by
   have : 0 < 2 ^ k := Nat.two_pow_pos k
   exact Nat.mul_ne_zero h (by omega)), ih]; omega
theorem rung_back (s kept : Nat) (neg : Bool) (hk : kept ≤ 2 ^ 53) (hs : s = 0 → kept < 2 ^ 53) (hs' : 0 < s → 2 ^ 52 ≤ kept) (hr : kept * 2 ^ s < 2 ^ 2098) :
 Fini (dbl.word neg (min (s * 2 ^ 52 + kept) (2047 * 2 ^ 52))) ∧ fmag (dbl.word neg (min (s * 2 ^ 52 + kept) (2047 * 2 ^ 52))) = kept * 2 ^ s ∧ fsgn (dbl.word neg (min (s * 2 ^ 52 + kept) (2047 * 2 ^ 52))) = neg := by
 have hlt : s * 2 ^ 52 + kept < 2047 * 2 ^ 52 := by
  rcases Nat.eq_zero_or_pos s with h | h
  ·subst h; have := hs rfl; omega
  ·have h52 := hs' h
   by_cases hb : s ≤ 2044
   ·omega
   ·by_cases hb2 : 2046 ≤ s
    ·exfalso
     have h1 : 2 ^ 52 * 2 ^ 2046 ≤ kept * 2 ^ s := Nat.mul_le_mul h52 (Nat.pow_le_pow_right (by decide) hb2)
     rw [← Nat.pow_add] at h1
     exact absurd hr (Nat.not_lt.2 h1)
    ·obtain rfl : s = 2045 := by omega
     by_cases hk2 : kept = 2 ^ 53
     ·subst hk2; rw [← Nat.pow_add] at hr; exact absurd hr (Nat.lt_irrefl _)
     ·clear hr; omega
 rw [Nat.min_eq_left (Nat.le_of_lt hlt)]
 have e1 : dbl.signWeight = 2 ^ 63 := by decide
 have hm : dbl.word neg (s * 2 ^ 52 + kept) % 2 ^ 63 = s * 2 ^ 52 + kept := by unfold Format.word; rw [e1]; split <;> omega
 have hm2 : dbl.word neg (s * 2 ^ 52 + kept) % 2 ^ 52 = kept % 2 ^ 52 := by unfold Format.word; rw [e1]; split <;> omega
 refine ⟨⟨by rw [hm]; exact hlt, by unfold Format.word; rw [e1]; split <;> omega⟩, ?_, ?_⟩
 ·unfold fmag
  rw [hm, hm2]
  rcases Nat.eq_zero_or_pos s with h | h
  ·subst h
   have := hs rfl
   split
   ·simp
   ·rw [show (0 * 2 ^ 52 + kept) / 2 ^ 52 - 1 = 0 from by omega]; simp only [Nat.pow_zero, Nat.mul_one]; omega
  ·have h52 := hs' h
   rw [if_neg (by omega)]
   by_cases hk2 : kept = 2 ^ 53
   ·subst hk2
    rw [show (s * 2 ^ 52 + 2 ^ 53) / 2 ^ 52 - 1 = s + 1 from by omega, show 2 ^ 52 + 2 ^ 53 % 2 ^ 52 = 2 ^ 52 from by omega, Nat.pow_succ 2 s]
    generalize 2 ^ s = z; omega
   ·rw [show (s * 2 ^ 52 + kept) / 2 ^ 52 - 1 = s from by omega, show 2 ^ 52 + kept % 2 ^ 52 = kept from by omega]
 ·unfold fsgn Format.word; rw [e1]
  cases neg
  ·rw [if_neg (by decide)]; rw [show (s * 2 ^ 52 + kept) / 2 ^ 63 % 2 = 0 from by omega]; rfl
  ·rw [if_pos rfl]; rw [show (2 ^ 63 + (s * 2 ^ 52 + kept)) / 2 ^ 63 % 2 = 1 from by omega]; rfl
theorem rnd_shape (v : Nat) (hv : v ≠ 0) : ∃ kept, rnd v = kept * 2 ^ (v.log2 - 52) ∧ kept ≤ 2 ^ 53 ∧ (v.log2 - 52 = 0 → kept < 2 ^ 53) ∧ (0 < v.log2 - 52 → 2 ^ 52 ≤ kept) := by
 refine ⟨_, rfl, ?_, ?_, ?_⟩
 ·have h1 : v / 2 ^ (v.log2 - 52) < 2 ^ 53 := by
   rw [Nat.div_lt_iff_lt_mul (Nat.two_pow_pos _), ← Nat.pow_add]
   exact Nat.lt_of_lt_of_le Nat.lt_log2_self (Nat.pow_le_pow_right (by decide) (by omega))
  split <;> omega
 ·intro h0
  rw [h0]
  simp only [Nat.pow_zero, Nat.div_one, Nat.mod_one]
  have : v < 2 ^ 53 := Nat.lt_of_lt_of_le Nat.lt_log2_self (Nat.pow_le_pow_right (by decide) (by omega))
  rw [if_neg (by omega)]; exact this
 ·intro h0
  have h1 : 2 ^ 52 ≤ v / 2 ^ (v.log2 - 52) := by
   rw [Nat.le_div_iff_mul_le (Nat.two_pow_pos _), ← Nat.pow_add, show 52 + (v.log2 - 52) = v.log2 from by omega]
   exact Nat.log2_self_le hv
  exact Nat.le_trans h1 (Nat.le_add_right _ _)
theorem nearest_val (neg : Bool) (mag k : Nat) (hr : rnd (mag * 2 ^ k) < 2 ^ 2098) :
 Fini (dbl.nearest neg mag (-1074 + k)) ∧ fmag (dbl.nearest neg mag (-1074 + k)) = rnd (mag * 2 ^ k) ∧ fsgn (dbl.nearest neg mag (-1074 + k)) = neg := by
 have e1 : dbl.signWeight = 2 ^ 63 := by decide
 have e2 : dbl.binade = 2 ^ 52 := by decide
 have e3 : dbl.infRung = 2047 * 2 ^ 52 := by decide +kernel
 have e4 : dbl.leastPlace = -1074 := by decide +kernel
 have e5 : dbl.fractionBits = 52 := rfl
 by_cases h0 : mag = 0
 ·subst h0
  unfold Format.nearest Format.word
  rw [if_pos rfl, e1]
  have : rnd 0 = 0 := by decide
  rw [Nat.zero_mul, this]
  cases neg
  ·exact ⟨⟨by decide, by decide⟩, by decide, by decide⟩
  ·exact ⟨⟨by decide, by decide⟩, by decide, by decide⟩
 have hv : mag * 2 ^ k ≠ 0 := Nat.mul_ne_zero h0 (by have := Nat.two_pow_pos k; omega)
 obtain ⟨kept, hk, hk1, hk2, hk3⟩ := rnd_shape (mag * 2 ^ k) hv
 have hl := log2_shift (k := k) h0
 rw [hk] at hr ⊢
 have hw : dbl.nearest neg mag (-1074 + k) = dbl.word neg (min (((mag * 2 ^ k).log2 - 52) * 2 ^ 52 + kept) (2047 * 2 ^ 52)) := by
  unfold Format.nearest
  rw [if_neg h0]
  simp only [e2, e3, e4, e5]
  have hlast : max (-1074 + (k : Int) + mag.log2 - (52 : Nat)) (-1074) = -1074 + (((mag * 2 ^ k).log2 - 52 : Nat) : Int) := by rw [hl]; omega
  rw [hlast]
  rw [show (-1074 + (((mag * 2 ^ k).log2 - 52 : Nat) : Int) - -1074).toNat = (mag * 2 ^ k).log2 - 52 from by omega]
  congr 3
  have hpos := Nat.two_pow_pos ((mag * 2 ^ k).log2 - 52)
  apply Nat.eq_of_mul_eq_mul_right hpos
  rw [← hk]
  rcases Nat.le_total ((mag * 2 ^ k).log2 - 52) k with hle | hle
  ·
   rw [show (-1074 + (k : Int) - (-1074 + (((mag * 2 ^ k).log2 - 52 : Nat) : Int))).toNat = k - ((mag * 2 ^ k).log2 - 52) from by omega]
   rw [show (-1074 + (((mag * 2 ^ k).log2 - 52 : Nat) : Int) - (-1074 + (k : Int))).toNat = 0 from by omega]
   rw [cut_even _ _ _ (by omega), Nat.shiftLeft_eq]
   unfold rnd
   generalize hs : (mag * 2 ^ k).log2 - 52 = s at *
   have hd : mag * 2 ^ k = mag * 2 ^ (k - s) * 2 ^ s := by rw [Nat.mul_assoc, ← Nat.pow_add, Nat.sub_add_cancel hle]
   rw [hd]
   simp only [Nat.pow_zero, Nat.div_one, Nat.mod_one, Nat.mul_div_cancel _ (Nat.two_pow_pos s), Nat.mul_mod_left]
   have := Nat.two_pow_pos s
   rw [if_neg (by omega), if_neg (by omega)]
  ·rw [show (-1074 + (k : Int) - (-1074 + (((mag * 2 ^ k).log2 - 52 : Nat) : Int))).toNat = 0 from by omega]
   rw [show (-1074 + (((mag * 2 ^ k).log2 - 52 : Nat) : Int) - (-1074 + (k : Int))).toNat = (mag * 2 ^ k).log2 - 52 - k from by omega]
   rw [Nat.shiftLeft_eq, Nat.pow_zero, Nat.mul_one]
   rw [cut_even _ _ _ (by rw [hl]; omega)]
   unfold rnd
   generalize hs : (mag * 2 ^ k).log2 - 52 = s at *
   obtain ⟨d, rfl⟩ : ∃ d, s = d + k := ⟨s - k, by omega⟩
   rw [Nat.add_sub_cancel]
   have hkp := Nat.two_pow_pos k
   have hq : mag * 2 ^ k / 2 ^ (d + k) = mag / 2 ^ d := by rw [Nat.pow_add]; exact Nat.mul_div_mul_right _ _ hkp
   have hm : mag * 2 ^ k % 2 ^ (d + k) = mag % 2 ^ d * 2 ^ k := by rw [Nat.pow_add]; exact Nat.mul_mod_mul_right _ _ _
   simp only [hq, hm]
   congr 2
   have a1 : 2 ^ (d + k) < 2 * (mag % 2 ^ d * 2 ^ k) ↔ 2 ^ d < 2 * (mag % 2 ^ d) := by
    rw [Nat.pow_add, ← Nat.mul_assoc]
    exact ⟨fun h => Nat.lt_of_mul_lt_mul_right h, fun h => Nat.mul_lt_mul_of_pos_right h hkp⟩
   have a2 : 2 ^ (d + k) = 2 * (mag % 2 ^ d * 2 ^ k) ↔ 2 ^ d = 2 * (mag % 2 ^ d) := by
    rw [Nat.pow_add, ← Nat.mul_assoc]
    exact ⟨fun h => Nat.eq_of_mul_eq_mul_right hkp h, fun h => congrArg (· * 2 ^ k) h⟩
   simp only [a1, a2]
 rw [hw]
 exact rung_back _ kept neg hk1 hk2 hk3 hr
theorem rnd_exact {v m e : Nat} (hv : v = m * 2 ^ e) (hm : m < 2 ^ 53) : rnd v = v := by
 by_cases h0 : v = 0
 ·rw [h0]; decide
 have hs : v.log2 - 52 ≤ e := by
  have hm0 : m ≠ 0 := by intro h; rw [h] at hv; simp at hv; exact h0 hv
  have : v.log2 = m.log2 + e := by rw [hv]; exact log2_shift hm0
  have : m.log2 < 53 := (Nat.log2_lt hm0).2 hm
  omega
 unfold rnd
 have hd : 2 ^ (v.log2 - 52) ∣ v := by
  rw [hv] at hs ⊢
  exact Nat.dvd_trans (Nat.pow_dvd_pow 2 hs) (Nat.dvd_mul_left _ _)
 have hmod : v % 2 ^ (v.log2 - 52) = 0 := Nat.mod_eq_zero_of_dvd hd
 simp only [hmod]
 have := Nat.two_pow_pos (v.log2 - 52)
 rw [if_neg (by omega), Nat.add_zero]
 exact Nat.div_mul_cancel hd
theorem rnd_two (v : Nat) : rnd (2 * v) = 2 * rnd v := by
 by_cases h0 : v = 0
 ·subst h0; decide
 ·by_cases h : v.log2 < 52
  ·have hv : v < 2 ^ 52 := (Nat.log2_lt h0).1 h
   rw [rnd_exact (v := v) (m := v) (e := 0) (by simp) (by omega), rnd_exact (v := 2 * v) (m := 2 * v) (e := 0) (by simp) (by omega)]
  ·have key : ∀ q r S : Nat, (q + (if 2 * S < 2 * (2 * r) ∨ 2 * S = 2 * (2 * r) ∧ q % 2 = 1 then 1 else 0)) * (2 * S) = 2 * ((q + (if S < 2 * r ∨ S = 2 * r ∧ q % 2 = 1 then 1 else 0)) * S) := by
    intro q r S
    by_cases c : S < 2 * r ∨ S = 2 * r ∧ q % 2 = 1
    ·rw [if_pos c, if_pos (by omega), Nat.mul_left_comm]
    ·rw [if_neg c, if_neg (by omega), Nat.mul_left_comm]
   have hk := key (v / 2 ^ (v.log2 - 52)) (v % 2 ^ (v.log2 - 52)) (2 ^ (v.log2 - 52))
   have e1 : 2 * v / 2 ^ (v.log2 - 52 + 1) = v / 2 ^ (v.log2 - 52) := by rw [Nat.pow_succ, Nat.mul_comm _ 2]; exact Nat.mul_div_mul_left _ _ (by decide)
   have e2 : 2 * v % 2 ^ (v.log2 - 52 + 1) = 2 * (v % 2 ^ (v.log2 - 52)) := by rw [Nat.pow_succ, Nat.mul_comm _ 2]; exact Nat.mul_mod_mul_left _ _ _
   have e3 : 2 ^ (v.log2 - 52 + 1) = 2 * 2 ^ (v.log2 - 52) := by rw [Nat.pow_succ]; omega
   show _ = 2 * ((v / 2 ^ (v.log2 - 52) + (if 2 ^ (v.log2 - 52) < 2 * (v % 2 ^ (v.log2 - 52)) ∨ 2 ^ (v.log2 - 52) = 2 * (v % 2 ^ (v.log2 - 52)) ∧ v / 2 ^ (v.log2 - 52) % 2 = 1 then 1 else 0)) * 2 ^ (v.log2 - 52))
   rw [← hk]
   show (2 * v / 2 ^ ((2 * v).log2 - 52) + (if 2 ^ ((2 * v).log2 - 52) < 2 * (2 * v % 2 ^ ((2 * v).log2 - 52)) ∨ 2 ^ ((2 * v).log2 - 52) = 2 * (2 * v % 2 ^ ((2 * v).log2 - 52)) ∧ 2 * v / 2 ^ ((2 * v).log2 - 52) % 2 = 1 then 1 else 0)) * 2 ^ ((2 * v).log2 - 52) = _
   have e0 : (2 * v).log2 - 52 = v.log2 - 52 + 1 := by rw [Nat.log2_two_mul h0]; omega
   rw [e0, e1, e2, e3]
end Go.Proofs.YtioahkblhekgpaaGreatDoor.FltP
