/- Whole numbers written in digits of 24 bits, the lowest first: what a row of digits is worth. Plain facts of lists and integers. No condition. -/
import Derived.Test.YthcklcfdeejkpaaWMath
namespace Go.Proofs.Ythcklcfdeejkpaa.NumP
open Go.Proofs.YthcklcfdeejkpaaW.PrintWords

/-- What digits are worth. -/
def dval : List Int → Int
  | [] => 0
  | d :: ds => d + 16777216 * dval ds
def Dig (l : List Int) : Prop := ∀ d ∈ l, 0 ≤ d ∧ d < 16777216
/-- 2 ^ 24 to a power. -/
def W (n : Nat) : Int := 16777216 ^ n
theorem W_zero : W 0 = 1 := rfl
theorem W_succ (n : Nat) : W (n + 1) = 16777216 * W n := by unfold W; rw [Int.pow_succ, Int.mul_comm]
theorem W_add (a b : Nat) : W (a + b) = W a * W b := by unfold W; exact Int.pow_add _ _ _
theorem W_pos (n : Nat) : 0 < W n := by unfold W; exact Int.pow_pos (by omega)
theorem W_two (n : Nat) : W n = 2 ^ (24 * n) := by unfold W; rw [Int.pow_mul]; rfl
theorem dval_append (a b : List Int) : dval (a ++ b) = dval a + W a.length * dval b := by
  induction a with
  | nil => simp [dval, W_zero]
  | cons d ds ih => simp only [List.cons_append, dval, ih, List.length_cons, W_succ]; grind
theorem dval_snoc (a : List Int) (d : Int) : dval (a ++ [d]) = dval a + W a.length * d := by rw [dval_append]; simp [dval]
theorem dval_zeros (n : Nat) : dval (List.replicate n 0) = 0 := by
  induction n with
  | zero => rfl
  | succ n ih => rw [List.replicate_succ, dval, ih]; rfl
theorem Dig.cons {d : Int} {l : List Int} (h : Dig (d :: l)) : (0 ≤ d ∧ d < 16777216) ∧ Dig l := ⟨h d (by simp), fun x hx => h x (by simp [hx])⟩
theorem Dig.append {a b : List Int} (h : Dig (a ++ b)) : Dig a ∧ Dig b := ⟨fun x hx => h x (by simp [hx]), fun x hx => h x (by simp [hx])⟩
theorem Dig.join {a b : List Int} (h : Dig a) (h' : Dig b) : Dig (a ++ b) := fun x hx => (List.mem_append.1 hx).elim (h x) (h' x)
theorem dval_bd : ∀ {l : List Int}, Dig l → 0 ≤ dval l ∧ dval l < W l.length
  | [], _ => by simp [dval, W_zero]
  | d :: ds, h => by
    have ⟨h1, h2⟩ := h.cons
    have ⟨h3, h4⟩ := dval_bd h2
    simp only [dval, List.length_cons, W_succ]
    omega
theorem dval_zero : ∀ {l : List Int}, Dig l → dval l = 0 → ∀ d ∈ l, d = 0
  | [], _, _ => by simp
  | d :: ds, h, h0 => by
    have ⟨h1, h2⟩ := h.cons
    have ⟨h3, _⟩ := dval_bd h2
    simp only [dval] at h0
    intro x hx
    rcases List.mem_cons.1 hx with rfl | hx
    · omega
    · exact dval_zero h2 (by omega) x hx
/-- The digit at a place of a number that begins at place e. -/
def dig (l : List Int) (e i : Int) : Int := if i < e ∨ e + l.length ≤ i then 0 else rd l (i - e)
theorem rd_dig {l : List Int} (h : Dig l) (i : Int) : 0 ≤ rd l i ∧ rd l i < 16777216 := by
  unfold rd
  rw [List.getD_eq_getElem?_getD]
  by_cases hi : i.toNat < l.length
  · rw [List.getElem?_eq_getElem hi]; exact h _ (List.getElem_mem hi)
  · rw [List.getElem?_eq_none (by omega)]; simp
theorem dig_bd {l : List Int} (h : Dig l) (e i : Int) : 0 ≤ dig l e i ∧ dig l e i < 16777216 := by
  unfold dig; split
  · omega
  · exact rd_dig h _
/-- What the digits from place b on, n of them, are worth: 'b' is the place of the first. -/
def dpart (l : List Int) (e b : Int) : Nat → Int
  | 0 => 0
  | n + 1 => dpart l e b n + W n * dig l e (b + n)
theorem dpart_bd {l : List Int} (h : Dig l) (e b : Int) : ∀ n : Nat, 0 ≤ dpart l e b n ∧ dpart l e b n < W n
  | 0 => by simp [dpart, W_zero]
  | n + 1 => by
    have ⟨h1, h2⟩ := dpart_bd h e b n
    have ⟨h3, h4⟩ := dig_bd h e (b + n)
    have hw := W_pos n
    simp only [dpart, W_succ]
    have := Int.mul_le_mul_of_nonneg_left (show dig l e (b + n) ≤ 16777215 by omega) (Int.le_of_lt hw)
    have := Int.mul_nonneg (Int.le_of_lt hw) h3
    constructor <;> omega
/-- Below the number's first place there is nothing; from there on there are its digits. -/
theorem dpart_low (l : List Int) (e b : Int) (n : Nat) (h : b + n ≤ e) : dpart l e b n = 0 := by
  induction n with
  | zero => rfl
  | succ n ih => rw [dpart, ih (by omega)]; unfold dig; rw [if_pos (by omega)]; simp
theorem dpart_mid (l : List Int) (e : Int) : ∀ n : Nat, n ≤ l.length → dpart l e e n = dval (l.take n)
  | 0, _ => by simp [dpart, dval]
  | n + 1, h => by
    rw [dpart, dpart_mid l e n (by omega), List.take_add_one, List.getElem?_eq_getElem (by omega)]
    simp only [Option.toList]
    rw [dval_snoc, List.length_take, Nat.min_eq_left (by omega)]
    unfold dig; rw [if_neg (by omega)]
    unfold rd; rw [show (e + (n : Int) - e).toNat = n from by omega, List.getD_eq_getElem?_getD, List.getElem?_eq_getElem (by omega)]; rfl
theorem dpart_high (l : List Int) (e b : Int) (n m : Nat) (h : e + l.length ≤ b + n) : dpart l e b (n + m) = dpart l e b n := by
  induction m with
  | zero => rfl
  | succ m ih => rw [← Nat.add_assoc, dpart, ih]; unfold dig; rw [if_pos (by omega)]; simp
theorem dpart_shift (l : List Int) (e b : Int) (j : Nat) (h : b + j ≤ e) : ∀ n : Nat, dpart l e b (j + n) = W j * dpart l e (b + j) n
  | 0 => by rw [Nat.add_zero, dpart_low l e b j h]; simp [dpart]
  | n + 1 => by
    rw [← Nat.add_assoc, dpart, dpart_shift l e b j h n, dpart, W_add]
    rw [show b + ((j + n : Nat) : Int) = b + j + n from by omega]
    grind
/-- The whole: with b at or below the first place and b + n at or above the end. -/
theorem dpart_all (l : List Int) (e b : Int) (n : Nat) (h1 : b ≤ e) (h2 : e + l.length ≤ b + n) : dpart l e b n = W (e - b).toNat * dval l := by
  obtain ⟨m, rfl⟩ : ∃ m : Nat, n = (e - b).toNat + (l.length + m) := ⟨n - (e - b).toNat - l.length, by omega⟩
  rw [dpart_shift l e b (e - b).toNat (by omega), show b + ((e - b).toNat : Int) = e from by omega, dpart_high l e e l.length m (by omega), dpart_mid l e l.length (Nat.le_refl _), List.take_length]
/-- Cut on the right: zeros above. -/
theorem dval_zero_above (l : List Int) (h : rd l ((l.length : Int) - 1) = 0) (h0 : l ≠ []) : dval (l.take (l.length - 1)) = dval l := by
  have hl : 0 < l.length := List.length_pos_iff.2 h0
  have : l = l.take (l.length - 1) ++ [0] := by
    have e := List.take_append_drop (l.length - 1) l
    have : l.drop (l.length - 1) = [0] := by
      rw [List.drop_eq_getElem_cons (by omega), List.drop_eq_nil_of_le (by omega)]
      unfold rd at h
      rw [show ((l.length : Int) - 1).toNat = l.length - 1 from by omega, List.getD_eq_getElem?_getD, List.getElem?_eq_getElem (by omega)] at h
      simpa using h
    rw [this] at e
    exact e.symm
  conv => rhs; rw [this]
  rw [dval_snoc]; simp
theorem dval_zero_below (l : List Int) (h : rd l 0 = 0) (h0 : l ≠ []) : dval l = 16777216 * dval (l.drop 1) := by
  cases l with
  | nil => exact absurd rfl h0
  | cons d ds => simp [rd, List.getD] at h; simp [dval, h]
theorem Dig.take {l : List Int} (h : Dig l) (n : Nat) : Dig (l.take n) := fun x hx => h x (List.mem_of_mem_take hx)
theorem Dig.drop {l : List Int} (h : Dig l) (n : Nat) : Dig (l.drop n) := fun x hx => h x (List.mem_of_mem_drop hx)

/-- A sign, digits, and the place of the first: worth x times 2 ^ (-24 B). n: how far its places reach. -/
structure Worth (S : Int) (D : List Int) (E : Int) (B n : Nat) (x : Int) : Prop where
  digits : Dig D
  sign : S = x.sign
  lo : -(n : Int) ≤ E
  hi : E + D.length ≤ n
  place : -(B : Int) ≤ E
  val : S * (W (E + B).toNat * dval D) = x
theorem Worth.zero (B n : Nat) : Worth 0 [] 0 B n 0 := ⟨fun x hx => by simp at hx, rfl, by omega, by simp, by omega, by simp⟩
theorem Worth.wide {S : Int} {D : List Int} {E : Int} {B n n' : Nat} {x : Int} (h : Worth S D E B n x) (hn : n ≤ n') : Worth S D E B n' x := ⟨h.digits, h.sign, by have := h.lo; omega, by have := h.hi; omega, h.place, h.val⟩
theorem Worth.fine {S : Int} {D : List Int} {E : Int} {B n : Nat} {x : Int} (h : Worth S D E B n x) (j : Nat) : Worth S D E (B + j) n (x * W j) where
  digits := h.digits
  sign := by
    rw [Int.sign_mul, Int.sign_eq_one_of_pos (W_pos j), Int.mul_one]; exact h.sign
  lo := h.lo
  hi := h.hi
  place := by have := h.place; omega
  val := by
    have := h.place
    rw [show (E + ((B + j : Nat) : Int)).toNat = (E + B).toNat + j from by omega, W_add]
    have := h.val
    grind
theorem Worth.neg {S : Int} {D : List Int} {E : Int} {B n : Nat} {x : Int} (h : Worth S D E B n x) : Worth (-S) D E B n (-x) where
  digits := h.digits
  sign := by rw [Int.sign_neg, h.sign]
  lo := h.lo
  hi := h.hi
  place := h.place
  val := by have := h.val; grind
/-- Its magnitude. -/
theorem Worth.abs {S : Int} {D : List Int} {E : Int} {B n : Nat} {x : Int} (h : Worth S D E B n x) (h0 : S ≠ 0) : W (E + B).toNat * dval D = x.natAbs := by
  have hv := h.val
  have hs := h.sign
  have hp := Int.mul_nonneg (Int.le_of_lt (W_pos (E + B).toNat)) (dval_bd h.digits).1
  generalize W (E + B).toNat * dval D = y at *
  rcases Int.lt_trichotomy x 0 with hx | hx | hx
  · rw [Int.sign_eq_neg_one_of_neg hx] at hs; subst hs; omega
  · subst hx; simp at hs; exact absurd hs h0
  · rw [Int.sign_eq_one_of_pos hx] at hs; subst hs; omega
/-- Made of a sign and digits that may begin and end in noughts. -/
theorem Worth.mk' {S : Int} {D : List Int} {E : Int} {B n : Nat} (hd : Dig D) (hS : S = 1 ∨ S = -1) (hlo : -(n : Int) ≤ E) (hhi : E + D.length ≤ n) (hp : -(B : Int) ≤ E) (h0 : dval D ≠ 0) : Worth S D E B n (S * (W (E + B).toNat * dval D)) where
  digits := hd
  sign := by
    have := dval_bd hd
    have : 0 < dval D := by omega
    have := Int.mul_pos (W_pos (E + B).toNat) this
    rw [Int.sign_mul, Int.sign_eq_one_of_pos this, Int.mul_one]
    rcases hS with rfl | rfl <;> rfl
  lo := hlo
  hi := hhi
  place := hp
  val := rfl
end Go.Proofs.Ythcklcfdeejkpaa.NumP
