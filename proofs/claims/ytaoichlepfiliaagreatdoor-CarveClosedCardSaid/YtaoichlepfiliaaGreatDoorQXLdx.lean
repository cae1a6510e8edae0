/- What the proof needs of NumP, FltS, Rnd, Dek, FltA, Ldx: only what is used is left (wip/tools/prune.py). Conditions stand in each sentence. -/
import Derived.Test.YtaoichlepfiliaaGreatDoorQXWFootNe
import Derived.Test.YtaoichlepfiliaaGreatDoorQXFltR
import Derived.Test.YtaoichlepfiliaaGreatDoorQXR6
import Derived.Test.YtaoichlepfiliaaGreatDoorQXR7
set_option linter.unusedSimpArgs false
set_option linter.unusedVariables false
namespace Go.Proofs.YtaoichlepfiliaaGreatDoor.NumP
open Go.Proofs.YtaoichlepfiliaaGreatDoorW.PrintWords
def dval : List Int → Int
 | [] => 0
 | d :: ds => d + 16777216 * dval ds
def Dig (l : List Int) : Prop := ∀ d ∈ l, 0 ≤ d ∧ d < 16777216
def W (n : Nat) : Int := 16777216 ^ n
theorem W_zero : W 0 = 1 := rfl
theorem W_succ (n : Nat) : W (n + 1) = 16777216 * W n := by unfold W; rw [Int.pow_succ, Int.mul_comm]
theorem W_add (a b : Nat) : W (a + b) = W a * W b := by unfold W; exact Int.pow_add _ _ _
theorem W_pos (n : Nat) : 0 < W n := by unfold W; exact Int.pow_pos (by omega)
theorem W_two (n : Nat) : W n = 2 ^ (24 * n) := by unfold W; rw [Int.pow_mul]; rfl
theorem dval_append (a b : List Int) : dval (a ++ b) = dval a + W a.length * dval b := by
 induction a with
 | nil => simp [dval, W_zero]
 | cons d ds ih => simp only [List.cons_append, dval, ih, List.length_cons, W_succ]; grind
theorem dval_snoc (a : List Int) (d : Int) : dval (a ++ [d]) = dval a + W a.length * d := by rw [dval_append]; simp [dval]
theorem dval_zeros (n : Nat) : dval (List.replicate n 0) = 0 := by
 induction n with
 | zero => rfl
 | succ n ih => rw [List.replicate_succ, dval, ih]; rfl
theorem Dig.cons {d : Int} {l : List Int} (h : Dig (d :: l)) : (0 ≤ d ∧ d < 16777216) ∧ Dig l := ⟨h d (by simp), fun x hx => h x (by simp [hx])⟩
theorem Dig.join {a b : List Int} (h : Dig a) (h' : Dig b) : Dig (a ++ b) := fun x hx => (List.mem_append.1 hx).elim (h x) (h' x)
theorem dval_bd : ∀ {l : List Int}, Dig l → 0 ≤ dval l ∧ dval l < W l.length
 | [], _ => by simp [dval, W_zero]
 | d :: ds, h => by
  have ⟨h1, h2⟩ := h.cons
  have ⟨h3, h4⟩ := dval_bd h2
  simp only [dval, List.length_cons, W_succ]
  omega
theorem dval_zero : ∀ {l : List Int}, Dig l → dval l = 0 → ∀ d ∈ l, d = 0
 | [], _, _ => by simp
 | d :: ds, h, h0 => by
  have ⟨h1, h2⟩ := h.cons
  have ⟨h3, _⟩ := dval_bd h2
  simp only [dval] at h0
  intro x hx
  rcases List.mem_cons.1 hx with rfl | hx
  ·omega
  ·exact dval_zero h2 (by omega) x hx
def dig (l : List Int) (e i : Int) : Int := if i < e ∨ e + l.length ≤ i then 0 else rd l (i - e)
theorem rd_dig {l : List Int} (h : Dig l) (i : Int) : 0 ≤ rd l i ∧ rd l i < 16777216 := by
 unfold rd
 rw [List.getD_eq_getElem?_getD]
 by_cases hi : i.toNat < l.length
 ·rw [List.getElem?_eq_getElem hi]; exact h _ (List.getElem_mem hi)
 ·rw [List.getElem?_eq_none (by omega)]; simp
theorem dig_bd {l : List Int} (h : Dig l) (e i : Int) : 0 ≤ dig l e i ∧ dig l e i < 16777216 := by
 unfold dig; split
 ·omega
 ·exact rd_dig h _
def dpart (l : List Int) (e b : Int) : Nat → Int
 | 0 => 0
 | n + 1 => dpart l e b n + W n * dig l e (b + n)
theorem dpart_bd {l : List Int} (h : Dig l) (e b : Int) : ∀ n : Nat, 0 ≤ dpart l e b n ∧ dpart l e b n < W n
 | 0 => by simp [dpart, W_zero]
 | n + 1 => by
  have ⟨h1, h2⟩ := dpart_bd h e b n
  have ⟨h3, h4⟩ := dig_bd h e (b + n)
  have hw := W_pos n
  simp only [dpart, W_succ]
  have := Int.mul_le_mul_of_nonneg_left (show dig l e (b + n) ≤ 16777215 by omega) (Int.le_of_lt hw)
  have := Int.mul_nonneg (Int.le_of_lt hw) h3
  constructor <;> omega
theorem dpart_low (l : List Int) (e b : Int) (n : Nat) (h : b + n ≤ e) : dpart l e b n = 0 := by
 induction n with
 | zero => rfl
 | succ n ih => rw [dpart, ih (by omega)]; unfold dig; rw [if_pos (by omega)]; simp
theorem dpart_mid (l : List Int) (e : Int) : ∀ n : Nat, n ≤ l.length → dpart l e e n = dval (l.take n)
 | 0, _ => by simp [dpart, dval]
 | n + 1, h => by
  rw [dpart, dpart_mid l e n (by omega), List.take_add_one, List.getElem?_eq_getElem (by omega)]
  simp only [Option.toList]
  rw [dval_snoc, List.length_take, Nat.min_eq_left (by omega)]
  unfold dig; rw [if_neg (by omega)]
  unfold rd; rw [show (e + (n : Int) - e).toNat = n from by omega, List.getD_eq_getElem?_getD, List.getElem?_eq_getElem (by omega)]; rfl
theorem dpart_high (l : List Int) (e b : Int) (n m : Nat) (h : e + l.length ≤ b + n) : dpart l e b (n + m) = dpart l e b n := by
 induction m with
 | zero => rfl
 | succ m ih => rw [← Nat.add_assoc, dpart, ih]; unfold dig; rw [if_pos (by omega)]; simp
theorem dpart_shift (l : List Int) (e b : Int) (j : Nat) (h : b + j ≤ e) : ∀ n : Nat, dpart l e b (j + n) = W j * dpart l e (b + j) n
 | 0 => by rw [Nat.add_zero, dpart_low l e b j h]; simp [dpart]
 | n + 1 => by
  rw [← Nat.add_assoc, dpart, dpart_shift l e b j h n, dpart, W_add]
  rw [show b + ((j + n : Nat) : Int) = b + j + n from by omega]
  grind
theorem dpart_all (l : List Int) (e b : Int) (n : Nat) (h1 : b ≤ e) (h2 : e + l.length ≤ b + n) : dpart l e b n = W (e - b).toNat * dval l := by
 obtain ⟨m, rfl⟩ : ∃ m : Nat, n = (e - b).toNat + (l.length + m) := ⟨n - (e - b).toNat - l.length, by omega⟩
 rw [dpart_shift l e b (e - b).toNat (by omega), show b + ((e - b).toNat : Int) = e from by omega, dpart_high l e e l.length m (by omega), dpart_mid l e l.length (Nat.le_refl _), List.take_length]
theorem dval_zero_below (l : List Int) (h : rd l 0 = 0) (h0 : l ≠ []) : dval l = 16777216 * dval (l.drop 1) := by
 cases l with
 | nil => exact absurd rfl h0
 | cons d ds => simp [rd, List.getD] at h; simp [dval, h]
theorem Dig.take {l : List Int} (h : Dig l) (n : Nat) : Dig (l.take n) := fun x hx => h x (List.mem_of_mem_take hx)
theorem Dig.drop {l : List Int} (h : Dig l) (n : Nat) : Dig (l.drop n) := fun x hx => h x (List.mem_of_mem_drop hx)
structure Worth (S : Int) (D : List Int) (E : Int) (B n : Nat) (x : Int) : Prop where
 digits : Dig D
 sign : S = x.sign
 lo : -(n : Int) ≤ E
 hi : E + D.length ≤ n
 place : -(B : Int) ≤ E
 val : S * (W (E + B).toNat * dval D) = x
theorem Worth.zero (B n : Nat) : Worth 0 [] 0 B n 0 := ⟨fun x hx => by simp at hx, rfl, by omega, by simp, by omega, by simp⟩
theorem Worth.wide {S : Int} {D : List Int} {E : Int} {B n n' : Nat} {x : Int} (h : Worth S D E B n x) (hn : n ≤ n') : Worth S D E B n' x := ⟨h.digits, h.sign, by have := h.lo; omega, by have := h.hi; omega, h.place, h.val⟩
theorem Worth.neg {S : Int} {D : List Int} {E : Int} {B n : Nat} {x : Int} (h : Worth S D E B n x) : Worth (-S) D E B n (-x) where
 digits := h.digits
 sign := by rw [Int.sign_neg, h.sign]
 lo := h.lo
 hi := h.hi
 place := h.place
 val := by have := h.val; grind
theorem Worth.abs {S : Int} {D : List Int} {E : Int} {B n : Nat} {x : Int} (h : Worth S D E B n x) (h0 : S ≠ 0) : W (E + B).toNat * dval D = x.natAbs := by
 have hv := h.val
 have hs := h.sign
 have hp := Int.mul_nonneg (Int.le_of_lt (W_pos (E + B).toNat)) (dval_bd h.digits).1
 generalize W (E + B).toNat * dval D = y at *
 rcases Int.lt_trichotomy x 0 with hx | hx | hx
 ·rw [Int.sign_eq_neg_one_of_neg hx] at hs; subst hs; omega
 ·subst hx; simp at hs; exact absurd hs h0
 ·rw [Int.sign_eq_one_of_pos hx] at hs; subst hs; omega
theorem Worth.mk' {S : Int} {D : List Int} {E : Int} {B n : Nat} (hd : Dig D) (hS : S = 1 ∨ S = -1) (hlo : -(n : Int) ≤ E) (hhi : E + D.length ≤ n) (hp : -(B : Int) ≤ E) (h0 : dval D ≠ 0) : Worth S D E B n (S * (W (E + B).toNat * dval D)) where
 digits := hd
 sign := by
  have := dval_bd hd
  have : 0 < dval D := by omega
  have := Int.mul_pos (W_pos (E + B).toNat) this
  rw [Int.sign_mul, Int.sign_eq_one_of_pos this, Int.mul_one]
  rcases hS with rfl | rfl <;> rfl
 lo := hlo
 hi := hhi
 place := hp
 val := rfl
end Go.Proofs.YtaoichlepfiliaaGreatDoor.NumP
namespace Go.Proofs.YtaoichlepfiliaaGreatDoor.FltP
set_option exponentiation.threshold 4000
open Go.RowKit Go.Proofs.YtaoichlepfiliaaGreatDoor.R Go.Proofs.YtaoichlepfiliaaGreatDoorW.PrintWords Go.Proofs.YtaoichlepfiliaaGreatDoorW.PrintLast Ieee
theorem toInt_val {x : Nat} (hx : Fini x) : (FloatKind.f64.decode x).toInt .zero = some (if fsgn x then -((fmag x / 2 ^ 1074 : Nat) : Int) else ((fmag x / 2 ^ 1074 : Nat) : Int)) := by
 have hd : FloatKind.f64.decode x = .number (fsgn x) (fsig x) (-1074 + fpl x) := read_fin hx
 rw [hd]
 have hT : fsig x <<< (-1074 + (fpl x : Int)).toNat / 2 ^ (-(-1074 + (fpl x : Int))).toNat = fmag x / 2 ^ 1074 := by
  rw [Nat.shiftLeft_eq, fmag_sig]
  rcases Nat.le_total 1074 (fpl x) with h | h
  ·rw [show (-1074 + (fpl x : Int)).toNat = fpl x - 1074 from by omega, show (-(-1074 + (fpl x : Int))).toNat = 0 from by omega, Nat.pow_zero, Nat.div_one]
   conv => rhs; rw [show fpl x = fpl x - 1074 + 1074 from by omega, Nat.pow_add, ← Nat.mul_assoc]
   rw [Nat.mul_div_cancel _ (Nat.two_pow_pos _)]
  ·rw [show (-1074 + (fpl x : Int)).toNat = 0 from by omega, show (-(-1074 + (fpl x : Int))).toNat = 1074 - fpl x from by omega, Nat.pow_zero, Nat.mul_one]
   conv => rhs; rw [show 1074 = 1074 - fpl x + fpl x from by omega, Nat.pow_add]
   rw [Nat.mul_div_mul_right _ _ (Nat.two_pow_pos _)]
 simp only [Datum.toInt, Datum.integral, cut_zero, hT]
 rw [signed_eq]; simp
theorem mask_exp {a : Nat} (h : a < 2 ^ 63) : bits .andNot .u64 (fbits a) 9218868437227405312 = ((a % 2 ^ 52 : Nat) : Int) := by
 have e : (BitVec.ofInt 64 (fbits a) &&& ~~~ BitVec.ofInt 64 9218868437227405312).toNat = a % 2 ^ 52 := by
  apply Nat.eq_of_testBit_eq
  intro i
  have ha : BitVec.ofInt 64 (fbits a) = BitVec.ofNat 64 a := by unfold fbits; simp
  have hm : BitVec.ofInt 64 9218868437227405312 = BitVec.ofNat 64 ((2 ^ 11 - 1) <<< 52) := by decide
  rw [ha, hm, BitVec.testBit_toNat, BitVec.getLsbD_and, BitVec.getLsbD_not, Nat.testBit_mod_two_pow, BitVec.getLsbD_ofNat, BitVec.getLsbD_ofNat, Nat.testBit_shiftLeft, Nat.testBit_two_pow_sub_one]
  by_cases h1 : i < 52
  ·have h2 : i < 64 := by omega
   have h3 : ¬ 52 ≤ i := by omega
   simp [h1, h2, h3]
  ·by_cases h2 : i < 63
   ·have h3 : 52 ≤ i := by omega
    have h4 : i - 52 < 11 := by omega
    have h5 : i < 64 := by omega
    simp [h1, h3, h4, h5]
   ·have : a.testBit i = false := Nat.testBit_lt_two_pow (Nat.lt_of_lt_of_le h (Nat.pow_le_pow_right (by decide) (by omega)))
    simp [this, h1]
 unfold bits
 show IntKind.u64.wrap (((BitVec.ofInt 64 (fbits a) &&& ~~~ BitVec.ofInt 64 9218868437227405312).toNat : Nat) : Int) = _
 rw [e]
 simp only [IntKind.wrap]; simp [IntKind.signed, IntKind.bits]; omega
theorem join_half (a : Nat) (h : a < 2 ^ 52) : bits .or .u64 ((a : Nat) : Int) 4602678819172646912 = ((a + 1022 * 2 ^ 52 : Nat) : Int) := by
 have e : (BitVec.ofInt 64 ((a : Nat) : Int) ||| BitVec.ofInt 64 4602678819172646912).toNat = a + 1022 * 2 ^ 52 := by
  have ha : BitVec.ofInt 64 ((a : Nat) : Int) = BitVec.ofNat 64 a := by simp
  have hm : BitVec.ofInt 64 4602678819172646912 = BitVec.ofNat 64 (2 ^ 52 * 1022) := by decide
  rw [ha, hm, BitVec.toNat_or, BitVec.toNat_ofNat, BitVec.toNat_ofNat, Nat.mod_eq_of_lt (by omega), Nat.mod_eq_of_lt (by omega), Nat.or_comm, ← Nat.two_pow_add_eq_or_of_lt h]
  omega
 unfold bits
 show IntKind.u64.wrap (((BitVec.ofInt 64 ((a : Nat) : Int) ||| BitVec.ofInt 64 4602678819172646912).toNat : Nat) : Int) = _
 rw [e]
 simp only [IntKind.wrap]; simp [IntKind.signed, IntKind.bits]; omega
theorem field_of (a : Nat) (h : a < 2 ^ 63) : bits .and .u64 ((fbits a) / 4503599627370496) 2047 = ((a / 2 ^ 52 : Nat) : Int) := by
 have h0 : (0 : Int) ≤ (fbits a) / 4503599627370496 := by unfold fbits; omega
 have h1 : (fbits a) / 4503599627370496 < 2048 := by unfold fbits; omega
 have h2 : (fbits a) / 4503599627370496 = ((a / 2 ^ 52 : Nat) : Int) := by unfold fbits; omega
 rw [h2] at h0 h1 ⊢
 generalize ((a / 2 ^ 52 : Nat) : Int) = z at *
 have : bits .and .u64 z 2047 = z % 2048 := by have h3 : z < 4096 := by omega
                                               clear h2; go_bits2
 rw [this]; omega
theorem half_fin (s : Nat) (h1 : 2 ^ 52 ≤ s) (h2 : s < 2 ^ 53) : Fini (s - 2 ^ 52 + 1022 * 2 ^ 52) ∧ fsig (s - 2 ^ 52 + 1022 * 2 ^ 52) = s ∧ fpl (s - 2 ^ 52 + 1022 * 2 ^ 52) = 1021 ∧ fsgn (s - 2 ^ 52 + 1022 * 2 ^ 52) = false := by
 refine ⟨⟨by omega, by omega⟩, ?_, ?_, ?_⟩
 ·unfold fsig; rw [if_neg (by omega)]; omega
 ·unfold fpl; omega
 ·unfold fsgn; rw [show (s - 2 ^ 52 + 1022 * 2 ^ 52) / 2 ^ 63 % 2 = 0 from by omega]; rfl
theorem frexp_ev {y : Nat} (hy : Fini y) (hp : y < 2 ^ 63) (h0 : fmag y ≠ 0) : ∃ (s : Nat) (e : Int), 2 ^ 52 ≤ s ∧ s < 2 ^ 53 ∧ -1073 ≤ e ∧ e ≤ 1024 ∧ fmag y * 2 ^ 52 = s * 2 ^ (e + 1073).toNat ∧
 Ev (fun k => math_Frexp.f k y) (s - 2 ^ 52 + 1022 * 2 ^ 52, e) := by
 have hyv : fval y = fmag y := fval_nonneg hp
 have hz : Fini 0 := ⟨by decide, by decide⟩
 have hz0 : fval 0 = 0 := by decide
 have c0 : (FloatKind.f64.format.order y 0 == some .eq) = false := by rw [eq_fin hy hz, hz0, hyv]; simp; omega
 have hmx : Fini 9218868437227405311 := ⟨by decide, by decide⟩
 have hinf : math_IsInf.f y 0 = some false := by
  unfold math_IsInf.f
  rw [if_pos rfl, abs_some hy.2]; simp only [Option.bind_some]
  rw [gt_fin hy.pos hmx, fval_nonneg (b := y % 2 ^ 63) (by omega), fval_nonneg (b := 9218868437227405311) (by decide), fmag_pos]
  refine congrArg some (decide_eq_false ?_)
  have hb : fmag 9218868437227405311 = (2 ^ 53 - 1) * 2 ^ 2045 := by
   rw [fmag_sig, show fsig 9218868437227405311 = 2 ^ 53 - 1 from by decide, show fpl 9218868437227405311 = 2045 from by decide]
  rw [hb, fmag_sig]
  have h1 := fsig_lt y
  have h2 := hy.fpl_le
  have h3 : fsig y * 2 ^ fpl y ≤ (2 ^ 53 - 1) * 2 ^ 2045 := Nat.mul_le_mul (by omega) (Nat.pow_le_pow_right (by decide) h2)
  intro hh
  exact absurd h3 (Nat.not_le.2 (Int.ofNat_lt.1 hh))
 have hnan : math_IsNaN.f y = some false := by
  unfold math_IsNaN.f; rw [bne, eq_fin hy hy]; simp
 have tail (z : Nat) (a : Int) (ha : a = 0 ∨ a = -52) (hz1 : 2 ^ 52 ≤ z) (hz2 : z < 2047 * 2 ^ 52) (hn : math_normalize.f y = some (z, a)) (hv : fmag z = fmag y * 2 ^ (-a).toNat) :
  ∃ (s : Nat) (e : Int), 2 ^ 52 ≤ s ∧ s < 2 ^ 53 ∧ -1073 ≤ e ∧ e ≤ 1024 ∧ fmag y * 2 ^ 52 = s * 2 ^ (e + 1073).toNat ∧ Ev (fun k => math_Frexp.f k y) (s - 2 ^ 52 + 1022 * 2 ^ 52, e) := by
  have hzz : z < 2 ^ 63 := by omega
  refine ⟨2 ^ 52 + z % 2 ^ 52, a + ((z / 2 ^ 52 : Nat) : Int) - 1022, by omega, by omega, by omega, by omega, ?_, ?_⟩
  ·have hm : fmag z = (2 ^ 52 + z % 2 ^ 52) * 2 ^ (z / 2 ^ 52 - 1) := by
    unfold fmag; rw [Nat.mod_eq_of_lt hzz, if_neg (by omega)]
   rw [hm] at hv
   have hF : 1 ≤ z / 2 ^ 52 := by omega
   rcases ha with rfl | rfl
   ·simp only [Int.neg_zero, Int.toNat_zero, Nat.pow_zero, Nat.mul_one] at hv
    rw [← hv, Nat.mul_assoc, ← Nat.pow_add, show (0 + ((z / 2 ^ 52 : Nat) : Int) - 1022 + 1073).toNat = z / 2 ^ 52 - 1 + 52 from by omega]
   ·rw [show (-(-52) : Int).toNat = 52 from rfl] at hv
    rw [← hv, show (-52 + ((z / 2 ^ 52 : Nat) : Int) - 1022 + 1073).toNat = z / 2 ^ 52 - 1 from by omega]
  ·refine Ev.congr (f := fun k => (math_frexp.j0 k y false).bind fun b => some (b.1, b.2)) (fun k => ?_) (Ev.bind (a := (2 ^ 52 + z % 2 ^ 52 - 2 ^ 52 + 1022 * 2 ^ 52, a + ((z / 2 ^ 52 : Nat) : Int) - 1022)) ?_ (Ev.now _))
   ·unfold math_Frexp.f math_frexp.f
    rw [if_neg (by rw [c0]; decide), hinf]; simp only [Option.bind_some]
    rw [if_neg (by decide), hnan]; rfl
   ·refine Ev.step (f := fun _ => some (2 ^ 52 + z % 2 ^ 52 - 2 ^ 52 + 1022 * 2 ^ 52, a + ((z / 2 ^ 52 : Nat) : Int) - 1022)) (fun k => ?_) (Ev.now _)
    simp only [math_frexp.j0]
    rw [if_neg (by decide), hn]; simp only [Option.bind_some]
    rw [mask_exp hzz, join_half _ (by omega), field_of z hzz]
    have w1 : wrap64 ((z / 2 ^ 52 : Nat) : Int) = ((z / 2 ^ 52 : Nat) : Int) := w64' rfl (by omega) (by omega)
    have w2 : wrap64 (((z / 2 ^ 52 : Nat) : Int) - 1023) = ((z / 2 ^ 52 : Nat) : Int) - 1023 := w64' rfl (by omega) (by omega)
    have w3 : wrap64 (((z / 2 ^ 52 : Nat) : Int) - 1023 + 1) = ((z / 2 ^ 52 : Nat) : Int) - 1022 := w64' (by omega) (by omega) (by omega)
    have w4 : wrap64 (a + (((z / 2 ^ 52 : Nat) : Int) - 1022)) = a + ((z / 2 ^ 52 : Nat) : Int) - 1022 := w64' (by omega) (by omega) (by omega)
    rw [w1, w2, w3, w4]
    unfold fof
    rw [Int.toNat_natCast]
    refine congrArg some (Prod.ext ?_ rfl)
    simp only; omega
 have hthr : Fini 4503599627370496 := ⟨by decide, by decide⟩
 have hthv : fmag 4503599627370496 = 2 ^ 52 := by decide
 have hy1 := hy.1
 have hcond : (FloatKind.f64.format.order (y % 2 ^ 63) 4503599627370496 == some .lt) = decide (fmag y < 2 ^ 52) := by
  rw [lt_fin hy.pos hthr, fval_nonneg (b := y % 2 ^ 63) (by omega), fval_nonneg (b := 4503599627370496) (by decide), fmag_pos, hthv]
  exact decide_eq_decide.2 Int.ofNat_lt
 by_cases hs : fmag y < 2 ^ 52
 ·
  have hy52 : y < 2 ^ 52 := by
   apply Classical.byContradiction
   intro hge
   have : fmag y = (2 ^ 52 + y % 2 ^ 52) * 2 ^ (y / 2 ^ 52 - 1) := by unfold fmag; rw [Nat.mod_eq_of_lt hp, if_neg (by omega)]
   have h3 : (2 ^ 52 + y % 2 ^ 52) * 1 ≤ (2 ^ 52 + y % 2 ^ 52) * 2 ^ (y / 2 ^ 52 - 1) := Nat.mul_le_mul_left _ (Nat.one_le_two_pow)
   omega
  have hym : fmag y = y := by unfold fmag; rw [Nat.mod_eq_of_lt hp, if_pos hy52]
  have hc : Fini 4841369599423283200 := ⟨by decide, by decide⟩
  have hcs : fsig 4841369599423283200 = 2 ^ 52 := by decide
  have hcp : fpl 4841369599423283200 = 1074 := by decide
  have hys : fsig y = y := by unfold fsig; rw [Nat.mod_eq_of_lt hp, if_pos hy52]
  have hyp : fpl y = 0 := by unfold fpl; omega
  have hrn : rnd (y * 2 ^ 52) = y * 2 ^ 52 := rnd_exact rfl (by omega)
  obtain ⟨r, e1, e2, e3, e4⟩ := mul_val hy hc (.inl (by rw [hyp, hcp]; omega)) (by
   rw [hys, hcs, hyp, hcp, show 0 + 1074 - 1074 = 0 from rfl, Nat.pow_zero, Nat.mul_one, hrn]
   exact Nat.lt_of_lt_of_le (show y * 2 ^ 52 < 2 ^ 104 by omega) (Nat.pow_le_pow_right (by decide) (by omega)))
  rw [hys, hcs, hyp, hcp, show 0 + 1074 - 1074 = 0 from rfl, Nat.pow_zero, Nat.mul_one, hrn] at e3
  rw [show fsgn y = false from by unfold fsgn; rw [show y / 2 ^ 63 % 2 = 0 from by omega]; rfl, show fsgn 4841369599423283200 = false from by decide] at e4
  have hrp : r < 2 ^ 63 := by
   have := e2.2
   unfold fsgn at e4
   have h5 : r / 2 ^ 63 % 2 ≠ 1 := by intro hh; rw [hh] at e4; exact absurd e4 (by decide)
   omega
  have hr52 : 2 ^ 52 ≤ r := by
   apply Classical.byContradiction
   intro hlt
   have : fmag r = r := by unfold fmag; rw [Nat.mod_eq_of_lt hrp, if_pos (by omega)]
   omega
  have := e2.1
  refine tail r (-52) (.inr rfl) hr52 (by omega) ?_ (by rw [e3, hym]; rfl)
  unfold math_normalize.f
  rw [abs_some hy.2]; simp only [Option.bind_some]
  rw [if_pos (by rw [hcond]; simpa using hs), e1]; rfl
 ·have hge : 2 ^ 52 ≤ y := by
   apply Classical.byContradiction
   intro hlt
   have : fmag y = y := by unfold fmag; rw [Nat.mod_eq_of_lt hp, if_pos (by omega)]
   omega
  refine tail y 0 (.inl rfl) hge (by omega) ?_ (by simp)
  unfold math_normalize.f
  rw [abs_some hy.2]; simp only [Option.bind_some]
  rw [if_neg (by rw [hcond]; simpa using hs)]
end Go.Proofs.YtaoichlepfiliaaGreatDoor.FltP
namespace Go.Proofs.YtaoichlepfiliaaGreatDoor.Rnd
open Go.Proofs.YtaoichlepfiliaaGreatDoor.FltP
def R (z : Int) : Int := if z < 0 then -(rnd z.natAbs : Int) else rnd z.natAbs
def Rep (z : Int) : Prop := ∃ m e : Nat, z.natAbs = m * 2 ^ e ∧ m < 2 ^ 53
theorem R_neg (z : Int) : R (-z) = -R z := by
 unfold R
 rw [Int.natAbs_neg]
 by_cases h : z < 0
 ·rw [if_neg (by omega), if_pos h]; omega
 ·by_cases h0 : z = 0
  ·subst h0; decide
  ·rw [if_pos (by omega), if_neg h]
theorem R_zero : R 0 = 0 := by decide
theorem Rep.neg {z : Int} (h : Rep z) : Rep (-z) := by obtain ⟨m, e, h1, h2⟩ := h; exact ⟨m, e, by rw [Int.natAbs_neg]; exact h1, h2⟩
theorem Rep_zero : Rep 0 := ⟨0, 0, rfl, by decide⟩
theorem R_rep {z : Int} (h : Rep z) : R z = z := by
 obtain ⟨m, e, h1, h2⟩ := h
 unfold R
 rw [rnd_exact h1 h2]
 split <;> omega
theorem rnd_rep (v : Nat) : ∃ m e : Nat, rnd v = m * 2 ^ e ∧ m < 2 ^ 53 := by
 by_cases h0 : v = 0
 ·subst h0; exact ⟨0, 0, by decide, by decide⟩
 ·obtain ⟨k, h1, h2, _, _⟩ := rnd_shape v h0
  by_cases hk : k = 2 ^ 53
  ·refine ⟨2 ^ 52, v.log2 - 52 + 1, ?_, by decide⟩
   rw [h1, hk, Nat.pow_succ 2 (v.log2 - 52), show (2 : Nat) ^ 53 = 2 ^ 52 * 2 from rfl, Nat.mul_assoc, Nat.mul_comm 2]
  ·exact ⟨k, _, h1, by omega⟩
theorem Rep_R (z : Int) : Rep (R z) := by
 obtain ⟨m, e, h1, h2⟩ := rnd_rep z.natAbs
 refine ⟨m, e, ?_, h2⟩
 rw [← h1]; unfold R; split <;> omega
theorem fval_rep (b : Nat) : Rep (fval b) := ⟨fsig b, fpl b, by
 rw [← fmag_sig]; unfold fval; split <;> omega, fsig_lt b⟩
theorem rep_of_grid {z : Int} {k : Nat} (h : (2 : Int) ^ k ∣ z) (hb : z.natAbs ≤ 2 ^ (k + 53)) : Rep z := by
 obtain ⟨c, rfl⟩ := h
 have h1 : ((2 : Int) ^ k * c).natAbs = c.natAbs * 2 ^ k := by rw [Int.natAbs_mul, Int.natAbs_pow, Nat.mul_comm]; rfl
 rw [h1, Nat.pow_add, Nat.mul_comm] at hb
 have h2 := Nat.le_of_mul_le_mul_left hb (Nat.two_pow_pos k)
 by_cases hc : c.natAbs = 2 ^ 53
 ·refine ⟨2 ^ 52, k + 1, ?_, by decide⟩
  rw [h1, hc, Nat.pow_succ 2 k, show (2 : Nat) ^ 53 = 2 ^ 52 * 2 from rfl, Nat.mul_assoc, Nat.mul_comm 2]
 ·exact ⟨c.natAbs, k, h1, by omega⟩
theorem grid_of_rep {z : Int} {k : Nat} (h : Rep z) (hb : 2 ^ (k + 52) ≤ z.natAbs) : (2 : Int) ^ k ∣ z := by
 obtain ⟨m, e, h1, h2⟩ := h
 have hke : k ≤ e := by
  apply Classical.byContradiction
  intro hlt
  have : m * 2 ^ e < 2 ^ 53 * 2 ^ e := Nat.mul_lt_mul_of_pos_right h2 (Nat.two_pow_pos e)
  rw [← Nat.pow_add] at this
  have h3 : 2 ^ (53 + e) ≤ 2 ^ (k + 52) := Nat.pow_le_pow_right (by decide) (by omega)
  rw [← h1] at this
  omega
 rw [← Int.dvd_natAbs, h1]
 have := Int.ofNat_dvd.2 (Nat.dvd_trans (Nat.pow_dvd_pow 2 hke) (Nat.dvd_mul_left (2 ^ e) m))
 rw [Int.natCast_pow] at this; exact this
theorem grid_exists (z : Int) : ∃ k : Nat, z.natAbs < 2 ^ (k + 53) ∧ (k = 0 ∨ 2 ^ (k + 52) ≤ z.natAbs) := by
 by_cases h0 : z.natAbs = 0
 ·exact ⟨0, by rw [h0]; decide, .inl rfl⟩
 ·refine ⟨z.natAbs.log2 - 52, ?_, ?_⟩
  ·exact Nat.lt_of_lt_of_le Nat.lt_log2_self (Nat.pow_le_pow_right (by decide) (by omega))
  ·rcases Nat.eq_zero_or_pos (z.natAbs.log2 - 52) with h | h
   ·exact .inl h
   ·refine .inr ?_
    rw [show z.natAbs.log2 - 52 + 52 = z.natAbs.log2 from by omega]
    exact Nat.log2_self_le h0
theorem one_dvd' (z : Int) : (2 : Int) ^ 0 ∣ z := by simp
theorem grid_le {z : Int} {k : Nat} (h : Rep z) (hk : k = 0 ∨ 2 ^ (k + 52) ≤ z.natAbs) : (2 : Int) ^ k ∣ z := by
 rcases hk with rfl | hk
 ·exact one_dvd' z
 ·exact grid_of_rep h hk
theorem rnd_grid {v k : Nat} (h : 2 ^ k ∣ v) : 2 ^ k ∣ rnd v := by
 by_cases h0 : v = 0
 ·subst h0; rw [show rnd 0 = 0 from by decide]; exact Nat.dvd_zero _
 ·obtain ⟨c, h1, _, _, _⟩ := rnd_shape v h0
  rcases Nat.le_total k (v.log2 - 52) with hle | hle
  ·rw [h1]; exact Nat.dvd_trans (Nat.pow_dvd_pow 2 hle) (Nat.dvd_mul_left _ _)
  ·obtain ⟨m, hm⟩ := h
   have hv : v < 2 ^ (v.log2 - 52 + 53) := Nat.lt_of_lt_of_le Nat.lt_log2_self (Nat.pow_le_pow_right (by decide) (by omega))
   have hm2 : m < 2 ^ 53 := by
    have : 2 ^ k * m < 2 ^ k * 2 ^ 53 := by
     rw [← hm, ← Nat.pow_add]; exact Nat.lt_of_lt_of_le hv (Nat.pow_le_pow_right (by decide) (by omega))
    exact Nat.lt_of_mul_lt_mul_left this
   rw [rnd_exact (m := m) (e := k) (by rw [Nat.mul_comm]; exact hm) hm2, hm]
   exact Nat.dvd_mul_right _ _
theorem R_grid {z : Int} {k : Nat} (h : (2 : Int) ^ k ∣ z) : (2 : Int) ^ k ∣ R z := by
 have h1 : 2 ^ k ∣ z.natAbs := by
  have := Int.natAbs_dvd_natAbs.2 h
  rw [Int.natAbs_pow] at this; exact this
 have h2 := Int.ofNat_dvd.2 (rnd_grid h1)
 rw [Int.natCast_pow] at h2
 unfold R; split
 ·exact Int.dvd_neg.2 h2
 ·exact h2
theorem rnd_err (v : Nat) : 2 * ((rnd v : Int) - v).natAbs ≤ 2 ^ (v.log2 - 52) := by
 unfold rnd
 have hp := Nat.two_pow_pos (v.log2 - 52)
 have h1 := Nat.div_add_mod v (2 ^ (v.log2 - 52))
 have h2 := Nat.mod_lt v hp
 rw [Nat.mul_comm] at h1
 simp only
 generalize hq : v / 2 ^ (v.log2 - 52) = q at *
 generalize v % 2 ^ (v.log2 - 52) = r at *
 generalize 2 ^ (v.log2 - 52) = s at *
 split
 ·rw [Nat.add_mul, Nat.one_mul]
  generalize q * s = t at *
  omega
 ·rw [Nat.add_zero]
  generalize q * s = t at *
  omega
theorem R_err_abs (z : Int) : (R z - z).natAbs = ((rnd z.natAbs : Int) - z.natAbs).natAbs := by unfold R; split <;> omega
theorem R_err {z : Int} {k : Nat} (h : z.natAbs < 2 ^ (k + 53)) : 2 * (R z - z).natAbs ≤ 2 ^ k := by
 rw [R_err_abs]
 refine Nat.le_trans (rnd_err _) (Nat.pow_le_pow_right (by decide) ?_)
 by_cases h0 : z.natAbs = 0
 ·rw [h0]; simp
 ·have := (Nat.log2_lt h0).2 h
  omega
theorem R_near (z : Int) {u : Int} (hu : Rep u) : (R z - z).natAbs ≤ (u - z).natAbs := by
 obtain ⟨k, h1, h2⟩ := grid_exists z
 have hg : (2 : Int) ^ k ∣ R z := by
  rcases h2 with h | h
  ·subst h; exact one_dvd' _
  ·by_cases h0 : z.natAbs = 0
   ·rw [h0] at h; have := Nat.two_pow_pos (k + 52); omega
   ·obtain ⟨c, e1, _, _, _⟩ := rnd_shape z.natAbs h0
    have hl : z.natAbs.log2 - 52 = k := by
     have a := (Nat.log2_lt h0).2 h1
     have b := (Nat.le_log2 h0).2 h
     omega
    rw [hl] at e1
    have : (2 : Int) ^ k ∣ (rnd z.natAbs : Int) := by rw [e1]; exact ⟨c, by simp [Int.mul_comm]⟩
    unfold R; split
    ·exact Int.dvd_neg.2 this
    ·exact this
 have he := R_err h1
 have hp : (0 : Int) < 2 ^ k := Int.pow_pos (by decide)
 have far : ∀ y : Int, (2 : Int) ^ k ∣ y → (R z - z).natAbs ≤ (y - z).natAbs := by
  intro y hy
  by_cases hE : y = R z
  ·rw [hE]; exact Nat.le_refl _
  ·obtain ⟨c, hc⟩ := Int.dvd_sub hy hg
   have hc0 : c ≠ 0 := by intro h; rw [h] at hc; omega
   have hc1 : 2 ^ k ≤ (y - R z).natAbs := by
    rw [hc, Int.natAbs_mul, Int.natAbs_pow]
    exact Nat.le_mul_of_pos_right _ (by omega)
   omega
 rcases h2 with h | h
 ·subst h; exact far u (one_dvd' u)
 ·by_cases hub : 2 ^ (k + 52) ≤ u.natAbs
  ·exact far u (grid_of_rep hu hub)
  ·
   have hd : (2 : Int) ^ k ∣ 2 ^ (k + 52) := ⟨2 ^ 52, by rw [Int.pow_add]⟩
   have hc : ((2 ^ (k + 52) : Nat) : Int) = 2 ^ (k + 52) := by simp
   by_cases hz : z < 0
   ·have := far (-(2 ^ (k + 52))) (Int.dvd_neg.2 hd)
    omega
   ·have := far (2 ^ (k + 52)) hd
    omega
theorem R_ge {z u : Int} (hu : Rep u) (h : u ≤ z) : u ≤ R z := by
 have := R_near z hu
 omega
theorem R_le {z u : Int} (hu : Rep u) (h : z ≤ u) : R z ≤ u := by
 have := R_near z hu
 omega
theorem R_eq_zero {z : Int} (h : R z = 0) : z = 0 := by
 have h1 : Rep (if z < 0 then -1 else 1) := by split <;> exact ⟨1, 0, by decide, by decide⟩
 by_cases hz : z = 0
 ·exact hz
 ·by_cases hn : z < 0
  ·rw [if_pos hn] at h1; have := R_le (z := z) h1 (by omega); omega
  ·rw [if_neg hn] at h1; have := R_ge (z := z) h1 (by omega); omega
theorem R_two (z : Int) : R (2 * z) = 2 * R z := by
 unfold R
 rw [show (2 * z).natAbs = 2 * z.natAbs from by omega, rnd_two]
 by_cases h : z < 0
 ·rw [if_pos h, if_pos (by omega)]; omega
 ·rw [if_neg h, if_neg (by omega)]; omega
theorem sum_rest {a b : Int} (ha : Rep a) (hb : Rep b) : Rep (a + b - R (a + b)) ∧ (a + b - R (a + b)).natAbs ≤ a.natAbs ∧ (a + b - R (a + b)).natAbs ≤ b.natAbs := by
 have n1 := R_near (a + b) hb
 have n2 := R_near (a + b) ha
 refine ⟨?_, by omega, by omega⟩
 have key : ∀ c d : Int, Rep c → Rep d → c + d = a + b → c.natAbs ≤ d.natAbs → Rep (a + b - R (a + b)) := by
  intro c d hc hd hs hle
  obtain ⟨k, k1, k2⟩ := grid_exists c
  have g1 := grid_le hc k2
  have g2 : (2 : Int) ^ k ∣ d := grid_le hd (k2.imp id (fun h => Nat.le_trans h hle))
  have g3 : (2 : Int) ^ k ∣ a + b := hs ▸ Int.dvd_add g1 g2
  refine rep_of_grid (Int.dvd_sub g3 (R_grid g3)) ?_
  have n3 := R_near (a + b) hd
  have : (a + b - R (a + b)).natAbs ≤ c.natAbs := by omega
  omega
 rcases Nat.le_total a.natAbs b.natAbs with h | h
 ·exact key a b ha hb rfl h
 ·exact key b a hb ha (Int.add_comm _ _) h
theorem sterbenz {x a : Int} (hx : Rep x) (ha : Rep a) (h1 : (x - a).natAbs ≤ x.natAbs) (h2 : (x - a).natAbs ≤ a.natAbs) : Rep (x - a) := by
 rcases Nat.le_total x.natAbs a.natAbs with h | h
 ·obtain ⟨k, k1, k2⟩ := grid_exists x
  refine rep_of_grid (Int.dvd_sub (grid_le hx k2) (grid_le ha (k2.imp id (fun z => Nat.le_trans z h)))) ?_
  omega
 ·obtain ⟨k, k1, k2⟩ := grid_exists a
  refine rep_of_grid (Int.dvd_sub (grid_le hx (k2.imp id (fun z => Nat.le_trans z h))) (grid_le ha k2)) ?_
  omega
theorem Rep.two {a : Int} (h : Rep a) : Rep (2 * a) := by
 obtain ⟨m, e, h1, h2⟩ := h
 exact ⟨m, e + 1, by rw [Int.natAbs_mul, h1, Nat.pow_succ]; simp; rw [Nat.mul_comm (2 ^ e) 2, ← Nat.mul_assoc, ← Nat.mul_assoc, Nat.mul_comm m 2], h2⟩
theorem fast_pos {a b : Int} (ha : Rep a) (hb : Rep b) (h0 : 0 ≤ a) (h : b.natAbs ≤ a.natAbs) : Rep (R (a + b) - a) := by
 by_cases hneg : 0 ≤ b
 ·have h1 : a ≤ R (a + b) := R_ge ha (by omega)
  have h2 : R (a + b) ≤ 2 * a := R_le ha.two (by omega)
  exact sterbenz (Rep_R _) ha (by omega) (by omega)
 ·by_cases hs : 2 * b.natAbs ≤ a.natAbs
  ·have h2 : R (a + b) ≤ a := R_le ha (by omega)
   have h1 : a ≤ R (2 * (a + b)) := R_ge ha (by omega)
   rw [R_two] at h1
   exact sterbenz (Rep_R _) ha (by omega) (by omega)
  ·
   have he : Rep (a + b) := by
    have := sterbenz (x := a) (a := -b) ha hb.neg (by omega) (by omega)
    rwa [Int.sub_neg] at this
   rw [R_rep he, show a + b - a = b from by omega]
   exact hb
theorem fast {a b : Int} (ha : Rep a) (hb : Rep b) (h : b.natAbs ≤ a.natAbs) : Rep (R (a + b) - a) := by
 by_cases h0 : 0 ≤ a
 ·exact fast_pos ha hb h0 h
 ·have := fast_pos ha.neg hb.neg (by omega) (by omega)
  rw [show -a + -b = -(a + b) from by omega, R_neg] at this
  have h2 := this.neg
  rwa [show -(-R (a + b) - -a) = R (a + b) - a from by omega] at h2
theorem knuth {a b : Int} (ha : Rep a) (hb : Rep b) :
 R (R (a - R (R (a + b) - R (R (a + b) - a))) + R (b - R (R (a + b) - a))) = a + b - R (a + b) := by
 have hs := sum_rest ha hb
 by_cases h : b.natAbs ≤ a.natAbs
 ·have hf := fast ha hb h
  rw [R_rep hf, show R (a + b) - (R (a + b) - a) = a from by omega, R_rep ha, show a - a = 0 from by omega, R_zero, show b - (R (a + b) - a) = a + b - R (a + b) from by omega, R_rep hs.1, Int.zero_add, R_rep hs.1]
 ·by_cases hx : a.natAbs ≤ (R (a + b)).natAbs
  ·
   have hc1 := fast (Rep_R (a + b)) ha.neg (by omega)
   have hc2 := sum_rest (Rep_R (a + b)) ha.neg
   rw [← Int.sub_eq_add_neg] at hc1 hc2
   have hb1 := fast hb hs.1.neg (by omega)
   rw [show b + -(a + b - R (a + b)) = R (a + b) - a from by omega] at hb1
   generalize R (a + b) = x at *
   have hd : Rep (x - R (x - a)) := by
    have := hc1.neg
    rwa [show -(R (x - a) - x) = x - R (x - a) from by omega] at this
   rw [R_rep hd]
   have hp : Rep (a - (x - R (x - a))) := by
    have := hc2.1.neg
    rwa [show -(x - a - R (x - a)) = a - (x - R (x - a)) from by omega] at this
   rw [R_rep hp]
   have hq : Rep (b - R (x - a)) := by
    have := hb1.neg
    rwa [show -(R (x - a) - b) = b - R (x - a) from by omega] at this
   rw [R_rep hq, show a - (x - R (x - a)) + (b - R (x - a)) = a + b - x from by omega]
   exact R_rep hs.1
  ·
   have he : Rep (a + b) := by
    obtain ⟨k, k1, k2⟩ := grid_exists a
    refine rep_of_grid (Int.dvd_add (grid_le ha k2) (grid_le hb (k2.imp id (fun z => by omega)))) ?_
    have hle : (a + b).natAbs ≤ a.natAbs := by
     apply Classical.byContradiction
     intro hgt
     by_cases hpos : 0 ≤ a + b
     ·have : Rep (a.natAbs : Int) := by obtain ⟨m, e, h1, h2⟩ := ha; exact ⟨m, e, h1, h2⟩
      have := R_ge this (show (a.natAbs : Int) ≤ a + b by omega)
      omega
     ·have : Rep (-(a.natAbs : Int)) := by obtain ⟨m, e, h1, h2⟩ := ha; exact ⟨m, e, by omega, h2⟩
      have := R_le this (show a + b ≤ -(a.natAbs : Int) by omega)
      omega
    omega
   rw [R_rep he, show a + b - a = b from by omega, R_rep hb, show a + b - b = a from by omega, R_rep ha, show a - a = 0 from by omega, show b - b = 0 from by omega, R_zero, show a + b - (a + b) = 0 from by omega]
   decide
open Go.Proofs.YtaoichlepfiliaaGreatDoor.FltP
theorem R_scale (k : Nat) (z : Int) : R (2 ^ k * z) = 2 ^ k * R z := by
 induction k with
 | zero => simp
 | succ k ih => rw [Int.pow_succ, Int.mul_comm _ 2, Int.mul_assoc, R_two, ih, ← Int.mul_assoc]
theorem rep_small {z : Int} (h : z.natAbs ≤ 2 ^ 53) : Rep z := rep_of_grid (k := 0) (one_dvd' z) (by simpa using h)
theorem rep_at {z : Int} (k : Nat) (h : (2 : Int) ^ k ∣ z) (hb : z.natAbs ≤ 2 ^ (k + 53)) : Rep z := rep_of_grid h hb
theorem veltkamp_pos {A : Int} (h1 : 2 ^ 52 ≤ A) (h2 : A < 2 ^ 53) :
 ∃ x y : Int, R (R (134217729 * A) - R (R (134217729 * A) - A)) = x ∧ R (A - x) = y ∧ x + y = A ∧ (2 : Int) ^ 27 ∣ x ∧ y.natAbs ≤ 2 ^ 26 ∧ x.natAbs ≤ 2 ^ 53 := by
 have g1 : (134217729 * A).natAbs < 2 ^ (28 + 53) := by omega
 have e1 := R_err g1
 have gc : (2 : Int) ^ 27 ∣ R (134217729 * A) := by
  have hge : (2 : Int) ^ 79 ≤ R (134217729 * A) := R_ge (rep_at 27 (by decide) (by decide)) (by omega)
  exact grid_of_rep (Rep_R _) (by omega)
 have ec : A = 2 ^ 52 → R (134217729 * A) = 134217729 * A := by
  intro h; subst h; exact R_rep (rep_at 27 (by decide) (by decide))
 have e1' : 134217729 * A < 2 ^ 80 → 2 * (R (134217729 * A) - 134217729 * A).natAbs ≤ 2 ^ 27 := fun h => R_err (k := 27) (by omega)
 generalize R (134217729 * A) = c at *
 have ht1 : (2 : Int) ^ 79 ≤ c - A := by
  by_cases hA : A = 2 ^ 52
  ·have := ec hA; subst hA; omega
  ·by_cases hs : 134217729 * A < 2 ^ 80
   ·have := e1' hs; omega
   ·omega
 have ht2 : c - A ≤ 2 ^ 80 := by
  by_cases hs : 134217729 * A < 2 ^ 80
  ·have := e1' hs; omega
  ·omega
 have e2 : 2 * (R (c - A) - (c - A)).natAbs ≤ 2 ^ 27 := by
  by_cases he : c - A = 2 ^ 80
  ·rw [he, R_rep (rep_at 27 (by decide) (by decide))]; decide
  ·exact R_err (k := 27) (by omega)
 have gt : (2 : Int) ^ 27 ∣ R (c - A) := by
  have hge : (2 : Int) ^ 79 ≤ R (c - A) := R_ge (rep_at 27 (by decide) (by decide)) ht1
  exact grid_of_rep (Rep_R _) (by omega)
 generalize R (c - A) = t at *
 have gx := Int.dvd_sub gc gt
 have hx : Rep (c - t) := rep_at 27 gx (by omega)
 rw [R_rep hx]
 have hy : (A - (c - t)).natAbs ≤ 2 ^ 26 := by omega
 refine ⟨_, _, rfl, rfl, ?_, gx, ?_, ?_⟩
 ·rw [R_rep (rep_small (by omega))]; omega
 ·rw [R_rep (rep_small (by omega))]; exact hy
 ·obtain ⟨d, hd⟩ := gx
  omega
theorem veltkamp {A : Int} (h1 : 2 ^ 52 ≤ A.natAbs) (h2 : A.natAbs < 2 ^ 53) :
 ∃ x y : Int, R (R (134217729 * A) - R (R (134217729 * A) - A)) = x ∧ R (A - x) = y ∧ x + y = A ∧ (2 : Int) ^ 27 ∣ x ∧ y.natAbs ≤ 2 ^ 26 ∧ x.natAbs ≤ 2 ^ 53 := by
 by_cases h : 0 ≤ A
 ·exact veltkamp_pos (by omega) (by omega)
 ·obtain ⟨x, y, a1, a2, a3, a4, a5, a6⟩ := veltkamp_pos (A := -A) (by omega) (by omega)
  refine ⟨-x, -y, ?_, ?_, by omega, Int.dvd_neg.2 a4, by omega, by omega⟩
  ·rw [← a1, show 134217729 * -A = -(134217729 * A) from by omega, R_neg, show -R (134217729 * A) - -A = -(R (134217729 * A) - A) from by omega, R_neg, show -R (134217729 * A) - -R (R (134217729 * A) - A) = -(R (134217729 * A) - R (R (134217729 * A) - A)) from by omega, R_neg, Int.neg_neg]
  ·rw [← a2, show -A - x = -(A - -x) from by omega, R_neg, Int.neg_neg]
theorem dekker {A B p q r s : Int} (hA1 : 2 ^ 52 ≤ A.natAbs) (hA2 : A.natAbs < 2 ^ 53) (hB1 : 2 ^ 52 ≤ B.natAbs) (hB2 : B.natAbs < 2 ^ 53) (ha : p + q = A) (hb : r + s = B)
 (gp : (2 : Int) ^ 27 ∣ p) (hq : q.natAbs ≤ 2 ^ 26) (hp : p.natAbs ≤ 2 ^ 53) (gr : (2 : Int) ^ 27 ∣ r) (hs : s.natAbs ≤ 2 ^ 26) (hr : r.natAbs ≤ 2 ^ 53) :
 R (p * r) = p * r ∧ R (q * r) = q * r ∧ R (p * s) = p * s ∧ R (q * s) = q * s ∧ R (R (A * B) - p * r) = R (A * B) - p * r ∧ R (R (A * B) - p * r - q * r) = R (A * B) - p * r - q * r ∧
 R (R (A * B) - p * r - q * r - p * s) = R (A * B) - p * r - q * r - p * s ∧ R (q * s - (R (A * B) - p * r - q * r - p * s)) = A * B - R (A * B) := by
 have bpr : (p * r).natAbs ≤ 2 ^ 106 := by rw [Int.natAbs_mul]; exact Nat.le_trans (Nat.mul_le_mul hp hr) (by decide)
 have bqr : (q * r).natAbs ≤ 2 ^ 79 := by rw [Int.natAbs_mul]; exact Nat.le_trans (Nat.mul_le_mul hq hr) (by decide)
 have bps : (p * s).natAbs ≤ 2 ^ 79 := by rw [Int.natAbs_mul]; exact Nat.le_trans (Nat.mul_le_mul hp hs) (by decide)
 have bqs : (q * s).natAbs ≤ 2 ^ 52 := by rw [Int.natAbs_mul]; exact Nat.le_trans (Nat.mul_le_mul hq hs) (by decide)
 have gpr : (2 : Int) ^ 54 ∣ p * r := by
  have := Int.mul_dvd_mul gp gr
  rwa [← Int.pow_add] at this
 have gqr : (2 : Int) ^ 27 ∣ q * r := Int.dvd_trans gr (Int.dvd_mul_left _ _)
 have gps : (2 : Int) ^ 27 ∣ p * s := Int.dvd_trans gp (Int.dvd_mul_right _ _)
 have hAB : A * B = p * r + q * r + p * s + q * s := by rw [← ha, ← hb]; grind
 have bAB1 : 2 ^ 104 ≤ (A * B).natAbs := by rw [Int.natAbs_mul]; exact Nat.le_trans (by decide) (Nat.mul_le_mul hA1 hB1)
 have bAB2 : (A * B).natAbs < 2 ^ (53 + 53) := by
  rw [Int.natAbs_mul]
  exact Nat.lt_of_le_of_lt (Nat.mul_le_mul (Nat.le_sub_one_of_lt hA2) (Nat.le_sub_one_of_lt hB2)) (by decide)
 have eX := R_err bAB2
 have gX : (2 : Int) ^ 52 ∣ R (A * B) := by
  refine grid_of_rep (Rep_R _) ?_
  have hrep : Rep (2 ^ 104) := rep_at 52 (by decide) (by decide)
  by_cases hn : 0 ≤ A * B
  ·have := R_ge (z := A * B) hrep (by omega); omega
  ·have := R_le (z := A * B) hrep.neg (by omega); omega
 generalize R (A * B) = X at *
 generalize A * B = ab at *
 have d1 : (2 : Int) ^ 52 ∣ X - p * r := Int.dvd_sub gX (Int.dvd_trans (by decide) gpr)
 have d2 : (2 : Int) ^ 27 ∣ X - p * r - q * r := Int.dvd_sub (Int.dvd_trans (by decide) d1) gqr
 generalize p * r = pr at *
 generalize q * r = qr at *
 generalize p * s = ps at *
 generalize q * s = qs at *
 refine ⟨R_rep (rep_at 54 gpr (by omega)), R_rep (rep_at 27 gqr (by omega)), R_rep (rep_at 27 gps (by omega)), R_rep (rep_small (by omega)), R_rep (rep_at 52 d1 (by omega)), R_rep (rep_at 27 d2 (by omega)), R_rep (rep_small (by omega)), ?_⟩
 rw [show qs - (X - pr - qr - ps) = ab - X from by omega]
 exact R_rep (rep_small (by omega))
end Go.Proofs.YtaoichlepfiliaaGreatDoor.Rnd
namespace Go.Proofs.YtaoichlepfiliaaGreatDoor.FltP
set_option exponentiation.threshold 4000
open Go.RowKit Go.Proofs.YtaoichlepfiliaaGreatDoor.R Go.Proofs.YtaoichlepfiliaaGreatDoorW.PrintWords Go.Proofs.YtaoichlepfiliaaGreatDoorW.PrintLast Ieee
open Go.Proofs.YtaoichlepfiliaaGreatDoor.Rnd (R Rep)
theorem R_nat (n : Nat) : R (n : Int) = rnd n := by
 unfold Rnd.R; rw [if_neg (by omega)]; simp
theorem R_val (s : Bool) (n : Nat) : R (if s then -(n : Int) else n) = if s then -(rnd n : Int) else rnd n := by
 cases s
 ·exact R_nat n
 ·simp only [if_true]; rw [Rnd.R_neg, R_nat]
theorem R_natAbs (z : Int) : (R z).natAbs = rnd z.natAbs := by unfold Rnd.R; split <;> simp
theorem write_val (z : Int) (neg : Bool) (a : Nat) (hn : z < 0 → neg = true) (hp : 0 < z → neg = false) (hr : (R (z * 2 ^ a)).natAbs < 2 ^ 2098) : Fini (dbl.nearest neg z.natAbs (-1074 + a)) ∧ fval (dbl.nearest neg z.natAbs (-1074 + a)) = R (z * 2 ^ a) := by
 have e : (z * 2 ^ a).natAbs = z.natAbs * 2 ^ a := by rw [Int.natAbs_mul, Int.natAbs_pow]; rfl
 rw [R_natAbs, e] at hr
 obtain ⟨h1, h2, h3⟩ := nearest_val neg z.natAbs a hr
 refine ⟨h1, ?_⟩
 unfold fval
 rw [h2, h3]
 rcases Int.lt_trichotomy z 0 with h | h | h
 ·rw [hn h, show z * 2 ^ a = -((z.natAbs * 2 ^ a : Nat) : Int) from by rw [Int.natCast_mul, Int.natCast_pow, ← Int.neg_mul]; congr 1; omega, Rnd.R_neg, R_nat]; rfl
 ·subst h; rw [Int.zero_mul, Rnd.R_zero, show (0 : Int).natAbs * 2 ^ a = 0 from by simp, show rnd 0 = 0 from by decide]; simp
 ·rw [hp h, show z * 2 ^ a = ((z.natAbs * 2 ^ a : Nat) : Int) from by rw [Int.natCast_mul, Int.natCast_pow]; congr 1; omega, R_nat]; rfl
theorem scale_signed {s : Bool} {m k a : Nat} (h : a ≤ k) : signed s m (k - a) * 2 ^ a = signed s m k := by
 rw [← signed_scale, Nat.sub_add_cancel h]
theorem sum_val {s t : Bool} {m n i k : Nat} (hr : (R (signed s m i + signed t n k)).natAbs < 2 ^ 2098) :
 ∃ d, Datum.sum (.number s m (-1074 + (i : Int))) (.number t n (-1074 + (k : Int))) = some d ∧ Fini (dbl.write d) ∧ fval (dbl.write d) = R (signed s m i + signed t n k) := by
 simp only [Datum.sum]
 generalize hb : min i k = a
 have e1 : (-1074 + (i : Int) - min (-1074 + (i : Int)) (-1074 + (k : Int))).toNat = i - a := by omega
 have e2 : (-1074 + (k : Int) - min (-1074 + (i : Int)) (-1074 + (k : Int))).toNat = k - a := by omega
 have e3 : min (-1074 + (i : Int)) (-1074 + (k : Int)) = -1074 + (a : Int) := by omega
 rw [e1, e2, e3]
 have hS : (signed s m (i - a) + signed t n (k - a)) * 2 ^ a = signed s m i + signed t n k := by
  rw [Int.add_mul, scale_signed (by omega), scale_signed (by omega)]
 generalize signed s m (i - a) + signed t n (k - a) = z at hS
 rw [← hS] at hr ⊢
 refine ⟨_, rfl, ?_⟩
 refine write_val z _ a (fun h => ?_) (fun h => ?_) hr
 ·rw [if_neg (by omega)]; simpa using h
 ·rw [if_neg (by omega)]; simp; omega
theorem add_fin {x y : Nat} (hx : Fini x) (hy : Fini y) (hr : (R (fval x + fval y)).natAbs < 2 ^ 2098) : ∃ r, floatBits .add .f64 x y = some r ∧ Fini r ∧ fval r = R (fval x + fval y) := by
 rw [fval_eq x, fval_eq y] at hr ⊢
 obtain ⟨d, h1, h2, h3⟩ := sum_val hr
 unfold floatBits
 simp only [fmt_eq, Format.add, read_fin hx, read_fin hy, h1, Option.map_some]
 exact ⟨_, rfl, h2, h3⟩
theorem sub_fin {x y : Nat} (hx : Fini x) (hy : Fini y) (hr : (R (fval x - fval y)).natAbs < 2 ^ 2098) : ∃ r, floatBits .sub .f64 x y = some r ∧ Fini r ∧ fval r = R (fval x - fval y) := by
 have e : -signed (fsgn y) (fsig y) (fpl y) = signed (!fsgn y) (fsig y) (fpl y) := by rw [signed_eq, signed_eq]; cases fsgn y <;> simp
 rw [fval_eq x, fval_eq y, Int.sub_eq_add_neg, e] at hr ⊢
 obtain ⟨d, h1, h2, h3⟩ := sum_val hr
 unfold floatBits
 simp only [fmt_eq, Format.sub, read_fin hx, read_fin hy, Datum.opposite, h1, Option.map_some]
 exact ⟨_, rfl, h2, h3⟩
theorem fval_sgn (x : Nat) : fval x = if fsgn x then -(fmag x : Int) else fmag x := rfl
theorem fpl_ge {x k : Nat} (h : 2 ^ k ≤ fmag x) : k < 53 + fpl x := by
 have h1 := fsig_lt x
 rw [fmag_sig] at h
 have h2 : fsig x * 2 ^ fpl x < 2 ^ (53 + fpl x) := by rw [Nat.pow_add]; exact Nat.mul_lt_mul_of_pos_right h1 (Nat.two_pow_pos _)
 exact (Nat.pow_lt_pow_iff_right (by decide)).mp (Nat.lt_of_le_of_lt h h2)
theorem mul_fin {x y : Nat} {z : Int} (hx : Fini x) (hy : Fini y) (hpl : 1074 ≤ fpl x + fpl y ∨ fval x = 0 ∨ fval y = 0) (hz : fval x * fval y = z * 2 ^ 1074) (hr : (R z).natAbs < 2 ^ 2098) : ∃ r, floatBits .mul .f64 x y = some r ∧ Fini r ∧ fval r = R z := by
 have hp : (0 : Int) < 2 ^ 1074 := by decide
 have hpl' : 1074 ≤ fpl x + fpl y ∨ fsig x * fsig y = 0 := by
  rcases hpl with h | h | h
  ·exact .inl h
  ·right
   rw [fval_zero_iff, fmag_sig] at h
   rcases Nat.mul_eq_zero.mp h with h | h
   ·rw [h, Nat.zero_mul]
   ·have := Nat.two_pow_pos (fpl x); omega
  ·right
   rw [fval_zero_iff, fmag_sig] at h
   rcases Nat.mul_eq_zero.mp h with h | h
   ·rw [h, Nat.mul_zero]
   ·have := Nat.two_pow_pos (fpl y); omega
 generalize hM : fsig x * fsig y * 2 ^ (fpl x + fpl y - 1074) = M
 have hMM : fmag x * fmag y = M * 2 ^ 1074 := by
  rw [fmag_sig x, fmag_sig y, ← hM]
  rcases hpl' with h | h
  ·rw [Nat.mul_assoc (fsig x * fsig y), ← Nat.pow_add, Nat.sub_add_cancel h, Nat.pow_add]
   generalize 2 ^ fpl x = u
   generalize 2 ^ fpl y = v
   rw [Nat.mul_assoc, Nat.mul_assoc, Nat.mul_left_comm u]
  ·rw [h, Nat.zero_mul, Nat.zero_mul]
   rcases Nat.mul_eq_zero.mp h with h | h <;> rw [h] <;> simp
 have hzM : z = if (fsgn x ^^ fsgn y) then -(M : Int) else M := by
  have e : fval x * fval y = (if (fsgn x ^^ fsgn y) then -(M : Int) else M) * 2 ^ 1074 := by
   have hI : (fmag x : Int) * fmag y = M * 2 ^ 1074 := by rw [← Int.natCast_mul, hMM, Int.natCast_mul, Int.natCast_pow]; rfl
   rw [fval_sgn x, fval_sgn y]
   generalize (2 : Int) ^ 1074 = T at hI ⊢
   cases fsgn x <;> cases fsgn y <;> simp only [Bool.false_eq_true, if_false, if_true, Bool.xor_false, Bool.xor_true, Bool.not_false, Bool.not_true, Int.neg_mul, Int.mul_neg, Int.neg_neg, hI]
  rw [hz] at e
  exact Int.eq_of_mul_eq_mul_right (by omega) e
 have hRM : (R z).natAbs = rnd M := by
  rw [hzM, R_val]; split <;> simp
 obtain ⟨r, h1, h2, h3, h4⟩ := mul_val hx hy hpl' (by rw [hM, ← hRM]; exact hr)
 refine ⟨r, h1, h2, ?_⟩
 rw [fval_sgn r, h3, h4, hM, hzM, R_val]
set_option exponentiation.threshold 4000
open Go.RowKit Go.Proofs.YtaoichlepfiliaaGreatDoor.R Go.Proofs.YtaoichlepfiliaaGreatDoorW.PrintWords Go.Proofs.YtaoichlepfiliaaGreatDoorW.PrintLast Ieee
theorem mask_exp64 {a : Nat} (h : a < 2 ^ 64) : bits .andNot .u64 (fbits a) 9218868437227405312 = ((a % 2 ^ 52 + a / 2 ^ 63 * 2 ^ 63 : Nat) : Int) := by
 have e : (BitVec.ofInt 64 (fbits a) &&& ~~~ BitVec.ofInt 64 9218868437227405312).toNat = a % 2 ^ 52 + a / 2 ^ 63 * 2 ^ 63 := by
  apply Nat.eq_of_testBit_eq
  intro i
  have ha : BitVec.ofInt 64 (fbits a) = BitVec.ofNat 64 a := by unfold fbits; simp
  have hm : BitVec.ofInt 64 9218868437227405312 = BitVec.ofNat 64 ((2 ^ 11 - 1) <<< 52) := by decide
  rw [ha, hm, BitVec.testBit_toNat, BitVec.getLsbD_and, BitVec.getLsbD_not, BitVec.getLsbD_ofNat, BitVec.getLsbD_ofNat, Nat.testBit_shiftLeft, Nat.testBit_two_pow_sub_one, show a % 2 ^ 52 + a / 2 ^ 63 * 2 ^ 63 = 2 ^ 63 * (a / 2 ^ 63) + a % 2 ^ 52 from by omega, Nat.testBit_two_pow_mul_add _ (show a % 2 ^ 52 < 2 ^ 63 from by omega), Nat.testBit_mod_two_pow, Nat.testBit_div_two_pow]
  by_cases h1 : i < 52
  ·have h2 : i < 63 := by omega
   have h3 : i < 64 := by omega
   have h4 : ¬ 52 ≤ i := by omega
   simp [h1, h2, h3, h4]
  ·by_cases h2 : i < 63
   ·have h3 : i < 64 := by omega
    have h4 : 52 ≤ i := by omega
    have h5 : i - 52 < 11 := by omega
    simp [h1, h2, h3, h4, h5]
   ·by_cases h3 : i < 64
    ·have h5 : ¬ i - 52 < 11 := by omega
     rw [if_neg h2, show i - 63 + 63 = i from by omega]
     simp [h3, h5]
    ·rw [if_neg h2, show i - 63 + 63 = i from by omega]
     have : a.testBit i = false := Nat.testBit_lt_two_pow (Nat.lt_of_lt_of_le h (Nat.pow_le_pow_right (by decide) (by omega)))
     simp [h3, this]
 unfold bits
 show IntKind.u64.wrap (((BitVec.ofInt 64 (fbits a) &&& ~~~ BitVec.ofInt 64 9218868437227405312).toNat : Nat) : Int) = _
 rw [e]
 simp only [IntKind.wrap]; simp [IntKind.signed, IntKind.bits]; omega
theorem of_nat (n : Nat) : BitVec.ofInt 64 (n : Int) = BitVec.ofNat 64 n := by simp
theorem field_i64 {a : Nat} (h : a < 2 ^ 64) : bits .and .i64 (wrap64 ((fbits a) / 4503599627370496)) 2047 = ((a / 2 ^ 52 % 2048 : Nat) : Int) := by
 have h2 : wrap64 ((fbits a) / 4503599627370496) = ((a / 2 ^ 52 : Nat) : Int) := by unfold fbits wrap64; omega
 rw [h2]
 have e : (BitVec.ofInt 64 ((a / 2 ^ 52 : Nat) : Int) &&& BitVec.ofInt 64 2047).toNat = a / 2 ^ 52 % 2048 := by
  have ha : BitVec.ofInt 64 ((a / 2 ^ 52 : Nat) : Int) = BitVec.ofNat 64 (a / 2 ^ 52) := of_nat _
  have hm : BitVec.ofInt 64 2047 = BitVec.ofNat 64 (2 ^ 11 - 1) := by decide
  rw [ha, hm, BitVec.toNat_and, BitVec.toNat_ofNat, BitVec.toNat_ofNat, Nat.mod_eq_of_lt (by omega), Nat.mod_eq_of_lt (by omega), Nat.and_two_pow_sub_one_eq_mod]
 unfold bits
 show IntKind.i64.wrap (((BitVec.ofInt 64 ((a / 2 ^ 52 : Nat) : Int) &&& BitVec.ofInt 64 2047).toNat : Nat) : Int) = _
 rw [e]
 simp only [IntKind.wrap]; simp [IntKind.signed, IntKind.bits]; omega
theorem join_exp {m s F : Nat} (hm : m < 2 ^ 52) (hs : s ≤ 1) (hF : F < 2048) : bits .or .u64 ((m + s * 2 ^ 63 : Nat) : Int) ((F * 2 ^ 52 : Nat) : Int) = ((m + F * 2 ^ 52 + s * 2 ^ 63 : Nat) : Int) := by
 have e : (BitVec.ofInt 64 ((m + s * 2 ^ 63 : Nat) : Int) ||| BitVec.ofInt 64 ((F * 2 ^ 52 : Nat) : Int)).toNat = m + F * 2 ^ 52 + s * 2 ^ 63 := by
  rw [of_nat, of_nat, BitVec.toNat_or, BitVec.toNat_ofNat, BitVec.toNat_ofNat, Nat.mod_eq_of_lt (by omega), Nat.mod_eq_of_lt (by omega)]
  have h1 : m + s * 2 ^ 63 = 2 ^ 52 * (2 ^ 11 * s) ||| m := by rw [← Nat.two_pow_add_eq_or_of_lt hm]; omega
  have h2 : 2 ^ 11 * s ||| F = 2 ^ 11 * s + F := by rw [← Nat.two_pow_add_eq_or_of_lt (show F < 2 ^ 11 from hF)]
  rw [h1, Nat.or_assoc, Nat.or_comm m, ← Nat.or_assoc, show 2 ^ 52 * (2 ^ 11 * s) = (2 ^ 11 * s) <<< 52 from by rw [Nat.shiftLeft_eq, Nat.mul_comm], show F * 2 ^ 52 = F <<< 52 from by rw [Nat.shiftLeft_eq], ← Nat.shiftLeft_or_distrib, h2, Nat.shiftLeft_eq, Nat.mul_comm _ (2 ^ 52), ← Nat.two_pow_add_eq_or_of_lt hm]
  rw [Nat.shiftLeft_eq]; omega
 unfold bits
 show IntKind.u64.wrap (((BitVec.ofInt 64 ((m + s * 2 ^ 63 : Nat) : Int) ||| BitVec.ofInt 64 ((F * 2 ^ 52 : Nat) : Int)).toNat : Nat) : Int) = _
 rw [e]
 have : (m + F * 2 ^ 52 + s * 2 ^ 63) < 2 ^ 64 := by omega
 generalize m + F * 2 ^ 52 + s * 2 ^ 63 = y at *
 simp only [IntKind.wrap]; simp [IntKind.signed, IntKind.bits]; omega
theorem not_inf {y : Nat} (hy : Fini y) : math_IsInf.f y 0 = some false := by
 have hmx : Fini 9218868437227405311 := ⟨by decide, by decide⟩
 unfold math_IsInf.f
 rw [if_pos rfl, abs_some hy.2]; simp only [Option.bind_some]
 rw [gt_fin hy.pos hmx, fval_nonneg (b := y % 2 ^ 63) (by omega), fval_nonneg (b := 9218868437227405311) (by decide), fmag_pos]
 refine congrArg some (decide_eq_false ?_)
 have hb : fmag 9218868437227405311 = (2 ^ 53 - 1) * 2 ^ 2045 := by
  rw [fmag_sig, show fsig 9218868437227405311 = 2 ^ 53 - 1 from by decide, show fpl 9218868437227405311 = 2045 from by decide]
 rw [hb, fmag_sig]
 have h1 := fsig_lt y
 have h2 := hy.fpl_le
 have h3 : fsig y * 2 ^ fpl y ≤ (2 ^ 53 - 1) * 2 ^ 2045 := Nat.mul_le_mul (by omega) (Nat.pow_le_pow_right (by decide) h2)
 intro hh
 exact absurd h3 (Nat.not_le.2 (Int.ofNat_lt.1 hh))
theorem not_nan {y : Nat} (hy : Fini y) : math_IsNaN.f y = some false := by
 unfold math_IsNaN.f; rw [bne, eq_fin hy hy]; simp
def ldw (x : Nat) (F : Nat) : Nat := x % 2 ^ 52 + F * 2 ^ 52 + x / 2 ^ 63 * 2 ^ 63
theorem ldw_facts {x F : Nat} (hx : Fini x) (h1 : 2 ^ 52 ≤ x % 2 ^ 63) (hF1 : 1 ≤ F) (hF2 : F ≤ 2046) : Fini (ldw x F) ∧ fsig (ldw x F) = fsig x ∧ fpl (ldw x F) = F - 1 ∧ fsgn (ldw x F) = fsgn x := by
 have hx2 := hx.2
 have hs : x / 2 ^ 63 ≤ 1 := by omega
 have e1 : ldw x F % 2 ^ 63 = x % 2 ^ 52 + F * 2 ^ 52 := by unfold ldw; omega
 have e2 : ldw x F / 2 ^ 63 = x / 2 ^ 63 := by unfold ldw; omega
 have e3 : ldw x F % 2 ^ 52 = x % 2 ^ 52 := by unfold ldw; omega
 refine ⟨⟨by rw [e1]; omega, by unfold ldw; omega⟩, ?_, ?_, ?_⟩
 ·unfold fsig; rw [e1, e3, if_neg (by omega), if_neg (by omega)]
 ·unfold fpl; rw [e1]; omega
 ·unfold fsgn; rw [e2]
theorem ldexp_norm {x F : Nat} {e : Int} (hx : Fini x) (h1 : 2 ^ 52 ≤ x % 2 ^ 63) (hF : ((x % 2 ^ 63 / 2 ^ 52 : Nat) : Int) + e = F) (hF1 : 53 ≤ F) (hF2 : F ≤ 2046) :
 ∃ r, math_Ldexp.f x e = some r ∧ Fini r ∧ fval r = fval (ldw x F) := by
 obtain ⟨l1, l2, l3, l4⟩ := ldw_facts hx h1 (by omega) hF2
 have hm : fmag x ≠ 0 := by unfold fmag; rw [if_neg (by omega)]; have := Nat.two_pow_pos (x % 2 ^ 63 / 2 ^ 52 - 1); exact Nat.mul_ne_zero (by omega) (by omega)
 have c0 : (FloatKind.f64.format.order x 0 == some .eq) = false := by
  rw [eq_fin hx ⟨by decide, by decide⟩, show fval 0 = 0 from by decide]
  refine decide_eq_false ?_
  rw [fval_zero_iff]; exact hm
 have hn : math_normalize.f x = some (x, 0) := by
  unfold math_normalize.f
  rw [abs_some hx.2]; simp only [Option.bind_some]
  rw [lt_fin hx.pos (y := 4503599627370496) ⟨by decide, by decide⟩, fval_nonneg (b := x % 2 ^ 63) (by omega), fval_nonneg (b := 4503599627370496) (by decide), fmag_pos, show fmag 4503599627370496 = 2 ^ 52 from by decide]
  have : 2 ^ 52 ≤ fmag x := by
   unfold fmag; rw [if_neg (by omega)]
   exact Nat.le_trans (Nat.le_add_right _ _) (Nat.le_mul_of_pos_right _ (Nat.two_pow_pos _))
  rw [if_neg (by simp; omega)]
 have hE : x / 2 ^ 52 % 2048 = x % 2 ^ 63 / 2 ^ 52 := by omega
 have hone : Fini 4607182418800017408 := ⟨by decide, by decide⟩
 have hr : Rnd.R (fval (ldw x F)) = fval (ldw x F) := Rnd.R_rep (Rnd.fval_rep _)
 obtain ⟨r, r1, r2, r3⟩ := mul_fin (z := fval (ldw x F)) hone l1 (.inl (by rw [l3, show fpl 4607182418800017408 = 1022 from by decide]; omega)) (by rw [show fval 4607182418800017408 = 2 ^ 1074 from by decide +kernel, Int.mul_comm]) (by rw [hr, natAbs_fval]; exact l1.lt)
 rw [hr] at r3
 refine ⟨r, ?_, r2, r3⟩
 unfold math_Ldexp.f math_ldexp.f
 rw [if_neg (by rw [c0]; decide), not_inf hx]; simp only [Option.bind_some]
 rw [if_neg (by decide), not_nan hx]; simp only [Option.bind_some]
 rw [if_neg (by decide), hn]; simp only [Option.bind_some]
 rw [field_i64 hx.2, hE]
 have hx2 := hx.2
 have hx1 := hx.1
 have hj := join_exp (m := x % 2 ^ 52) (s := x / 2 ^ 63) (F := F) (by omega) (by omega) (by omega)
 generalize x % 2 ^ 63 / 2 ^ 52 = E at *
 have hEb : E ≤ 2046 := by omega
 have w1 : wrap64 (e + 0) = e := w64' (by omega) (by omega) (by omega)
 have w2 : wrap64 ((E : Int) - 1023) = (E : Int) - 1023 := w64' rfl (by omega) (by omega)
 have w3 : wrap64 (e + ((E : Int) - 1023)) = (F : Int) - 1023 := w64' (by omega) (by omega) (by omega)
 have w4 : wrap64 ((F : Int) - 1023 + 1023) = F := w64' (by omega) (by omega) (by omega)
 have w5 : IntKind.u64.wrap (F : Int) = F := by simp only [IntKind.wrap]; simp [IntKind.signed, IntKind.bits]; omega
 have w6 : IntKind.u64.wrap ((F : Int) * 4503599627370496) = ((F * 2 ^ 52 : Nat) : Int) := by simp only [IntKind.wrap]; simp [IntKind.signed, IntKind.bits]; omega
 have n1 : ¬ (F : Int) - 1023 < -1075 := by clear w1 w2 w3 w4 w5 w6; omega
 have n2 : ¬ (F : Int) - 1023 > 1023 := by clear w1 w2 w3 w4 w5 w6; omega
 have n3 : ¬ (F : Int) - 1023 < -1022 := by clear w1 w2 w3 w4 w5 w6; omega
 rw [w1, w2, w3, if_neg n1, if_neg n2, if_neg n3, w4, w5, w6, mask_exp64 hx.2, hj]
 have hf : fof ((x % 2 ^ 52 + F * 2 ^ 52 + x / 2 ^ 63 * 2 ^ 63 : Nat) : Int) = ldw x F := by unfold fof ldw; exact Int.toNat_natCast _
 rw [hf, r1]
 rfl
end Go.Proofs.YtaoichlepfiliaaGreatDoor.FltP
