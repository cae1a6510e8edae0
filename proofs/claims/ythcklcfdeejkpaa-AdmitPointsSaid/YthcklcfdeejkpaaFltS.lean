/- How Frexp parts a finite float, and what a float comes to as a whole number; with trivetref01's Of: the number that a finite float denotes. Conditions stand in each sentence. -/
import Derived.Test.YthcklcfdeejkpaaFltR
import Derived.Test.YthcklcfdeejkpaaNumQ
namespace Go.Proofs.Ythcklcfdeejkpaa.FltP
set_option exponentiation.threshold 4000
open Go.RowKit Go.Proofs.Ythcklcfdeejkpaa.R Go.Proofs.YthcklcfdeejkpaaW.PrintWords Go.Proofs.YthcklcfdeejkpaaW.PrintLast Go.Proofs.YthcklcfdeejkpaaW.PrintMore Ieee

theorem toInt_val {x : Nat} (hx : Fini x) : (FloatKind.f64.decode x).toInt .zero = some (if fsgn x then -((fmag x / 2 ^ 1074 : Nat) : Int) else ((fmag x / 2 ^ 1074 : Nat) : Int)) := by
  have hd : FloatKind.f64.decode x = .number (fsgn x) (fsig x) (-1074 + fpl x) := read_fin hx
  rw [hd]
  have hT : fsig x <<< (-1074 + (fpl x : Int)).toNat / 2 ^ (-(-1074 + (fpl x : Int))).toNat = fmag x / 2 ^ 1074 := by
    rw [Nat.shiftLeft_eq, fmag_sig]
    rcases Nat.le_total 1074 (fpl x) with h | h
    · rw [show (-1074 + (fpl x : Int)).toNat = fpl x - 1074 from by omega, show (-(-1074 + (fpl x : Int))).toNat = 0 from by omega, Nat.pow_zero, Nat.div_one]
      conv => rhs; rw [show fpl x = fpl x - 1074 + 1074 from by omega, Nat.pow_add, ← Nat.mul_assoc]
      rw [Nat.mul_div_cancel _ (Nat.two_pow_pos _)]
    · rw [show (-1074 + (fpl x : Int)).toNat = 0 from by omega, show (-(-1074 + (fpl x : Int))).toNat = 1074 - fpl x from by omega, Nat.pow_zero, Nat.mul_one]
      conv => rhs; rw [show 1074 = 1074 - fpl x + fpl x from by omega, Nat.pow_add]
      rw [Nat.mul_div_mul_right _ _ (Nat.two_pow_pos _)]
  simp only [Datum.toInt, Datum.integral, cut_zero, hT]
  rw [signed_eq]; simp

theorem mask_exp {a : Nat} (h : a < 2 ^ 63) : bits .andNot .u64 (fbits a) 9218868437227405312 = ((a % 2 ^ 52 : Nat) : Int) := by
  have e : (BitVec.ofInt 64 (fbits a) &&& ~~~ BitVec.ofInt 64 9218868437227405312).toNat = a % 2 ^ 52 := by
    apply Nat.eq_of_testBit_eq
    intro i
    have ha : BitVec.ofInt 64 (fbits a) = BitVec.ofNat 64 a := by unfold fbits; simp
    have hm : BitVec.ofInt 64 9218868437227405312 = BitVec.ofNat 64 ((2 ^ 11 - 1) <<< 52) := by decide
    rw [ha, hm, BitVec.testBit_toNat, BitVec.getLsbD_and, BitVec.getLsbD_not, Nat.testBit_mod_two_pow, BitVec.getLsbD_ofNat, BitVec.getLsbD_ofNat, Nat.testBit_shiftLeft, Nat.testBit_two_pow_sub_one]
    by_cases h1 : i < 52
    · have h2 : i < 64 := by omega
      have h3 : ¬ 52 ≤ i := by omega
      simp [h1, h2, h3]
    · by_cases h2 : i < 63
      · have h3 : 52 ≤ i := by omega
        have h4 : i - 52 < 11 := by omega
        have h5 : i < 64 := by omega
        simp [h1, h3, h4, h5]
      · have : a.testBit i = false := Nat.testBit_lt_two_pow (Nat.lt_of_lt_of_le h (Nat.pow_le_pow_right (by decide) (by omega)))
        simp [this, h1]
  unfold bits
  show IntKind.u64.wrap (((BitVec.ofInt 64 (fbits a) &&& ~~~ BitVec.ofInt 64 9218868437227405312).toNat : Nat) : Int) = _
  rw [e]
  simp only [IntKind.wrap]; simp [IntKind.signed, IntKind.bits]; omega
theorem join_half (a : Nat) (h : a < 2 ^ 52) : bits .or .u64 ((a : Nat) : Int) 4602678819172646912 = ((a + 1022 * 2 ^ 52 : Nat) : Int) := by
  have e : (BitVec.ofInt 64 ((a : Nat) : Int) ||| BitVec.ofInt 64 4602678819172646912).toNat = a + 1022 * 2 ^ 52 := by
    have ha : BitVec.ofInt 64 ((a : Nat) : Int) = BitVec.ofNat 64 a := by simp
    have hm : BitVec.ofInt 64 4602678819172646912 = BitVec.ofNat 64 (2 ^ 52 * 1022) := by decide
    rw [ha, hm, BitVec.toNat_or, BitVec.toNat_ofNat, BitVec.toNat_ofNat, Nat.mod_eq_of_lt (by omega), Nat.mod_eq_of_lt (by omega), Nat.or_comm, ← Nat.two_pow_add_eq_or_of_lt h]
    omega
  unfold bits
  show IntKind.u64.wrap (((BitVec.ofInt 64 ((a : Nat) : Int) ||| BitVec.ofInt 64 4602678819172646912).toNat : Nat) : Int) = _
  rw [e]
  simp only [IntKind.wrap]; simp [IntKind.signed, IntKind.bits]; omega
theorem field_of (a : Nat) (h : a < 2 ^ 63) : bits .and .u64 ((fbits a) / 4503599627370496) 2047 = ((a / 2 ^ 52 : Nat) : Int) := by
  have h0 : (0 : Int) ≤ (fbits a) / 4503599627370496 := by unfold fbits; omega
  have h1 : (fbits a) / 4503599627370496 < 2048 := by unfold fbits; omega
  have h2 : (fbits a) / 4503599627370496 = ((a / 2 ^ 52 : Nat) : Int) := by unfold fbits; omega
  rw [h2] at h0 h1 ⊢
  generalize ((a / 2 ^ 52 : Nat) : Int) = z at *
  have : bits .and .u64 z 2047 = z % 2048 := by have h3 : z < 4096 := by omega
                                                clear h2; go_bits2
  rw [this]; omega

/-- A word of 2 ^ 52 or above is a significand of 53 digits and a place. -/
theorem half_fin (s : Nat) (h1 : 2 ^ 52 ≤ s) (h2 : s < 2 ^ 53) : Fini (s - 2 ^ 52 + 1022 * 2 ^ 52) ∧ fsig (s - 2 ^ 52 + 1022 * 2 ^ 52) = s ∧ fpl (s - 2 ^ 52 + 1022 * 2 ^ 52) = 1021 ∧ fsgn (s - 2 ^ 52 + 1022 * 2 ^ 52) = false := by
  refine ⟨⟨by omega, by omega⟩, ?_, ?_, ?_⟩
  · unfold fsig; rw [if_neg (by omega)]; omega
  · unfold fpl; omega
  · unfold fsgn; rw [show (s - 2 ^ 52 + 1022 * 2 ^ 52) / 2 ^ 63 % 2 = 0 from by omega]; rfl
/-- Frexp of a positive finite float. -/
theorem frexp_ev {y : Nat} (hy : Fini y) (hp : y < 2 ^ 63) (h0 : fmag y ≠ 0) : ∃ (s : Nat) (e : Int), 2 ^ 52 ≤ s ∧ s < 2 ^ 53 ∧ -1073 ≤ e ∧ e ≤ 1024 ∧ fmag y * 2 ^ 52 = s * 2 ^ (e + 1073).toNat ∧
    Ev (fun k => math_Frexp.f k y) (s - 2 ^ 52 + 1022 * 2 ^ 52, e) := by
  have hyv : fval y = fmag y := fval_nonneg hp
  have hz : Fini 0 := ⟨by decide, by decide⟩
  have hz0 : fval 0 = 0 := by decide
  have c0 : (FloatKind.f64.format.order y 0 == some .eq) = false := by rw [eq_fin hy hz, hz0, hyv]; simp; omega
  have hmx : Fini 9218868437227405311 := ⟨by decide, by decide⟩
  have hinf : math_IsInf.f y 0 = some false := by
    unfold math_IsInf.f
    rw [if_pos rfl, abs_some hy.2]; simp only [Option.bind_some]
    rw [gt_fin hy.pos hmx, fval_nonneg (b := y % 2 ^ 63) (by omega), fval_nonneg (b := 9218868437227405311) (by decide), fmag_pos]
    refine congrArg some (decide_eq_false ?_)
    have hb : fmag 9218868437227405311 = (2 ^ 53 - 1) * 2 ^ 2045 := by
      rw [fmag_sig, show fsig 9218868437227405311 = 2 ^ 53 - 1 from by decide, show fpl 9218868437227405311 = 2045 from by decide]
    rw [hb, fmag_sig]
    have h1 := fsig_lt y
    have h2 := hy.fpl_le
    have h3 : fsig y * 2 ^ fpl y ≤ (2 ^ 53 - 1) * 2 ^ 2045 := Nat.mul_le_mul (by omega) (Nat.pow_le_pow_right (by decide) h2)
    intro hh
    exact absurd h3 (Nat.not_le.2 (Int.ofNat_lt.1 hh))
  have hnan : math_IsNaN.f y = some false := by
    unfold math_IsNaN.f; rw [bne, eq_fin hy hy]; simp
  have tail (z : Nat) (a : Int) (ha : a = 0 ∨ a = -52) (hz1 : 2 ^ 52 ≤ z) (hz2 : z < 2047 * 2 ^ 52) (hn : math_normalize.f y = some (z, a)) (hv : fmag z = fmag y * 2 ^ (-a).toNat) :
      ∃ (s : Nat) (e : Int), 2 ^ 52 ≤ s ∧ s < 2 ^ 53 ∧ -1073 ≤ e ∧ e ≤ 1024 ∧ fmag y * 2 ^ 52 = s * 2 ^ (e + 1073).toNat ∧ Ev (fun k => math_Frexp.f k y) (s - 2 ^ 52 + 1022 * 2 ^ 52, e) := by
    have hzz : z < 2 ^ 63 := by omega
    refine ⟨2 ^ 52 + z % 2 ^ 52, a + ((z / 2 ^ 52 : Nat) : Int) - 1022, by omega, by omega, by omega, by omega, ?_, ?_⟩
    · have hm : fmag z = (2 ^ 52 + z % 2 ^ 52) * 2 ^ (z / 2 ^ 52 - 1) := by
        unfold fmag; rw [Nat.mod_eq_of_lt hzz, if_neg (by omega)]
      rw [hm] at hv
      have hF : 1 ≤ z / 2 ^ 52 := by omega
      rcases ha with rfl | rfl
      · simp only [Int.neg_zero, Int.toNat_zero, Nat.pow_zero, Nat.mul_one] at hv
        rw [← hv, Nat.mul_assoc, ← Nat.pow_add, show (0 + ((z / 2 ^ 52 : Nat) : Int) - 1022 + 1073).toNat = z / 2 ^ 52 - 1 + 52 from by omega]
      · rw [show (-(-52) : Int).toNat = 52 from rfl] at hv
        rw [← hv, show (-52 + ((z / 2 ^ 52 : Nat) : Int) - 1022 + 1073).toNat = z / 2 ^ 52 - 1 from by omega]
    · refine Ev.congr (f := fun k => (math_frexp.j0 k y false).bind fun b => some (b.1, b.2)) (fun k => ?_) (Ev.bind (a := (2 ^ 52 + z % 2 ^ 52 - 2 ^ 52 + 1022 * 2 ^ 52, a + ((z / 2 ^ 52 : Nat) : Int) - 1022)) ?_ (Ev.now _))
      · unfold math_Frexp.f math_frexp.f
        rw [if_neg (by rw [c0]; decide), hinf]; simp only [Option.bind_some]
        rw [if_neg (by decide), hnan]; rfl
      · refine Ev.step (f := fun _ => some (2 ^ 52 + z % 2 ^ 52 - 2 ^ 52 + 1022 * 2 ^ 52, a + ((z / 2 ^ 52 : Nat) : Int) - 1022)) (fun k => ?_) (Ev.now _)
        simp only [math_frexp.j0]
        rw [if_neg (by decide), hn]; simp only [Option.bind_some]
        rw [mask_exp hzz, join_half _ (by omega), field_of z hzz]
        have w1 : wrap64 ((z / 2 ^ 52 : Nat) : Int) = ((z / 2 ^ 52 : Nat) : Int) := w64' rfl (by omega) (by omega)
        have w2 : wrap64 (((z / 2 ^ 52 : Nat) : Int) - 1023) = ((z / 2 ^ 52 : Nat) : Int) - 1023 := w64' rfl (by omega) (by omega)
        have w3 : wrap64 (((z / 2 ^ 52 : Nat) : Int) - 1023 + 1) = ((z / 2 ^ 52 : Nat) : Int) - 1022 := w64' (by omega) (by omega) (by omega)
        have w4 : wrap64 (a + (((z / 2 ^ 52 : Nat) : Int) - 1022)) = a + ((z / 2 ^ 52 : Nat) : Int) - 1022 := w64' (by omega) (by omega) (by omega)
        rw [w1, w2, w3, w4]
        unfold fof
        rw [Int.toNat_natCast]
        refine congrArg some (Prod.ext ?_ rfl)
        simp only; omega
  have hthr : Fini 4503599627370496 := ⟨by decide, by decide⟩
  have hthv : fmag 4503599627370496 = 2 ^ 52 := by decide
  have hy1 := hy.1
  have hcond : (FloatKind.f64.format.order (y % 2 ^ 63) 4503599627370496 == some .lt) = decide (fmag y < 2 ^ 52) := by
    rw [lt_fin hy.pos hthr, fval_nonneg (b := y % 2 ^ 63) (by omega), fval_nonneg (b := 4503599627370496) (by decide), fmag_pos, hthv]
    exact decide_eq_decide.2 Int.ofNat_lt
  by_cases hs : fmag y < 2 ^ 52
  · -- below the normal ones
    have hy52 : y < 2 ^ 52 := by
      apply Classical.byContradiction
      intro hge
      have : fmag y = (2 ^ 52 + y % 2 ^ 52) * 2 ^ (y / 2 ^ 52 - 1) := by unfold fmag; rw [Nat.mod_eq_of_lt hp, if_neg (by omega)]
      have h3 : (2 ^ 52 + y % 2 ^ 52) * 1 ≤ (2 ^ 52 + y % 2 ^ 52) * 2 ^ (y / 2 ^ 52 - 1) := Nat.mul_le_mul_left _ (Nat.one_le_two_pow)
      omega
    have hym : fmag y = y := by unfold fmag; rw [Nat.mod_eq_of_lt hp, if_pos hy52]
    have hc : Fini 4841369599423283200 := ⟨by decide, by decide⟩
    have hcs : fsig 4841369599423283200 = 2 ^ 52 := by decide
    have hcp : fpl 4841369599423283200 = 1074 := by decide
    have hys : fsig y = y := by unfold fsig; rw [Nat.mod_eq_of_lt hp, if_pos hy52]
    have hyp : fpl y = 0 := by unfold fpl; omega
    have hrn : rnd (y * 2 ^ 52) = y * 2 ^ 52 := rnd_exact rfl (by omega)
    obtain ⟨r, e1, e2, e3, e4⟩ := mul_val hy hc (.inl (by rw [hyp, hcp]; omega)) (by
      rw [hys, hcs, hyp, hcp, show 0 + 1074 - 1074 = 0 from rfl, Nat.pow_zero, Nat.mul_one, hrn]
      exact Nat.lt_of_lt_of_le (show y * 2 ^ 52 < 2 ^ 104 by omega) (Nat.pow_le_pow_right (by decide) (by omega)))
    rw [hys, hcs, hyp, hcp, show 0 + 1074 - 1074 = 0 from rfl, Nat.pow_zero, Nat.mul_one, hrn] at e3
    rw [show fsgn y = false from by unfold fsgn; rw [show y / 2 ^ 63 % 2 = 0 from by omega]; rfl, show fsgn 4841369599423283200 = false from by decide] at e4
    have hrp : r < 2 ^ 63 := by
      have := e2.2
      unfold fsgn at e4
      have h5 : r / 2 ^ 63 % 2 ≠ 1 := by intro hh; rw [hh] at e4; exact absurd e4 (by decide)
      omega
    have hr52 : 2 ^ 52 ≤ r := by
      apply Classical.byContradiction
      intro hlt
      have : fmag r = r := by unfold fmag; rw [Nat.mod_eq_of_lt hrp, if_pos (by omega)]
      omega
    have := e2.1
    refine tail r (-52) (.inr rfl) hr52 (by omega) ?_ (by rw [e3, hym]; rfl)
    unfold math_normalize.f
    rw [abs_some hy.2]; simp only [Option.bind_some]
    rw [if_pos (by rw [hcond]; simpa using hs), e1]; rfl
  · have hge : 2 ^ 52 ≤ y := by
      apply Classical.byContradiction
      intro hlt
      have : fmag y = y := by unfold fmag; rw [Nat.mod_eq_of_lt hp, if_pos (by omega)]
      omega
    refine tail y 0 (.inl rfl) hge (by omega) ?_ (by simp)
    unfold math_normalize.f
    rw [abs_some hy.2]; simp only [Option.bind_some]
    rw [if_neg (by rw [hcond]; simpa using hs)]
end Go.Proofs.Ythcklcfdeejkpaa.FltP
