/- What the proof needs of EftP, No, ExpP, Low, All, Xp, Xq, Sgn: only what is used is left (wip/tools/prune.py). Conditions stand in each sentence. -/
import Derived.Test.YtaoichlepfiliaaGreatDoorQXEF1
import Derived.Test.YtaoichlepfiliaaGreatDoorQXLdx
import Derived.Test.YtaoichlepfiliaaGreatDoorQXOri
set_option linter.unusedSimpArgs false
set_option linter.unusedVariables false
namespace Go.Proofs.YtaoichlepfiliaaGreatDoor.Eft
set_option exponentiation.threshold 4000
open Go.RowKit Go.Proofs.YtaoichlepfiliaaGreatDoor.FltP Go.Proofs.YtaoichlepfiliaaGreatDoor.EF Go.Proofs.YtaoichlepfiliaaGreatDoorW.PrintWords Go.Proofs.YtaoichlepfiliaaGreatDoorW.PrintLast Ieee
open Go.Proofs.YtaoichlepfiliaaGreatDoor.Rnd (R Rep)
theorem abs_ef {x : Nat} (h : x < 2 ^ 64) : EF.math_Abs.f x = some (x % 2 ^ 63) := abs_some h
theorem fval_abs {x : Nat} : fval (x % 2 ^ 63) = fmag x := by rw [fval_nonneg (by omega), fmag_pos]
theorem fval_c {c : Nat} {m : Nat} (h1 : c < 2 ^ 63) (h2 : fmag c = m) : fval c = m := by rw [fval_nonneg h1, h2]
theorem R_lt {z : Int} {k : Nat} (h : z.natAbs ≤ 2 ^ k) : (R z).natAbs ≤ 2 ^ k := by
 have hk : Rep ((2 : Int) ^ k) := ⟨1, k, by rw [Int.natAbs_pow]; simp, by decide⟩
 have e : ((2 : Int) ^ k).natAbs = 2 ^ k := by rw [Int.natAbs_pow]; rfl
 have p : (0 : Int) < 2 ^ k := Int.pow_pos (by decide)
 have h1 := Rnd.R_le (z := z) hk (by omega)
 have h2 := Rnd.R_ge (z := z) hk.neg (by omega)
 omega
theorem order_some {x y : Nat} (hx : Fini x) (hy : Fini y) : FloatKind.f64.format.order x y = some (compare (fval x) (fval y)) := order_fin hx hy
theorem tame_ev {x : Nat} (hx : Fini x) (h : fmag x ≤ 2 ^ 2074) : eft_Tame.f x = some true := by
 unfold eft_Tame.f
 rw [abs_ef hx.2]
 simp only [Option.bind_some]
 rw [order_some hx.pos (y := 9110782046170513408) ⟨by decide, by decide⟩, fval_abs, fval_c (c := 9110782046170513408) (m := 2 ^ 2074) (by decide) (by decide +kernel)]
 rcases Nat.lt_or_eq_of_le h with h | h
 ·rw [Int.compare_eq_lt.mpr (by omega)]; rfl
 ·rw [Int.compare_eq_eq.mpr (by omega)]; rfl
theorem sum_ev {a b : Nat} (ha : Fini a) (hb : Fini b) (h1 : fmag a ≤ 2 ^ 2074) (h2 : fmag b ≤ 2 ^ 2074) :
 ∃ x y, eft_Sum.f a b = some (x, y) ∧ Fini x ∧ Fini y ∧ fval x = R (fval a + fval b) ∧ fval y = fval a + fval b - R (fval a + fval b) := by
 unfold eft_Sum.f
 rw [tame_ev ha h1, tame_ev hb h2]
 simp only [Option.bind_some, Bool.and_true, if_true]
 have ka := natAbs_fval a
 have kb := natAbs_fval b
 have big : (2 : Nat) ^ 2080 < 2 ^ 2098 := by decide
 have e4 : (2 : Nat) ^ 2074 * 2 = 2 ^ 2075 := by decide
 have e5 : (2 : Nat) ^ 2075 * 2 = 2 ^ 2076 := by decide
 have e6 : (2 : Nat) ^ 2076 * 2 = 2 ^ 2077 := by decide
 have e7 : (2 : Nat) ^ 2077 * 2 = 2 ^ 2078 := by decide
 have e8 : (2 : Nat) ^ 2078 * 2 = 2 ^ 2079 := by decide
 have e9 : (2 : Nat) ^ 2079 * 2 = 2 ^ 2080 := by decide
 have bx := R_lt (z := fval a + fval b) (k := 2075) (by omega)
 obtain ⟨x, f1, x1, x2⟩ := add_fin ha hb (by omega)
 rw [f1]; simp only [Option.bind_some]
 have bc := R_lt (z := fval x - fval a) (k := 2076) (by omega)
 obtain ⟨c, f2, c1, c2⟩ := sub_fin x1 ha (by omega)
 rw [f2]; simp only [Option.bind_some]
 have bd := R_lt (z := fval x - fval c) (k := 2077) (by omega)
 obtain ⟨d, f3, d1, d2⟩ := sub_fin x1 c1 (by omega)
 rw [f3]; simp only [Option.bind_some]
 have bp := R_lt (z := fval a - fval d) (k := 2078) (by omega)
 obtain ⟨p, f4, p1, p2⟩ := sub_fin ha d1 (by omega)
 rw [f4]; simp only [Option.bind_some]
 have bq := R_lt (z := fval b - fval c) (k := 2077) (by omega)
 obtain ⟨q, f5, q1, q2⟩ := sub_fin hb c1 (by omega)
 rw [f5]; simp only [Option.bind_some]
 have b_y := R_lt (z := fval p + fval q) (k := 2079) (by omega)
 obtain ⟨y, f6, y1, y2⟩ := add_fin p1 q1 (by omega)
 rw [f6]; simp only [Option.bind_some]
 refine ⟨x, y, rfl, x1, y1, x2, ?_⟩
 rw [y2, p2, q2, d2, c2, x2]
 exact Rnd.knuth (Rnd.fval_rep a) (Rnd.fval_rep b)
theorem safe_ev {x : Nat} (hx : Fini x) (h1 : 2 ^ 624 ≤ fmag x) (h2 : fmag x ≤ 2 ^ 1524) : eft_Safe.f x = some true := by
 unfold eft_Safe.f
 rw [abs_ef hx.2]
 simp only [Option.bind_some]
 have h0 : (0 : Nat) < 2 ^ 624 := by decide
 rw [order_some hx.pos (y := 0) ⟨by decide, by decide⟩, order_some hx.pos (y := 2580562586483294208) ⟨by decide, by decide⟩, order_some hx.pos (y := 6633802251116740608) ⟨by decide, by decide⟩, fval_abs, fval_c (c := 2580562586483294208) (m := 2 ^ 624) (by decide) (by decide +kernel), fval_c (c := 6633802251116740608) (m := 2 ^ 1524) (by decide) (by decide +kernel), fval_c (c := 0) (m := 0) (by decide) (by decide +kernel)]
 have n0 : compare ((fmag x : Nat) : Int) ((0 : Nat) : Int) = .gt := Int.compare_eq_gt.mpr (by omega)
 rw [n0]
 simp only [show (some Ordering.gt == some Ordering.eq) = false from rfl, Bool.false_eq_true, if_false]
 have n1 : (some (compare ((fmag x : Nat) : Int) ((2 ^ 624 : Nat) : Int)) == some .gt || some (compare ((fmag x : Nat) : Int) ((2 ^ 624 : Nat) : Int)) == some .eq) = true := by
  rcases Nat.lt_or_eq_of_le h1 with h | h
  ·rw [Int.compare_eq_gt.mpr (by omega)]; rfl
  ·rw [Int.compare_eq_eq.mpr (by omega)]; rfl
 rw [if_pos n1]
 rcases Nat.lt_or_eq_of_le h2 with h | h
 ·rw [Int.compare_eq_lt.mpr (by omega)]; rfl
 ·rw [Int.compare_eq_eq.mpr (by omega)]; rfl
def sig (x : Nat) : Int := if fsgn x then -(fsig x : Int) else fsig x
theorem fval_sig (x : Nat) : fval x = 2 ^ fpl x * sig x := by
 rw [fval_sgn, sig, fmag_sig, Int.natCast_mul, Int.natCast_pow]
 cases fsgn x
 ·simp only [Bool.false_eq_true, if_false]; rw [Int.mul_comm]; rfl
 ·simp only [if_true]; rw [Int.mul_comm, Int.mul_neg]; rfl
theorem sig_abs (x : Nat) : (sig x).natAbs = fsig x := by unfold sig; split <;> simp
theorem sig_norm {x : Nat} (h : 2 ^ 53 ≤ fmag x) : 2 ^ 52 ≤ (sig x).natAbs ∧ (sig x).natAbs < 2 ^ 53 := by
 rw [sig_abs]
 refine ⟨?_, fsig_lt x⟩
 unfold fmag at h
 unfold fsig
 split at h
 ·have : (2 : Nat) ^ 52 < 2 ^ 53 := by decide
  omega
 ·rw [if_neg (by assumption)]; omega
theorem two_mul_abs (k : Nat) (z : Int) : (2 ^ k * z).natAbs = 2 ^ k * z.natAbs := by rw [Int.natAbs_mul, Int.natAbs_pow]; rfl
theorem pow_mul_le {k m n : Nat} {z : Int} (h : z.natAbs ≤ 2 ^ m) (hk : k + m ≤ n) : (2 ^ k * z).natAbs ≤ 2 ^ n := by
 rw [two_mul_abs]
 exact Nat.le_trans (Nat.mul_le_mul_left _ h) (by rw [← Nat.pow_add]; exact Nat.pow_le_pow_right (by decide) hk)
theorem lt_of_pow {a k n : Nat} (h : a ≤ 2 ^ k) (hk : k < n) : a < 2 ^ n := Nat.lt_of_le_of_lt h (Nat.pow_lt_pow_right (by decide) hk)
theorem fpl_le_of {x k : Nat} (h : fmag x ≤ 2 ^ k) (h53 : 2 ^ 53 ≤ fmag x) : fpl x + 52 ≤ k := by
 have h1 := (sig_norm h53).1
 rw [sig_abs] at h1
 rw [fmag_sig] at h
 have : 2 ^ (fpl x + 52) ≤ 2 ^ k := Nat.le_trans (by rw [Nat.pow_add, Nat.mul_comm]; exact Nat.mul_le_mul_right _ h1) h
 exact (Nat.pow_le_pow_iff_right (by decide)).mp this
theorem split_ev {a : Nat} (ha : Fini a) (h1 : 2 ^ 624 ≤ fmag a) (h2 : fmag a ≤ 2 ^ 1524) :
 ∃ p q x y, eft_Split.f a = some (p, q) ∧ Fini p ∧ Fini q ∧ fval p = 2 ^ fpl a * x ∧ fval q = 2 ^ fpl a * y ∧ x + y = sig a ∧ (2 : Int) ^ 27 ∣ x ∧ y.natAbs ≤ 2 ^ 26 ∧ x.natAbs ≤ 2 ^ 53 := by
 have h53 : 2 ^ 53 ≤ fmag a := Nat.le_trans (Nat.pow_le_pow_right (by decide) (by decide)) h1
 obtain ⟨n1, n2⟩ := sig_norm h53
 obtain ⟨x, y, vx, vy, a3, a4, a5, a6⟩ := Rnd.veltkamp n1 n2
 have hpl := fpl_ge h1
 have hle := fpl_le_of h2 h53
 have hF : Fini 4728779608772575232 := ⟨by decide, by decide⟩
 have hV : fval 4728779608772575232 = 134217729 * 2 ^ 1074 := by decide +kernel
 have hP : fpl 4728779608772575232 = 1049 := by decide +kernel
 unfold eft_Split.f
 rw [safe_ev ha h1 h2]
 simp only [Option.bind_some, if_true]
 have ea := fval_sig a
 generalize hi : fpl a = i at *
 generalize sig a = A at *
 obtain ⟨c, f1, c1, c2⟩ := mul_fin (z := 2 ^ i * (134217729 * A)) hF ha (.inl (by rw [hP, hi]; omega)) (by rw [hV, ea]; generalize (2 : Int) ^ 1074 = T; generalize (2 : Int) ^ i = I; grind) (lt_of_pow (R_lt (pow_mul_le (m := 81) (by omega) (Nat.le_refl _))) (by omega))
 rw [f1]; simp only [Option.bind_some]
 rw [Rnd.R_scale] at c2
 have bc := R_lt (z := 134217729 * A) (k := 81) (by omega)
 have e1 : fval c - fval a = 2 ^ i * (R (134217729 * A) - A) := by rw [c2, ea, Int.mul_sub]
 obtain ⟨d, f2, d1, d2⟩ := sub_fin c1 ha (by rw [e1]; exact lt_of_pow (R_lt (pow_mul_le (m := 82) (by omega) (Nat.le_refl _))) (by omega))
 rw [f2]; simp only [Option.bind_some]
 rw [e1, Rnd.R_scale] at d2
 have bd := R_lt (z := R (134217729 * A) - A) (k := 82) (by omega)
 have e2 : fval c - fval d = 2 ^ i * (R (134217729 * A) - R (R (134217729 * A) - A)) := by rw [c2, d2, Int.mul_sub]
 obtain ⟨p, f3, p1, p2⟩ := sub_fin c1 d1 (by rw [e2]; exact lt_of_pow (R_lt (pow_mul_le (m := 83) (by omega) (Nat.le_refl _))) (by omega))
 rw [f3]; simp only [Option.bind_some]
 rw [e2, Rnd.R_scale, vx] at p2
 have e3 : fval a - fval p = 2 ^ i * (A - x) := by rw [p2, ea, Int.mul_sub]
 obtain ⟨q, f4, q1, q2⟩ := sub_fin ha p1 (by rw [e3]; exact lt_of_pow (R_lt (pow_mul_le (m := 54) (by omega) (Nat.le_refl _))) (by omega))
 rw [f4]; simp only [Option.bind_some]
 rw [e3, Rnd.R_scale, vy] at q2
 exact ⟨p, q, x, y, rfl, p1, q1, p2, q2, a3, a4, a5, a6⟩
theorem mul_parts {p r i j e : Nat} {P Q : Int} (fp : Fini p) (fr : Fini r) (vp : fval p = 2 ^ i * P) (vr : fval r = 2 ^ j * Q) (he : i + j = e + 1074) (h : 106 ≤ e) (hb : (P * Q).natAbs ≤ 2 ^ 106) (hu : e ≤ 1900) :
 ∃ m, floatBits .mul .f64 p r = some m ∧ Fini m ∧ fval m = 2 ^ e * R (P * Q) := by
 have hP : (2 : Int) ^ i * 2 ^ j = 2 ^ e * 2 ^ 1074 := by rw [← Int.pow_add, ← Int.pow_add, he]
 have low : ∀ {x k : Nat} {Z : Int}, fval x = 2 ^ k * Z → Z ≠ 0 → k < 53 + fpl x := fun {x k Z} hv hz => fpl_ge (by
  rw [← natAbs_fval, hv, two_mul_abs]; exact Nat.le_mul_of_pos_right _ (by omega))
 have hpl : 1074 ≤ fpl p + fpl r ∨ fval p = 0 ∨ fval r = 0 := by
  by_cases h1 : P = 0
  ·right; left; rw [vp, h1, Int.mul_zero]
  ·by_cases h2 : Q = 0
   ·right; right; rw [vr, h2, Int.mul_zero]
   ·left; have := low vp h1; have := low vr h2; omega
 obtain ⟨m, f, m1, m2⟩ := mul_fin (z := 2 ^ e * (P * Q)) fp fr hpl (by rw [vp, vr]; generalize (2 : Int) ^ 1074 = T at *; generalize (2 : Int) ^ i = I at *; generalize (2 : Int) ^ j = J at *; generalize (2 : Int) ^ e = E at *; grind)
  (lt_of_pow (R_lt (pow_mul_le hb (Nat.le_refl _))) (by omega))
 exact ⟨m, f, m1, by rw [m2, Rnd.R_scale]⟩
theorem sub_parts {p r e : Nat} {P Q : Int} (fp : Fini p) (fr : Fini r) (vp : fval p = 2 ^ e * P) (vr : fval r = 2 ^ e * Q) (hb : (P - Q).natAbs ≤ 2 ^ 120) (hu : e ≤ 1900) :
 ∃ m, floatBits .sub .f64 p r = some m ∧ Fini m ∧ fval m = 2 ^ e * R (P - Q) := by
 have hv : fval p - fval r = 2 ^ e * (P - Q) := by rw [vp, vr, Int.mul_sub]
 obtain ⟨m, f, m1, m2⟩ := sub_fin fp fr (by rw [hv]; exact lt_of_pow (R_lt (pow_mul_le hb (Nat.le_refl _))) (by omega))
 exact ⟨m, f, m1, by rw [m2, hv, Rnd.R_scale]⟩
set_option maxHeartbeats 2000000 in
theorem prod_ev {a b Ga Gb : Nat} {z : Int} (ha : Fini a) (hb : Fini b) (a1 : 2 ^ 624 ≤ fmag a) (a2 : fmag a ≤ 2 ^ 1524) (b1 : 2 ^ 624 ≤ fmag b) (b2 : fmag b ≤ 2 ^ 1524)
 (ga : 2 ^ Ga ≤ fmag a) (gb : 2 ^ Gb ≤ fmag b) (hG : 1290 ≤ Ga + Gb) (hz : fval a * fval b = z * 2 ^ 1074) :
 ∃ x y, eft_Prod.f a b = some (x, y) ∧ Fini x ∧ Fini y ∧ fval x = R z ∧ fval y = z - R z := by
 have a53 : 2 ^ 53 ≤ fmag a := Nat.le_trans (Nat.pow_le_pow_right (by decide) (by decide)) a1
 have b53 : 2 ^ 53 ≤ fmag b := Nat.le_trans (Nat.pow_le_pow_right (by decide) (by decide)) b1
 have na := sig_norm a53
 have nb := sig_norm b53
 have pa := fpl_ge ga
 have pb := fpl_ge gb
 have la := fpl_le_of a2 a53
 have lb := fpl_le_of b2 b53
 obtain ⟨p, q, p', q', f1, fp, fq, vp, vq, s1, s2, s3, s4⟩ := split_ev ha a1 a2
 obtain ⟨r, s, r', s', f2, fr, fs, vr, vs, t1, t2, t3, t4⟩ := split_ev hb b1 b2
 obtain ⟨d1, d2, d3, d4, d5, d6, d7, d8⟩ := Rnd.dekker na.1 na.2 nb.1 nb.2 s1 t1 s2 s3 s4 t2 t3 t4
 unfold eft_Prod.f
 rw [safe_ev ha a1 a2, safe_ev hb b1 b2]
 simp only [Option.bind_some, Bool.and_true, if_true]
 have ea := fval_sig a
 have eb := fval_sig b
 generalize hi : fpl a = i at *
 generalize hj : fpl b = j at *
 generalize sig a = A at *
 generalize sig b = B at *
 obtain ⟨e, he⟩ : ∃ e, i + j = e + 1074 := ⟨i + j - 1074, by omega⟩
 have hP : (2 : Int) ^ i * 2 ^ j = 2 ^ e * 2 ^ 1074 := by rw [← Int.pow_add, ← Int.pow_add, he]
 have hzz : z = 2 ^ e * (A * B) := by
  have : z * 2 ^ 1074 = 2 ^ e * (A * B) * 2 ^ 1074 := by
   rw [← hz, ea, eb]; generalize (2 : Int) ^ 1074 = T at *; generalize (2 : Int) ^ i = I at *; generalize (2 : Int) ^ j = J at *; generalize (2 : Int) ^ e = E at *; grind
  exact Int.eq_of_mul_eq_mul_right (by decide) this
 have bd : ∀ {u v : Int} {m n : Nat}, u.natAbs ≤ 2 ^ m → v.natAbs ≤ 2 ^ n → m + n ≤ 106 → (u * v).natAbs ≤ 2 ^ 106 := fun {u v m n} hu hv hmn => by
  rw [Int.natAbs_mul]; exact Nat.le_trans (Nat.mul_le_mul hu hv) (by rw [← Nat.pow_add]; exact Nat.pow_le_pow_right (by decide) hmn)
 have bAB := bd (m := 53) (n := 53) (Nat.le_of_lt na.2) (Nat.le_of_lt nb.2) (by decide)
 have bpr := bd s4 t4 (by decide)
 have bqr := bd s3 t4 (by decide)
 have bps := bd s4 t3 (by decide)
 have bqs := bd s3 t3 (by decide)
 have bR := R_lt bAB
 obtain ⟨x1, g1, x11, x12⟩ := mul_parts ha hb ea eb he (by omega) bAB (by omega)
 rw [g1, f1, f2]; simp only [Option.bind_some]
 obtain ⟨m1, g2, m11, m12⟩ := mul_parts fp fr vp vr he (by omega) bpr (by omega)
 rw [g2]; simp only [Option.bind_some]
 rw [d1] at m12
 obtain ⟨e1, g3, e11, e12⟩ := sub_parts x11 m11 x12 m12 (by omega) (by omega)
 rw [g3]; simp only [Option.bind_some]
 rw [d5] at e12
 obtain ⟨m2, g4, m21, m22⟩ := mul_parts fq fr vq vr he (by omega) bqr (by omega)
 rw [g4]; simp only [Option.bind_some]
 rw [d2] at m22
 obtain ⟨e2, g5, e21, e22⟩ := sub_parts e11 m21 e12 m22 (by omega) (by omega)
 rw [g5]; simp only [Option.bind_some]
 rw [d6] at e22
 obtain ⟨m3, g6, m31, m32⟩ := mul_parts fp fs vp vs he (by omega) bps (by omega)
 rw [g6]; simp only [Option.bind_some]
 rw [d3] at m32
 obtain ⟨e3, g7, e31, e32⟩ := sub_parts e21 m31 e22 m32 (by omega) (by omega)
 rw [g7]; simp only [Option.bind_some]
 rw [d7] at e32
 obtain ⟨m4, g8, m41, m42⟩ := mul_parts fq fs vq vs he (by omega) bqs (by omega)
 rw [g8]; simp only [Option.bind_some]
 rw [d4] at m42
 obtain ⟨y, g9, y1, y2⟩ := sub_parts m41 e31 m42 e32 (by omega) (by omega)
 rw [g9]; simp only [Option.bind_some]
 rw [d8] at y2
 refine ⟨x1, y, rfl, x11, y1, by rw [x12, hzz, Rnd.R_scale], ?_⟩
 rw [y2, hzz, Rnd.R_scale, Int.mul_sub]
end Go.Proofs.YtaoichlepfiliaaGreatDoor.Eft
namespace Go.Proofs.YtaoichlepfiliaaGreatDoor.No
open Go.Proofs.YtaoichlepfiliaaGreatDoor.FltP Go.Proofs.YtaoichlepfiliaaGreatDoor.Rnd
def O (a b : Int) : Prop := ∃ t : Nat, a.natAbs < 2 ^ t ∧ (2 : Int) ^ t ∣ b
def NO (l : List Int) : Prop := l.Pairwise O
def growZ : List Int → Int → List Int
 | [], q => if q ≠ 0 then [q] else []
 | x :: xs, q => if q + x - R (q + x) ≠ 0 then (q + x - R (q + x)) :: growZ xs (R (q + x)) else growZ xs (R (q + x))
def downZ : List Int → Int → List Int → List Int × Int
 | [], q, g => (g, q)
 | x :: xs, q, g => if q + x - R (q + x) ≠ 0 then downZ xs (q + x - R (q + x)) (R (q + x) :: g) else downZ xs (R (q + x)) g
def neatZ (e : List Int) : List Int := match e.reverse with
 | [] => []
 | q :: rem => growZ (downZ rem q []).1 (downZ rem q []).2
theorem growZ_sum : ∀ (l : List Int) (q : Int), (growZ l q).sum = l.sum + q
 | [], q => by unfold growZ; split <;> simp_all
 | x :: xs, q => by
  unfold growZ
  split
  ·rw [List.sum_cons, growZ_sum, List.sum_cons]; omega
  ·rw [growZ_sum, List.sum_cons]; omega
theorem downZ_sum : ∀ (l : List Int) (q : Int) (g : List Int), (downZ l q g).1.sum + (downZ l q g).2 = l.sum + q + g.sum
 | [], q, g => by simp [downZ]; omega
 | x :: xs, q, g => by
  unfold downZ
  split
  ·rw [downZ_sum, List.sum_cons, List.sum_cons]; omega
  ·rw [downZ_sum, List.sum_cons]; omega
theorem sum_rev (l : List Int) : l.reverse.sum = l.sum := by
 induction l with
 | nil => rfl
 | cons x xs ih => rw [List.reverse_cons, List.sum_append, ih]; simp; omega
theorem neatZ_sum (e : List Int) : (neatZ e).sum = e.sum := by
 unfold neatZ
 rw [← sum_rev e]
 split
 ·next h => rw [h]
 ·next q rem h => rw [h, growZ_sum, downZ_sum, List.sum_cons]; simp; omega
theorem growZ_ne : ∀ (l : List Int) (q : Int), ∀ y ∈ growZ l q, y ≠ 0
 | [], q => by unfold growZ; split <;> simp_all
 | x :: xs, q => by
  unfold growZ
  split
  ·next h => intro y hy; rcases List.mem_cons.mp hy with rfl | hy; exact h; exact growZ_ne _ _ y hy
  ·exact growZ_ne _ _
theorem growZ_len : ∀ (l : List Int) (q : Int), (growZ l q).length ≤ l.length + 1
 | [], q => by unfold growZ; split <;> simp
 | x :: xs, q => by
  unfold growZ
  have := growZ_len xs (R (q + x))
  split <;> simp <;> omega
theorem downZ_len : ∀ (l : List Int) (q : Int) (g : List Int), (downZ l q g).1.length ≤ l.length + g.length
 | [], q, g => by simp [downZ]
 | x :: xs, q, g => by
  unfold downZ
  split
  ·have := downZ_len xs (q + x - R (q + x)) (R (q + x) :: g); simp at this ⊢; omega
  ·have := downZ_len xs (R (q + x)) g; simp at this ⊢; omega
theorem neatZ_len (e : List Int) : (neatZ e).length ≤ e.length := by
 unfold neatZ
 have : e.reverse.length = e.length := List.length_reverse
 split
 ·simp
 ·next q rem h =>
  rw [h] at this
  have h1 := growZ_len (downZ rem q []).1 (downZ rem q []).2
  have h2 := downZ_len rem q []
  simp at this h2; omega
theorem growZ_rep : ∀ (l : List Int) (q : Int), Rep q → (∀ x ∈ l, Rep x) → ∀ y ∈ growZ l q, Rep y
 | [], q, hq, _ => by unfold growZ; split <;> simp_all
 | x :: xs, q, hq, hl => by
  have hx := hl x (by simp)
  unfold growZ
  have ih := growZ_rep xs (R (q + x)) (Rep_R _) (fun y hy => hl y (by simp [hy]))
  split
  ·intro y hy; rcases List.mem_cons.mp hy with rfl | hy; exact (sum_rest hq hx).1; exact ih y hy
  ·exact ih
theorem rest_low (z : Int) : O (z - R z) (R z) := by
 obtain ⟨k, k1, k2⟩ := grid_exists z
 have he := R_err k1
 have hp := Nat.two_pow_pos k
 refine ⟨k, by omega, ?_⟩
 rcases k2 with rfl | k2
 ·exact one_dvd' _
 ·refine grid_of_rep (Rep_R z) ?_
  have hk : Rep ((2 : Int) ^ (k + 52)) := ⟨1, k + 52, by rw [Int.natAbs_pow]; simp, by decide⟩
  have e : ((2 : Int) ^ (k + 52)).natAbs = 2 ^ (k + 52) := by rw [Int.natAbs_pow]; rfl
  have p : (0 : Int) < 2 ^ (k + 52) := Int.pow_pos (by decide)
  by_cases hz : 0 ≤ z
  ·have := R_ge (z := z) hk (by omega); omega
  ·have := R_le (z := z) hk.neg (by omega); omega
theorem O.le {a b c : Int} (h : O a b) (hc : c.natAbs ≤ a.natAbs) : O c b := by
 obtain ⟨t, h1, h2⟩ := h; exact ⟨t, by omega, h2⟩
theorem two_dvd {t u : Nat} (h : t ≤ u) : (2 : Int) ^ t ∣ 2 ^ u := ⟨2 ^ (u - t), by rw [← Int.pow_add, Nat.add_sub_cancel' h]⟩
theorem O.two {o a b : Int} (ha : O o a) (hb : O o b) : ∃ t : Nat, o.natAbs < 2 ^ t ∧ (2 : Int) ^ t ∣ a ∧ (2 : Int) ^ t ∣ b := by
 obtain ⟨t, h1, h2⟩ := ha
 obtain ⟨u, h3, h4⟩ := hb
 rcases Nat.le_total t u with h | h
 ·exact ⟨t, h1, h2, Int.dvd_trans (two_dvd h) h4⟩
 ·exact ⟨u, h3, Int.dvd_trans (two_dvd h) h2, h4⟩
theorem O.sum {o a b : Int} (ha : O o a) (hb : O o b) : O o (R (a + b)) ∧ O o (a + b - R (a + b)) ∧ O o (a + b) := by
 obtain ⟨t, h1, h2, h3⟩ := ha.two hb
 have h4 := Int.dvd_add h2 h3
 have h5 := R_grid h4
 exact ⟨⟨t, h1, h5⟩, ⟨t, h1, Int.dvd_sub h4 h5⟩, ⟨t, h1, h4⟩⟩
def Fit : Int → List Int → Prop
 | _, [] => True
 | q, x :: xs => (∀ z ∈ xs, O (q + x - R (q + x)) z) ∧ Fit (R (q + x)) xs
theorem growZ_no : ∀ (rem : List Int) (q : Int), Rep q → (∀ x ∈ rem, Rep x) → Fit q rem → NO (growZ rem q) ∧ ∀ o, O o q → (∀ z ∈ rem, O o z) → ∀ y ∈ growZ rem q, O o y
 | [], q, _, _, _ => by
  unfold growZ
  split
  ·exact ⟨List.pairwise_singleton _ _, fun o h _ y hy => by rw [List.mem_singleton.mp hy]; exact h⟩
  ·exact ⟨List.Pairwise.nil, fun o h _ y hy => by simp at hy⟩
 | x :: xs, q, hq, hl, hf => by
  obtain ⟨i1, i2⟩ := growZ_no xs (R (q + x)) (Rep_R _) (fun y hy => hl y (by simp [hy])) hf.2
  have all : ∀ o, O o q → (∀ z ∈ x :: xs, O o z) → ∀ y ∈ growZ xs (R (q + x)), O o y := fun o h1 h2 => i2 o (h1.sum (h2 x (by simp))).1 (fun z hz => h2 z (by simp [hz]))
  unfold growZ
  split
  ·refine ⟨List.pairwise_cons.mpr ⟨fun y hy => i2 _ (rest_low _) hf.1 y hy, i1⟩, fun o h1 h2 y hy => ?_⟩
   rcases List.mem_cons.mp hy with rfl | hy
   ·exact (h1.sum (h2 x (by simp))).2.1
   ·exact all o h1 h2 y hy
  ·exact ⟨i1, all⟩
theorem fit_of_no : ∀ (rem : List Int) (q : Int), Rep q → (∀ x ∈ rem, Rep x) → NO rem → Fit q rem
 | [], _, _, _, _ => trivial
 | x :: xs, q, hq, hl, hn => by
  obtain ⟨h1, h2⟩ := List.pairwise_cons.mp hn
  exact ⟨fun z hz => (h1 z hz).le (sum_rest hq (hl x (by simp))).2.2, fit_of_no xs _ (Rep_R _) (fun y hy => hl y (by simp [hy])) h2⟩
theorem grow_no {e : List Int} {b : Int} (hb : Rep b) (he : ∀ x ∈ e, Rep x) (hn : NO e) : NO (growZ e b) := (growZ_no e b hb he (fit_of_no e b hb he hn)).1
def Lad : List Int → Nat → Prop
 | [], _ => True
 | x :: xs, s => (2 : Int) ^ s ∣ x ∧ ∃ s', s + 2 ≤ s' ∧ x.natAbs ≤ 2 ^ s' ∧ Lad xs s'
theorem Lad.dvd : ∀ {g : List Int} {s : Nat}, Lad g s → ∀ z ∈ g, (2 : Int) ^ s ∣ z
 | [], _, _, z, hz => by simp at hz
 | x :: xs, s, ⟨h1, s', h2, _, h4⟩, z, hz => by
  rcases List.mem_cons.mp hz with rfl | hz
  ·exact h1
  ·exact Int.dvd_trans (two_dvd (by omega)) (Lad.dvd h4 z hz)
theorem R_pow {z : Int} {k : Nat} (h : z.natAbs ≤ 2 ^ k) : (R z).natAbs ≤ 2 ^ k := by
 have hk : Rep ((2 : Int) ^ k) := ⟨1, k, by rw [Int.natAbs_pow]; simp, by decide⟩
 have e : ((2 : Int) ^ k).natAbs = 2 ^ k := by rw [Int.natAbs_pow]; rfl
 have p : (0 : Int) < 2 ^ k := Int.pow_pos (by decide)
 have h1 := R_le (z := z) hk (by omega)
 have h2 := R_ge (z := z) hk.neg (by omega)
 omega
theorem fit_of_lad : ∀ (g : List Int) (s : Nat) (q : Int), Rep q → (∀ x ∈ g, Rep x) → Lad g s → q.natAbs ≤ 2 ^ (s + 1) → Fit q g
 | [], _, _, _, _, _, _ => trivial
 | x :: xs, s, q, hq, hl, ⟨h1, s', h2, h3, h4⟩, hb => by
  have hlt : (2 : Nat) ^ (s + 1) < 2 ^ s' := Nat.pow_lt_pow_right (by decide) (by omega)
  refine ⟨fun z hz => ⟨s', ?_, h4.dvd z hz⟩, fit_of_lad xs s' _ (Rep_R _) (fun y hy => hl y (by simp [hy])) h4 (R_pow ?_)⟩
  ·have := (sum_rest hq (hl x (by simp))).2.1; omega
  ·rw [Nat.pow_succ]; omega
def sumAbs (l : List Int) : Nat := (l.map Int.natAbs).sum
theorem sumAbs_cons (x : Int) (l : List Int) : sumAbs (x :: l) = x.natAbs + sumAbs l := by simp [sumAbs]
theorem desc_sum : ∀ (l : List Int) (t : Nat), l.Pairwise (fun a b => O b a) → (∀ x ∈ l, x ≠ 0) → (∀ x ∈ l, x.natAbs < 2 ^ t) → sumAbs l < 2 ^ t
 | [], t, _, _, _ => by simp [sumAbs]; exact Nat.two_pow_pos t
 | y :: ys, t, hp, h0, hb => by
  rw [sumAbs_cons]
  obtain ⟨h1, h2⟩ := List.pairwise_cons.mp hp
  have hy := h0 y (by simp)
  have hyb := hb y (by simp)
  cases ys with
  | nil => simpa [sumAbs] using hyb
  | cons z zs =>
   obtain ⟨u, u1, u2⟩ := h1 z (by simp)
   obtain ⟨h3, _⟩ := List.pairwise_cons.mp h2
   have hz := h0 z (by simp)
   have hlow : ∀ x ∈ z :: zs, x.natAbs < 2 ^ u := by
    intro x hx
    rcases List.mem_cons.mp hx with rfl | hx
    ·exact u1
    ·obtain ⟨v, v1, v2⟩ := h3 x hx
     have : 2 ^ v ≤ z.natAbs := Nat.le_of_dvd (by omega) (by have := Int.natAbs_dvd_natAbs.mpr v2; rwa [Int.natAbs_pow] at this)
     omega
   have ih := desc_sum (z :: zs) u h2 (fun x hx => h0 x (by simp [List.mem_cons.mp hx])) hlow
   have hd : 2 ^ u ∣ y.natAbs := by have := Int.natAbs_dvd_natAbs.mpr u2; rwa [Int.natAbs_pow] at this
   have hle : 2 ^ u ≤ y.natAbs := Nat.le_of_dvd (by omega) hd
   have hut : u ≤ t := by
    have : 2 ^ u < 2 ^ t := by omega
    exact Nat.le_of_lt ((Nat.pow_lt_pow_iff_right (by decide)).mp this)
   obtain ⟨c, hc⟩ := hd
   have ht : (2 : Nat) ^ t = 2 ^ u * 2 ^ (t - u) := by rw [← Nat.pow_add]; congr 1; omega
   rw [ht, hc] at hyb
   have hcl : c < 2 ^ (t - u) := Nat.lt_of_mul_lt_mul_left hyb
   have : 2 ^ u * (c + 1) ≤ 2 ^ u * 2 ^ (t - u) := Nat.mul_le_mul_left _ hcl
   rw [Nat.mul_succ] at this
   rw [ht, hc]; omega
theorem below_sum {l : List Int} {h : Int} (hp : l.Pairwise (fun a b => O b a)) (h0 : ∀ x ∈ l, x ≠ 0) (hh : h ≠ 0) (hb : ∀ x ∈ l, O x h) : sumAbs l < h.natAbs := by
 cases l with
 | nil => simp [sumAbs]; omega
 | cons y ys =>
  obtain ⟨t, t1, t2⟩ := hb y (by simp)
  obtain ⟨h1, _⟩ := List.pairwise_cons.mp hp
  have hy := h0 y (by simp)
  have := desc_sum (y :: ys) t hp h0 (fun x hx => by
   rcases List.mem_cons.mp hx with rfl | hx
   ·exact t1
   ·obtain ⟨v, v1, v2⟩ := h1 x hx
    have : 2 ^ v ≤ y.natAbs := Nat.le_of_dvd (by omega) (by have := Int.natAbs_dvd_natAbs.mpr v2; rwa [Int.natAbs_pow] at this)
    omega)
  have : 2 ^ t ≤ h.natAbs := Nat.le_of_dvd (by omega) (by have := Int.natAbs_dvd_natAbs.mpr t2; rwa [Int.natAbs_pow] at this)
  omega
theorem down_lad : ∀ (rem : List Int) (q : Int) (g : List Int) (s : Nat), Rep q → (∀ x ∈ rem, Rep x) → (∀ x ∈ g, Rep x) → rem.Pairwise (fun a b => O b a) → (∀ x ∈ rem, x ≠ 0) → (∀ x ∈ rem, O x q) →
 q.natAbs + sumAbs rem < 2 ^ s → Lad g s → Rep (downZ rem q g).2 ∧ (∀ x ∈ (downZ rem q g).1, Rep x) ∧ Fit (downZ rem q g).2 (downZ rem q g).1
 | [], q, g, s, hq, _, hg, _, _, _, hb, hL => ⟨hq, hg, fit_of_lad g s q hq hg hL (by simp [sumAbs] at hb; rw [Nat.pow_succ]; omega)⟩
 | x :: xs, q, g, s, hq, hl, hg, hp, h0, hO, hb, hL => by
  obtain ⟨p1, p2⟩ := List.pairwise_cons.mp hp
  have hx := hl x (by simp)
  have hs := fun y (hy : y ∈ xs) => (hO y (by simp [hy])).sum (p1 y hy)
  rw [sumAbs_cons] at hb
  unfold downZ
  split
  ·next hne =>
   obtain ⟨k, k1, k2⟩ := grid_exists (q + x)
   have he := R_err k1
   have hk2 : 2 ^ (k + 52) ≤ (q + x).natAbs := by
    rcases k2 with rfl | k2
    ·exfalso; exact hne (by rw [R_rep (rep_small (by simp at k1; omega))]; omega)
    ·exact k2
   have hks : k + 52 < s := (Nat.pow_lt_pow_iff_right (by decide)).mp (Nat.lt_of_le_of_lt hk2 (by omega))
   have hgr : (2 : Int) ^ k ∣ R (q + x) := by
    refine grid_of_rep (Rep_R _) ?_
    have hk : Rep ((2 : Int) ^ (k + 52)) := ⟨1, k + 52, by rw [Int.natAbs_pow]; simp, by decide⟩
    have e : ((2 : Int) ^ (k + 52)).natAbs = 2 ^ (k + 52) := by rw [Int.natAbs_pow]; rfl
    have p : (0 : Int) < 2 ^ (k + 52) := Int.pow_pos (by decide)
    by_cases hz : 0 ≤ q + x
    ·have := R_ge (z := q + x) hk (by omega); omega
    ·have := R_le (z := q + x) hk.neg (by omega); omega
   refine down_lad xs _ _ k (sum_rest hq hx).1 (fun y hy => hl y (by simp [hy])) (fun y hy => ?_) p2 (fun y hy => h0 y (by simp [hy])) (fun y hy => (hs y hy).2.1) ?_ ⟨hgr, s, by omega, R_pow (by omega), hL⟩
   ·rcases List.mem_cons.mp hy with rfl | hy
    ·exact Rep_R _
    ·exact hg y hy
   ·have := below_sum p2 (fun y hy => h0 y (by simp [hy])) hne (fun y hy => (hs y hy).2.1)
    omega
  ·next hne =>
   have hz : R (q + x) = q + x := by omega
   refine down_lad xs _ g s (Rep_R _) (fun y hy => hl y (by simp [hy])) hg p2 (fun y hy => h0 y (by simp [hy])) (fun y hy => (hs y hy).1) ?_ hL
   rw [hz]; omega
theorem neat_no {e : List Int} (he : ∀ x ∈ e, Rep x) (hn : NO e) (h0 : ∀ x ∈ e, x ≠ 0) : NO (neatZ e) ∧ (∀ x ∈ neatZ e, Rep x) ∧ ∀ x ∈ neatZ e, x ≠ 0 := by
 have hr : e.reverse.Pairwise (fun a b => O b a) := List.pairwise_reverse.mpr hn
 have hm : ∀ x, x ∈ e.reverse → x ∈ e := fun x hx => List.mem_reverse.mp hx
 unfold neatZ
 split
 ·exact ⟨List.Pairwise.nil, fun x hx => by simp at hx, fun x hx => by simp at hx⟩
 ·next q rem h =>
  rw [h] at hr hm
  obtain ⟨p1, p2⟩ := List.pairwise_cons.mp hr
  obtain ⟨d1, d2, d3⟩ := down_lad rem q [] (q.natAbs + sumAbs rem) (he q (hm q (by simp))) (fun x hx => he x (hm x (by simp [hx]))) (fun x hx => by simp at hx) p2 (fun x hx => h0 x (hm x (by simp [hx]))) (fun x hx => p1 x hx) Nat.lt_two_pow_self trivial
  exact ⟨(growZ_no _ _ d1 d2 d3).1, growZ_rep _ _ d1 d2, growZ_ne _ _⟩
theorem last_sign {l : List Int} {z : Int} (hn : NO (l ++ [z])) (h0 : ∀ x ∈ l ++ [z], x ≠ 0) : (0 < (l ++ [z]).sum ↔ 0 < z) ∧ ((l ++ [z]).sum < 0 ↔ z < 0) := by
 have hz := h0 z (by simp)
 obtain ⟨n1, _, n2⟩ := List.pairwise_append.mp hn
 have hb := below_sum (l := l.reverse) (h := z) (List.pairwise_reverse.mpr n1) (fun x hx => h0 x (by simp [List.mem_reverse.mp hx])) hz (fun x hx => n2 x (List.mem_reverse.mp hx) z (by simp))
 have hs : ∀ (m : List Int), m.sum.natAbs ≤ sumAbs m := by
  intro m
  induction m with
  | nil => simp [sumAbs]
  | cons x xs ih => rw [sumAbs_cons, List.sum_cons]; omega
 have h1 := hs l.reverse
 rw [sum_rev] at h1
 rw [List.sum_append]
 simp only [List.sum_cons, List.sum_nil]
 omega
end Go.Proofs.YtaoichlepfiliaaGreatDoor.No
namespace Go.Proofs.YtaoichlepfiliaaGreatDoor.Exp
set_option exponentiation.threshold 4000
open Go.RowKit Go.Proofs.YtaoichlepfiliaaGreatDoor.FltP Go.Proofs.YtaoichlepfiliaaGreatDoor.R Go.Proofs.YtaoichlepfiliaaGreatDoor.E Go.Proofs.YtaoichlepfiliaaGreatDoorW.PrintWords Go.Proofs.YtaoichlepfiliaaGreatDoorW.PrintLast Ieee
open Go.Proofs.YtaoichlepfiliaaGreatDoor.Rnd (Rep)
open Go.Proofs.YtaoichlepfiliaaGreatDoor.No
abbrev Rn := Go.Proofs.YtaoichlepfiliaaGreatDoor.Rnd.R
theorem R_mul {z : Int} {m k : Nat} (hm : m < 2 ^ 53) (h : z.natAbs ≤ m * 2 ^ k) : (Rn z).natAbs ≤ m * 2 ^ k := by
 have hk : Rep ((m : Int) * 2 ^ k) := ⟨m, k, by rw [Int.natAbs_mul, Int.natAbs_pow]; simp, hm⟩
 have e : (m : Int) * 2 ^ k = ((m * 2 ^ k : Nat) : Int) := by simp
 have h1 := Rnd.R_le (z := z) hk (by omega)
 have h2 := Rnd.R_ge (z := z) hk.neg (by omega)
 show (Rnd.R z).natAbs ≤ _
 omega
theorem ne_ev {y : Nat} (h : Fini y) : (FloatKind.f64.format.order y 0 != some .eq) = decide (fval y ≠ 0) := by
 rw [Eft.order_some h (y := 0) ⟨by decide, by decide⟩, Eft.fval_c (c := 0) (m := 0) (by decide) (by decide +kernel)]
 by_cases h0 : fval y = 0
 ·rw [h0]; rfl
 ·rcases Int.lt_trichotomy (fval y) 0 with h1 | h1 | h1
  ·rw [Int.compare_eq_lt.mpr (by omega)]; simp [h0]
  ·exact absurd h1 h0
  ·rw [Int.compare_eq_gt.mpr (by omega)]; simp [h0]
theorem eq_ev {y : Nat} (h : Fini y) : (FloatKind.f64.format.order y 0 == some .eq) = decide (fval y = 0) := by
 have := ne_ev h
 unfold bne at this
 by_cases h0 : fval y = 0 <;> simp [h0] at this ⊢ <;> simp [this]
theorem wrap_small {n : Nat} (h : n < 2 ^ 62) : wrap64 (n : Int) = n := by unfold wrap64; omega
theorem wrap_succ {i : Nat} (h : i < 1000) : wrap64 ((i : Int) + 1) = ((i + 1 : Nat) : Int) := by
 rw [show (i : Int) + 1 = ((i + 1 : Nat) : Int) from by omega]; exact wrap_small (Nat.lt_of_le_of_lt h (by decide))
theorem wrap_succ' {i : Nat} (h : i ≤ 1000) : wrap64 ((i : Int) + 1) = ((i + 1 : Nat) : Int) := by
 rw [show (i : Int) + 1 = ((i + 1 : Nat) : Int) from by omega]; exact wrap_small (Nat.lt_of_le_of_lt (Nat.succ_le_succ h) (by decide))
theorem rd_mem {l : List Nat} {i : Nat} (h : i < l.length) : rdOf (0 : Nat) l i ∈ l := by
 simp [rdOf, List.getD_eq_getElem?_getD, List.getElem?_eq_getElem h]
theorem tame_of {x m k : Nat} (h : fmag x ≤ m * 2 ^ k) (hm : m ≤ 2 ^ 60) (hk : k ≤ 2014) : fmag x ≤ 2 ^ 2074 :=
 Nat.le_trans h (Nat.le_trans (Nat.mul_le_mul hm (Nat.pow_le_pow_right (by decide) hk)) (by decide))
theorem grow_succ (j : Nat) (out : List Nat) (q : Nat) (l : List Nat) (i s h : Nat) (hlt : i < l.length) (e1 : E.eft_Sum.f q (rdOf (0 : Nat) l (i : Int)) = some (s, h)) (ho : out.length < 17592186044416) :
 expand_grow.l0 (j + 1) out q l (l.length : Int) (i : Int) = if (FloatKind.f64.format.order h 0 != some .eq) = true then expand_grow.l0 j (out ++ [h]) s l (l.length : Int) (wrap64 ((i : Int) + 1)) else expand_grow.l0 j out s l (l.length : Int) (wrap64 ((i : Int) + 1)) := by
 have c1 : (i : Int) < (l.length : Int) := by omega
 have c2 : (0 : Int) ≤ (i : Int) := by omega
 rw [expand_grow.l0, if_pos c1, if_pos c2, if_pos c1, e1]
 simp only [Option.bind_some]
 rw [if_pos ho]
theorem grow_end (j : Nat) (out : List Nat) (q : Nat) (l : List Nat) (i : Nat) (hlt : l.length ≤ i) (ho : out.length < 17592186044416) :
 expand_grow.l0 (j + 1) out q l (l.length : Int) (i : Int) = if (FloatKind.f64.format.order q 0 != some .eq) = true then some (out ++ [q]) else some out := by
 have c1 : ¬ (i : Int) < (l.length : Int) := by omega
 rw [expand_grow.l0, if_neg c1, if_pos ho]
theorem grow_loop (l : List Nat) (k : Nat) (hl : ∀ x ∈ l, Fini x) (hb : ∀ x ∈ l, fmag x ≤ 2 ^ k) (hk : k ≤ 2014) (hn : l.length ≤ 1000) :
 ∀ (n : Nat) (i : Nat) (out : List Nat) (q : Nat), i + n = l.length → Fini q → fmag q ≤ (i + 1) * 2 ^ k → out.length ≤ i →
 ∃ r, Ev (fun j => expand_grow.l0 j out q l (l.length : Int) (i : Int)) (out ++ r) ∧ r.map fval = growZ ((l.drop i).map fval) (fval q) ∧ ∀ x ∈ r, Fini x ∧ fmag x ≤ (l.length + 1) * 2 ^ k := by
 intro n
 induction n with
 | zero =>
  intro i out q hi hq hqb ho
  have hd : l.drop i = [] := List.drop_eq_nil_of_le (by omega)
  by_cases h0 : fval q = 0
  ·refine ⟨[], ?_, by rw [hd]; simp [growZ, h0], by simp⟩
   refine Ev.step (f := fun _ => some out) (fun j => ?_) (by simpa using Ev.now out)
   rw [grow_end j out q l i (by omega) (by omega), ne_ev hq]; simp [h0]
  ·refine ⟨[q], ?_, by rw [hd]; simp [growZ, h0], fun x hx => ?_⟩
   ·refine Ev.step (f := fun _ => some (out ++ [q])) (fun j => ?_) (Ev.now _)
    rw [grow_end j out q l i (by omega) (by omega), ne_ev hq, if_pos (by simp [h0])]
   ·rw [List.mem_singleton.mp hx]; exact ⟨hq, by rw [show l.length = i from by omega]; exact hqb⟩
 | succ n ih =>
  intro i out q hi hq hqb ho
  have hlt : i < l.length := by omega
  have hx := hl _ (rd_mem hlt)
  have hxb := hb _ (rd_mem hlt)
  have ho' : out.length < 17592186044416 := by omega
  have hi' : i + 1 + n = l.length := by omega
  have ho1 : out.length ≤ i + 1 := by omega
  have hsl : (2 : Nat) ^ k ≤ (l.length + 1) * 2 ^ k := Nat.le_mul_of_pos_left _ (by omega)
  have hi2 : i < 1000 := by omega
  have hi1 : i + 1 ≤ 1001 := by omega
  have t1 := tame_of hqb (Nat.le_trans hi1 (by decide)) hk
  have t2 := tame_of (m := 1) (by rw [Nat.one_mul]; exact hxb) (by decide) hk
  have hm2 : i + 1 + 1 < 2 ^ 53 := Nat.lt_of_le_of_lt (Nat.succ_le_succ hi1) (by decide)
  obtain ⟨s, h, e1, e2, e3, e4, e5⟩ := Eft.sum_ev hq hx t1 t2
  clear t1 t2
  have hs : fmag s ≤ (i + 1 + 1) * 2 ^ k := by
   rw [← natAbs_fval, e4]
   refine R_mul hm2 ?_
   have := natAbs_fval q
   have := natAbs_fval (rdOf (0 : Nat) l i)
   rw [Nat.succ_mul]; omega
  have hh : fmag h ≤ 2 ^ k := by
   rw [← natAbs_fval, e5]
   have := (Rnd.sum_rest (Rnd.fval_rep q) (Rnd.fval_rep (rdOf (0 : Nat) l i))).2.2
   have := natAbs_fval (rdOf (0 : Nat) l i)
   omega
  have hd : (l.drop i).map fval = fval (rdOf (0 : Nat) l i) :: (l.drop (i + 1)).map fval := by rw [drop_at hlt, List.map_cons]
  have hstep : ∀ j, expand_grow.l0 (j + 1) out q l (l.length : Int) (i : Int) = if fval h ≠ 0 then expand_grow.l0 j (out ++ [h]) s l (l.length : Int) ((i + 1 : Nat) : Int) else expand_grow.l0 j out s l (l.length : Int) ((i + 1 : Nat) : Int) := by
   intro j
   rw [grow_succ j out q l i s h hlt e1 ho', ne_ev e3, wrap_succ hi2]
   by_cases h0 : fval h = 0
   ·rw [if_neg (by simp [h0]), if_neg (by simp [h0])]
   ·rw [if_pos (by simp [h0]), if_pos h0]
  have hz : fval q + fval (rdOf (0 : Nat) l i) - Rnd.R (fval q + fval (rdOf (0 : Nat) l i)) = fval h := e5.symm
  rw [hd, growZ, hz, ← e4]
  by_cases h0 : fval h = 0
  ·obtain ⟨r, r1, r2, r3⟩ := ih (i + 1) out s hi' e2 hs ho1
   refine ⟨r, Ev.step (fun j => (hstep j).trans (if_neg (by simpa using h0))) r1, ?_, r3⟩
   rw [if_neg (by simpa using h0)]
   exact r2
  ·obtain ⟨r, r1, r2, r3⟩ := ih (i + 1) (out ++ [h]) s hi' e2 hs (by rw [List.length_append]; exact Nat.succ_le_succ ho)
   refine ⟨h :: r, Ev.step (fun j => (hstep j).trans (if_pos h0)) (by simpa using r1), ?_, fun x hx => ?_⟩
   ·rw [if_pos h0, List.map_cons, r2]
   ·rcases List.mem_cons.mp hx with rfl | hx
    ·exact ⟨e3, Nat.le_trans hh hsl⟩
    ·exact r3 x hx
theorem grow_ev {l : List Nat} {b k : Nat} (hl : ∀ x ∈ l, Fini x) (hb : ∀ x ∈ l, fmag x ≤ 2 ^ k) (hq : Fini b) (hqb : fmag b ≤ 2 ^ k) (hk : k ≤ 2000) (hn : l.length ≤ 1000) :
 ∃ r, Ev (fun j => expand_grow.f j l b) r ∧ r.map fval = growZ (l.map fval) (fval b) ∧ ∀ x ∈ r, Fini x ∧ fmag x ≤ (l.length + 1) * 2 ^ k := by
 obtain ⟨r, r1, r2, r3⟩ := grow_loop l k hl hb (Nat.le_trans hk (by decide)) hn l.length 0 [] b (by omega) hq (by omega) (Nat.le_refl _)
 have c1 : l.length < 2 ^ 62 := Nat.lt_of_le_of_lt hn (by decide)
 refine ⟨r, ?_, by simpa using r2, r3⟩
 refine Ev.congr (fun j => ?_) (by simpa using r1)
 unfold expand_grow.f
 rw [wrap_succ' hn, if_pos (by omega), if_pos (by omega)]
theorem wrap_pred {n : Nat} (h : n ≤ 1000) : wrap64 ((n : Int) - 1) = (n : Int) - 1 := by
 have : ∀ z : Int, -1 ≤ z → z < 2 ^ 62 → wrap64 z = z := fun z _ _ => by unfold wrap64; omega
 exact this _ (by omega) (by omega)
theorem up_succ (j : Nat) (g : List Nat) (q : Nat) (out : List Nat) (n s h : Nat) (hlt : n < g.length) (e1 : E.eft_Sum.f (rdOf (0 : Nat) g (n : Int)) q = some (s, h)) (ho : out.length < 17592186044416) :
 expand_neat.l1 (j + 1) g q out ((n : Nat) : Int) = if (FloatKind.f64.format.order h 0 != some .eq) = true then expand_neat.l1 j g s (out ++ [h]) (wrap64 ((n : Int) - 1)) else expand_neat.l1 j g s out (wrap64 ((n : Int) - 1)) := by
 have c1 : (n : Int) < (g.length : Int) := by omega
 have c2 : (0 : Int) ≤ (n : Int) := by omega
 rw [expand_neat.l1, if_pos (show (n : Int) ≥ 0 from c2), if_pos c2, if_pos c1, e1]
 simp only [Option.bind_some]
 rw [if_pos ho]
theorem up_end (j : Nat) (g : List Nat) (q : Nat) (out : List Nat) (ho : out.length < 17592186044416) :
 expand_neat.l1 (j + 1) g q out (-1) = if (FloatKind.f64.format.order q 0 != some .eq) = true then some (out ++ [q]) else some out := by
 rw [expand_neat.l1, if_neg (by decide), if_pos ho]
theorem take_rev {l : List Nat} {n : Nat} (h : n < l.length) : (l.take (n + 1)).reverse = rdOf (0 : Nat) l n :: (l.take n).reverse := by
 rw [List.take_add_one, List.reverse_append]
 simp [rdOf, List.getD_eq_getElem?_getD, List.getElem?_eq_getElem h]
theorem up_loop (g : List Nat) (k : Nat) (hl : ∀ x ∈ g, Fini x) (hb : ∀ x ∈ g, fmag x ≤ 2 ^ k) (hk : k ≤ 2014) (hn : g.length ≤ 1000) :
 ∀ (n : Nat) (out : List Nat) (q : Nat), n ≤ g.length → Fini q → fmag q ≤ (g.length - n + 1) * 2 ^ k → out.length ≤ g.length - n →
 ∃ r, Ev (fun j => expand_neat.l1 j g q out ((n : Int) - 1)) (out ++ r) ∧ r.map fval = growZ ((g.take n).reverse.map fval) (fval q) ∧ ∀ x ∈ r, Fini x ∧ fmag x ≤ (g.length + 1) * 2 ^ k := by
 intro n
 induction n with
 | zero =>
  intro out q hi hq hqb ho
  have ho' : out.length < 17592186044416 := by omega
  by_cases h0 : fval q = 0
  ·refine ⟨[], ?_, by simp [growZ, h0], by simp⟩
   refine Ev.step (f := fun _ => some out) (fun j => ?_) (by simpa using Ev.now out)
   show expand_neat.l1 (j + 1) g q out (-1) = _
   rw [up_end j g q out ho', ne_ev hq]; simp [h0]
  ·refine ⟨[q], ?_, by simp [growZ, h0], fun x hx => ?_⟩
   ·refine Ev.step (f := fun _ => some (out ++ [q])) (fun j => ?_) (Ev.now _)
    show expand_neat.l1 (j + 1) g q out (-1) = _
    rw [up_end j g q out ho', ne_ev hq, if_pos (by simp [h0])]
   ·rw [List.mem_singleton.mp hx]; exact ⟨hq, hqb⟩
 | succ n ih =>
  intro out q hi hq hqb ho
  have hlt : n < g.length := by omega
  have hx := hl _ (rd_mem hlt)
  have hxb := hb _ (rd_mem hlt)
  have ho' : out.length < 17592186044416 := by omega
  have hi' : n ≤ g.length := by omega
  have hn1 : n ≤ 1000 := by omega
  obtain ⟨c, hc⟩ : ∃ c, g.length - (n + 1) + 1 = c := ⟨_, rfl⟩
  have hc1 : g.length - n + 1 = c + 1 := by omega
  have ho1 : out.length + 1 ≤ g.length - n := by omega
  have ho2 : out.length ≤ g.length - n := by omega
  have hcb : c ≤ 1001 := by omega
  rw [hc] at hqb
  have hsl : (2 : Nat) ^ k ≤ (g.length + 1) * 2 ^ k := Nat.le_mul_of_pos_left _ (by omega)
  have t1 := tame_of hqb (Nat.le_trans hcb (by decide)) hk
  have t2 := tame_of (m := 1) (by rw [Nat.one_mul]; exact hxb) (by decide) hk
  have hm2 : c + 1 < 2 ^ 53 := Nat.lt_of_le_of_lt (Nat.succ_le_succ hcb) (by decide)
  have hidx : (((n + 1 : Nat) : Int) - 1) = (n : Int) := by omega
  obtain ⟨s, h, e1, e2, e3, e4, e5⟩ := Eft.sum_ev hx hq t2 t1
  clear t1 t2
  have hs : fmag s ≤ (c + 1) * 2 ^ k := by
   rw [← natAbs_fval, e4]
   refine R_mul hm2 ?_
   have := natAbs_fval q
   have := natAbs_fval (rdOf (0 : Nat) g n)
   rw [Nat.succ_mul]; omega
  have hh : fmag h ≤ 2 ^ k := by
   rw [← natAbs_fval, e5]
   have := (Rnd.sum_rest (Rnd.fval_rep (rdOf (0 : Nat) g n)) (Rnd.fval_rep q)).2.1
   have := natAbs_fval (rdOf (0 : Nat) g n)
   omega
  have hstep : ∀ j, expand_neat.l1 (j + 1) g q out (((n + 1 : Nat) : Int) - 1) = if fval h ≠ 0 then expand_neat.l1 j g s (out ++ [h]) ((n : Int) - 1) else expand_neat.l1 j g s out ((n : Int) - 1) := by
   intro j
   rw [hidx, up_succ j g q out n s h hlt e1 ho', ne_ev e3, wrap_pred hn1]
   by_cases h0 : fval h = 0
   ·rw [if_neg (by simp [h0]), if_neg (by simp [h0])]
   ·rw [if_pos (by simp [h0]), if_pos h0]
  have hz : fval q + fval (rdOf (0 : Nat) g n) - Rnd.R (fval q + fval (rdOf (0 : Nat) g n)) = fval h := by rw [e5, Int.add_comm (fval q)]
  have hz2 : Rnd.R (fval q + fval (rdOf (0 : Nat) g n)) = fval s := by rw [e4, Int.add_comm (fval q)]
  rw [take_rev hlt, List.map_cons, growZ, hz, hz2]
  by_cases h0 : fval h = 0
  ·obtain ⟨r, r1, r2, r3⟩ := ih out s hi' e2 (by rw [hc1]; exact hs) ho2
   refine ⟨r, Ev.step (fun j => (hstep j).trans (if_neg (by simpa using h0))) r1, ?_, r3⟩
   rw [if_neg (by simpa using h0)]
   exact r2
  ·obtain ⟨r, r1, r2, r3⟩ := ih (out ++ [h]) s hi' e2 (by rw [hc1]; exact hs) (by rw [List.length_append]; exact ho1)
   refine ⟨h :: r, Ev.step (fun j => (hstep j).trans (if_pos h0)) (by simpa using r1), ?_, fun x hx => ?_⟩
   ·rw [if_pos h0, List.map_cons, r2]
   ·rcases List.mem_cons.mp hx with rfl | hx
    ·exact ⟨e3, Nat.le_trans hh hsl⟩
    ·exact r3 x hx
theorem down_succ (j : Nat) (l : List Nat) (g : List Nat) (q n s h : Nat) (hlt : n < l.length) (e1 : E.eft_Sum.f q (rdOf (0 : Nat) l (n : Int)) = some (s, h)) (ho : g.length < 17592186044416) :
 expand_neat.l0 (j + 1) l g q ((n : Nat) : Int) = if (FloatKind.f64.format.order h 0 != some .eq) = true then expand_neat.l0 j l (g ++ [s]) h (wrap64 ((n : Int) - 1)) else expand_neat.l0 j l g s (wrap64 ((n : Int) - 1)) := by
 have c1 : (n : Int) < (l.length : Int) := by omega
 have c2 : (0 : Int) ≤ (n : Int) := by omega
 rw [expand_neat.l0, if_pos (show (n : Int) ≥ 0 from c2), if_pos c2, if_pos c1, e1]
 simp only [Option.bind_some]
 rw [if_pos ho]
theorem down_end (j : Nat) (l g : List Nat) (q : Nat) : expand_neat.l0 (j + 1) l g q (-1) = expand_neat.l1 j g q [] (wrap64 ((g.length : Int) - 1)) := by
 rw [expand_neat.l0, if_neg (by decide)]
theorem down_loop (l : List Nat) (k : Nat) (hl : ∀ x ∈ l, Fini x) (hb : ∀ x ∈ l, fmag x ≤ 2 ^ k) (hk : k ≤ 2014) (hn : l.length ≤ 1000) :
 ∀ (n : Nat) (g : List Nat) (q : Nat), n < l.length → Fini q → fmag q ≤ (l.length - n) * 2 ^ k → (∀ x ∈ g, Fini x ∧ fmag x ≤ (l.length + 1) * 2 ^ k) → g.length + n < l.length →
 ∃ g' q', (g'.reverse.map fval, fval q') = downZ ((l.take n).reverse.map fval) (fval q) (g.reverse.map fval) ∧ Fini q' ∧ fmag q' ≤ (l.length + 1) * 2 ^ k ∧ (∀ x ∈ g', Fini x ∧ fmag x ≤ (l.length + 1) * 2 ^ k) ∧ g'.length < l.length ∧
  ∀ r, Ev (fun j => expand_neat.l1 j g' q' [] ((g'.length : Int) - 1)) r → Ev (fun j => expand_neat.l0 j l g q ((n : Int) - 1)) r := by
 intro n
 induction n with
 | zero =>
  intro g q hi hq hqb hg hgl
  have hg1 : g.length ≤ 1000 := by omega
  have hq1 : fmag q ≤ (l.length + 1) * 2 ^ k := Nat.le_trans hqb (Nat.mul_le_mul_right _ (by omega))
  refine ⟨g, q, by simp [downZ], hq, hq1, hg, by omega, fun r hr => ?_⟩
  refine Ev.step (f := fun j => expand_neat.l1 j g q [] ((g.length : Int) - 1)) (fun j => ?_) hr
  show expand_neat.l0 (j + 1) l g q (-1) = _
  rw [down_end, wrap_pred hg1]
 | succ n ih =>
  intro g q hi hq hqb hg hgl
  have hlt : n < l.length := by omega
  have hx := hl _ (rd_mem hlt)
  have hxb := hb _ (rd_mem hlt)
  have ho' : g.length < 17592186044416 := by omega
  have hn1 : n ≤ 1000 := by omega
  obtain ⟨c, hc⟩ : ∃ c, l.length - (n + 1) = c := ⟨_, rfl⟩
  have hc1 : l.length - n = c + 1 := by omega
  have hcl : c + 1 ≤ l.length + 1 := by omega
  have hg2 : g.length + 1 + n < l.length := by omega
  have hg3 : g.length + n < l.length := by omega
  have hcb : c ≤ 1001 := by omega
  rw [hc] at hqb
  have t1 := tame_of hqb (Nat.le_trans hcb (by decide)) hk
  have t2 := tame_of (m := 1) (by rw [Nat.one_mul]; exact hxb) (by decide) hk
  have hm2 : c + 1 < 2 ^ 53 := Nat.lt_of_le_of_lt (Nat.succ_le_succ hcb) (by decide)
  have hidx : (((n + 1 : Nat) : Int) - 1) = (n : Int) := by omega
  obtain ⟨s, h, e1, e2, e3, e4, e5⟩ := Eft.sum_ev hq hx t1 t2
  clear t1 t2
  have hs : fmag s ≤ (c + 1) * 2 ^ k := by
   rw [← natAbs_fval, e4]
   refine R_mul hm2 ?_
   have := natAbs_fval q
   have := natAbs_fval (rdOf (0 : Nat) l n)
   rw [Nat.succ_mul]; omega
  have hh : fmag h ≤ 2 ^ k := by
   rw [← natAbs_fval, e5]
   have := (Rnd.sum_rest (Rnd.fval_rep q) (Rnd.fval_rep (rdOf (0 : Nat) l n))).2.2
   have := natAbs_fval (rdOf (0 : Nat) l n)
   omega
  have hh2 : fmag h ≤ (c + 1) * 2 ^ k := Nat.le_trans hh (Nat.le_mul_of_pos_left _ (Nat.succ_pos _))
  have hs2 : fmag s ≤ (l.length + 1) * 2 ^ k := Nat.le_trans hs (Nat.mul_le_mul_right _ hcl)
  have hstep : ∀ j, expand_neat.l0 (j + 1) l g q (((n + 1 : Nat) : Int) - 1) = if fval h ≠ 0 then expand_neat.l0 j l (g ++ [s]) h ((n : Int) - 1) else expand_neat.l0 j l g s ((n : Int) - 1) := by
   intro j
   rw [hidx, down_succ j l g q n s h hlt e1 ho', ne_ev e3, wrap_pred hn1]
   by_cases h0 : fval h = 0
   ·rw [if_neg (by simp [h0]), if_neg (by simp [h0])]
   ·rw [if_pos (by simp [h0]), if_pos h0]
  have hz : fval q + fval (rdOf (0 : Nat) l n) - Rnd.R (fval q + fval (rdOf (0 : Nat) l n)) = fval h := e5.symm
  rw [take_rev hlt, List.map_cons, downZ, hz, ← e4]
  by_cases h0 : fval h = 0
  ·obtain ⟨g', q', r1, r2, r3, r4, r5, r6⟩ := ih g s hlt e2 (by rw [hc1]; exact hs) hg hg3
   refine ⟨g', q', ?_, r2, r3, r4, r5, fun r hr => Ev.step (fun j => (hstep j).trans (if_neg (by simpa using h0))) (r6 r hr)⟩
   rw [if_neg (by simpa using h0)]
   exact r1
  ·obtain ⟨g', q', r1, r2, r3, r4, r5, r6⟩ := ih (g ++ [s]) h hlt e3 (by rw [hc1]; exact hh2) (fun x hx => by
    rcases List.mem_append.mp hx with hx | hx
    ·exact hg x hx
    ·rw [List.mem_singleton.mp hx]; exact ⟨e2, hs2⟩) (by rw [List.length_append]; exact hg2)
   refine ⟨g', q', ?_, r2, r3, r4, r5, fun r hr => Ev.step (fun j => (hstep j).trans (if_pos h0)) (r6 r hr)⟩
   rw [if_pos h0, r1, List.reverse_append]
   rfl
theorem wrap_idx {m : Nat} (h : m ≤ 1000) : wrap64 (((m + 1 : Nat) : Int) - 1) = (m : Int) ∧ wrap64 (((m + 1 : Nat) : Int) - 2) = (m : Int) - 1 := by
 have : ∀ z : Int, -1 ≤ z → z < 2 ^ 62 → wrap64 z = z := fun z _ _ => by unfold wrap64; omega
 constructor
 ·rw [show ((m + 1 : Nat) : Int) - 1 = (m : Int) from by omega]; exact this _ (by omega) (by omega)
 ·rw [show ((m + 1 : Nat) : Int) - 2 = (m : Int) - 1 from by omega]; exact this _ (by omega) (by omega)
theorem neat_unfold (j : Nat) (l : List Nat) (m : Nat) (hm : l.length = m + 1) (h : m ≤ 1000) : expand_neat.f j l = expand_neat.l0 j l [] (rdOf (0 : Nat) l (m : Int)) ((m : Int) - 1) := by
 unfold expand_neat.f
 rw [hm, (wrap_idx h).1, (wrap_idx h).2, if_neg (by omega), if_pos (by omega), if_pos (by omega), if_pos (by omega), if_pos (by omega)]
theorem neat_ev {l : List Nat} {k : Nat} (hl : ∀ x ∈ l, Fini x) (hb : ∀ x ∈ l, fmag x ≤ 2 ^ k) (hk : k ≤ 2000) (hn : l.length ≤ 1000) :
 ∃ r, Ev (fun j => expand_neat.f j l) r ∧ r.map fval = neatZ (l.map fval) ∧ ∀ x ∈ r, Fini x ∧ fmag x ≤ 2 ^ (k + 20) := by
 cases hm : l.length with
 | zero =>
  have : l = [] := List.length_eq_zero_iff.mp hm
  subst this
  exact ⟨[], ⟨0, fun j _ => rfl⟩, rfl, by simp⟩
 | succ m =>
  have hm1 : m ≤ 1000 := by omega
  have hlt : m < l.length := by omega
  have hq := hl _ (rd_mem hlt)
  have hqb := hb _ (rd_mem hlt)
  have h1 : l.length - m = 1 := by omega
  obtain ⟨g, q, d1, d2, d3, d4, d5, d6⟩ := down_loop l k hl hb (Nat.le_trans hk (by decide)) hn m [] (rdOf (0 : Nat) l m) hlt hq (by rw [h1, Nat.one_mul]; exact hqb) (by simp) (by simpa using hlt)
  have hL : (l.length + 1) * 2 ^ k ≤ 2 ^ (k + 10) := by
   rw [Nat.pow_add, Nat.mul_comm (2 ^ k)]
   exact Nat.mul_le_mul_right _ (Nat.le_trans (Nat.succ_le_succ hn) (by decide))
  have hg5 : g.length ≤ 1000 := by omega
  have h0 : g.length - g.length + 1 = 1 := by omega
  obtain ⟨r, r1, r2, r3⟩ := up_loop g (k + 10) (fun x hx => (d4 x hx).1) (fun x hx => Nat.le_trans (d4 x hx).2 hL) (by omega) hg5 g.length [] q (Nat.le_refl _) d2 (by rw [h0, Nat.one_mul]; exact Nat.le_trans d3 hL) (Nat.zero_le _)
  refine ⟨r, ?_, ?_, fun x hx => ⟨(r3 x hx).1, Nat.le_trans (r3 x hx).2 ?_⟩⟩
  ·exact Ev.congr (fun j => neat_unfold j l m hm hm1) (d6 r (by simpa using r1))
  ·have hrev : (l.map fval).reverse = fval (rdOf (0 : Nat) l m) :: (l.take m).reverse.map fval := by
    rw [← List.map_reverse, ← List.map_cons, ← take_rev hlt, List.take_of_length_le (by omega)]
   unfold neatZ
   rw [hrev]
   simp only
   rw [r2, List.take_of_length_le (Nat.le_refl _)]
   have := d1
   simp only [List.reverse_nil, List.map_nil] at this
   rw [← this]
  ·rw [show k + 20 = k + 10 + 10 from rfl, Nat.pow_add 2 (k + 10), Nat.mul_comm (2 ^ (k + 10))]
   exact Nat.mul_le_mul_right _ (Nat.le_trans (Nat.succ_le_succ hg5) (by decide))
set_option exponentiation.threshold 4000
open Go.RowKit Go.Proofs.YtaoichlepfiliaaGreatDoor.FltP Go.Proofs.YtaoichlepfiliaaGreatDoor.R Go.Proofs.YtaoichlepfiliaaGreatDoor.E Go.Proofs.YtaoichlepfiliaaGreatDoorW.PrintWords Go.Proofs.YtaoichlepfiliaaGreatDoorW.PrintLast Ieee
theorem one_ldexp {e : Int} (h1 : -900 ≤ e) (h2 : e ≤ 1023) : ∃ r, math_Ldexp.f 4607182418800017408 e = some r ∧ Fini r ∧ fval r = 2 ^ (e + 1074).toNat := by
 obtain ⟨F, hF⟩ : ∃ F : Nat, (1023 : Int) + e = F := ⟨(1023 + e).toNat, by omega⟩
 have hx : Fini 4607182418800017408 := ⟨by decide, by decide⟩
 obtain ⟨r, r1, r2, r3⟩ := ldexp_norm (x := 4607182418800017408) (F := F) (e := e) hx (by decide) (by rw [show (4607182418800017408 % 2 ^ 63 / 2 ^ 52 : Nat) = 1023 from by decide]; exact hF) (by omega) (by omega)
 refine ⟨r, r1, r2, ?_⟩
 obtain ⟨l1, l2, l3, l4⟩ := ldw_facts (F := F) hx (by decide) (by omega) (by omega)
 rw [r3, fval_sgn, l4, show fsgn 4607182418800017408 = false from by decide, fmag_sig, l2, l3, show fsig 4607182418800017408 = 2 ^ 52 from by decide, ← Nat.pow_add, show 52 + (F - 1) = (e + 1074).toNat from by omega]
 simp
theorem and_one (n : Nat) (hn : n < 2 ^ 63) : Go.bits .and .u64 (n : Int) 1 = ((n % 2 : Nat) : Int) := by
 have e : (BitVec.ofInt 64 (n : Int) &&& BitVec.ofInt 64 1).toNat = n % 2 := by
  have hm : BitVec.ofInt 64 1 = BitVec.ofNat 64 (2 ^ 1 - 1) := by decide
  rw [of_nat, hm, BitVec.toNat_and, BitVec.toNat_ofNat, BitVec.toNat_ofNat, Nat.mod_eq_of_lt (by omega), Nat.mod_eq_of_lt (by omega), Nat.and_two_pow_sub_one_eq_mod]
 unfold Go.bits
 show IntKind.u64.wrap (((BitVec.ofInt 64 (n : Int) &&& BitVec.ofInt 64 1).toNat : Nat) : Int) = _
 rw [e]
 simp only [IntKind.wrap]; simp [IntKind.signed, IntKind.bits]; omega
theorem low_odd (j : Nat) (e : Int) (n : Nat) (h : n % 2 = 1) (hn : n < 2 ^ 63) : expand_low.l0 (j + 1) e (n : Int) = (math_Ldexp.f 4607182418800017408 e).bind fun t => some t := by
 rw [expand_low.l0, and_one n hn, h, if_neg (by decide)]
theorem low_even (j : Nat) (e : Int) (n : Nat) (h : n % 2 = 0) (hn : n < 2 ^ 63) : expand_low.l0 (j + 1) e (n : Int) = expand_low.l0 j (wrap64 (e + 1)) ((n / 2 : Nat) : Int) := by
 rw [expand_low.l0, and_one n hn, h, if_pos (by decide)]
 rfl
theorem low_loop : ∀ (v n : Nat) (e : Int), n % 2 = 1 → n * 2 ^ v < 2 ^ 63 → -900 ≤ e → e + v ≤ 1023 → ∃ r, Ev (fun j => expand_low.l0 j e ((n * 2 ^ v : Nat) : Int)) r ∧ Fini r ∧ fval r = 2 ^ (e + v + 1074).toNat := by
 intro v
 induction v with
 | zero =>
  intro n e ho hn h1 h2
  obtain ⟨r, r1, r2, r3⟩ := one_ldexp h1 (by omega)
  refine ⟨r, Ev.step (f := fun _ => some r) (fun j => ?_) (Ev.now _), r2, by rw [r3]; congr 2; omega⟩
  rw [Nat.pow_zero, Nat.mul_one] at hn ⊢
  rw [low_odd j e n ho hn, r1]; rfl
 | succ v ih =>
  intro n e ho hn h1 h2
  have hw : wrap64 (e + 1) = e + 1 := w64' rfl (by omega) (by omega)
  have hd : n * 2 ^ (v + 1) = n * 2 ^ v * 2 := by rw [Nat.pow_succ, Nat.mul_assoc]
  rw [hd] at hn ⊢
  obtain ⟨r, r1, r2, r3⟩ := ih n (e + 1) ho (by omega) (by omega) (by omega)
  refine ⟨r, Ev.step (fun j => ?_) r1, r2, by rw [r3]; congr 2; omega⟩
  rw [low_even j e (n * 2 ^ v * 2) (by omega) hn, hw, show n * 2 ^ v * 2 / 2 = n * 2 ^ v from by omega]
theorem odd_part (n : Nat) (h : 0 < n) : ∃ m v, n = m * 2 ^ v ∧ m % 2 = 1 := by
 induction n using Nat.strongRecOn with
 | _ n ih =>
  by_cases ho : n % 2 = 1
  ·exact ⟨n, 0, by simp, ho⟩
  ·obtain ⟨m, v, h1, h2⟩ := ih (n / 2) (by omega) (by omega)
   exact ⟨m, v + 1, by rw [Nat.pow_succ, ← Nat.mul_assoc, ← h1]; omega, h2⟩
theorem low_ev {x : Nat} (hx : Fini x) (hb : 2 ^ 600 ≤ fmag x) : ∃ r t, Ev (fun j => expand_low.f j x) r ∧ Fini r ∧ fval r = 2 ^ t ∧ 2 ^ t ∣ fmag x ∧ ∀ u, 2 ^ u ∣ fmag x → u ≤ t := by
 have hm : fmag (x % 2 ^ 63) = fmag x := fmag_pos x
 have h0 : fmag x ≠ 0 := fun h => by rw [h] at hb; exact absurd hb (by decide)
 obtain ⟨s, e, s1, s2, e1, e2, hs, hE⟩ := frexp_ev (y := x % 2 ^ 63) hx.pos (by omega) (by rw [hm]; exact h0)
 rw [hm] at hs
 obtain ⟨f1, f2, f3, f4⟩ := half_fin s s1 s2
 have he : -500 ≤ e := by
  have h1 : 2 ^ 652 ≤ s * 2 ^ (e + 1073).toNat := by rw [← hs, show (652 : Nat) = 600 + 52 from rfl, Nat.pow_add]; exact Nat.mul_le_mul_right _ hb
  have h2 : s * 2 ^ (e + 1073).toNat < 2 ^ (53 + (e + 1073).toNat) := by rw [Nat.pow_add]; exact Nat.mul_lt_mul_of_pos_right s2 (Nat.two_pow_pos _)
  have h3 := (Nat.pow_lt_pow_iff_right (a := 2) (by decide)).mp (Nat.lt_of_le_of_lt h1 h2)
  omega
 obtain ⟨l1, l2, l3, l4⟩ := ldw_facts (x := s - 2 ^ 52 + 1022 * 2 ^ 52) (F := 1075) f1 (by omega) (by decide) (by decide)
 obtain ⟨t8, g1, g2, g3⟩ := ldexp_norm (x := s - 2 ^ 52 + 1022 * 2 ^ 52) (F := 1075) (e := 53) f1 (by omega) (by omega) (by decide) (by decide)
 have hv8 : fval t8 = ((s * 2 ^ 1074 : Nat) : Int) := by rw [g3, fval_sgn, l4, f4, fmag_sig, l2, f2, l3]; rfl
 have hi8 : floatToIntVal .f64 t8 .u64 = some (s : Int) := by
  have hm8 : fmag t8 = s * 2 ^ 1074 := by rw [← natAbs_fval, hv8]; exact Int.natAbs_natCast _
  have hs8 : fsgn t8 = false := by
   cases hh : fsgn t8
   ·rfl
   ·rw [fval_sgn, hh, hm8] at hv8
    have hZ : 0 < s * 2 ^ 1074 := Nat.mul_pos (by omega) (Nat.two_pow_pos _)
    generalize s * 2 ^ 1074 = Z at hv8 hZ
    simp only [if_true] at hv8
    omega
  unfold floatToIntVal
  rw [toInt_val g2, hm8, hs8, Nat.mul_div_cancel _ (Nat.two_pow_pos _)]
  simp only [Bool.false_eq_true, if_false]
  rw [if_pos]
  have hmin : IntKind.u64.min = 0 := rfl
  have hmax : IntKind.u64.max = 18446744073709551615 := rfl
  rw [hmin, hmax]; omega
 obtain ⟨m, v, hmv, hodd⟩ := odd_part s (by omega)
 have hvb : v < 53 := by
  have : 2 ^ v < 2 ^ 53 := by
   have h1 : 2 ^ v ≤ m * 2 ^ v := Nat.le_mul_of_pos_left _ (by omega)
   omega
  exact (Nat.pow_lt_pow_iff_right (by decide)).mp this
 have hw : wrap64 (e - 53) = e - 53 := w64' rfl (by omega) (by omega)
 obtain ⟨r, r1, r2, r3⟩ := low_loop v m (e - 53) hodd (by rw [← hmv]; omega) (by omega) (by omega)
 have hx' : fmag x = m * 2 ^ (e - 53 + v + 1074).toNat := by
  have h1 : fmag x * 2 ^ 52 = m * 2 ^ (e - 53 + v + 1074).toNat * 2 ^ 52 := by
   rw [hs, hmv, Nat.mul_assoc, ← Nat.pow_add, Nat.mul_assoc, ← Nat.pow_add, show v + (e + 1073).toNat = (e - 53 + v + 1074).toNat + 52 from by omega]
  exact Nat.eq_of_mul_eq_mul_right (by decide) h1
 refine ⟨r, (e - 53 + v + 1074).toNat, ?_, r2, r3, ⟨m, by rw [hx', Nat.mul_comm]⟩, fun u hu => ?_⟩
 ·refine Ev.congr (f := fun j => (math_Frexp.f j (x % 2 ^ 63)).bind fun bt => (math_Ldexp.f bt.1 53).bind fun t108 => (floatToIntVal .f64 t108 .u64).bind fun t109 => expand_low.l0 j (wrap64 (bt.2 - 53)) t109) (fun j => ?_) (Ev.bind hE ?_)
  ·unfold expand_low.f; rw [abs_some hx.2]; rfl
  ·refine Ev.congr (fun j => ?_) r1
   simp only [g1, Option.bind_some, hi8, hw]
   rw [← hmv]
 ·apply Classical.byContradiction
  intro hlt
  have h2 : 2 ^ ((e - 53 + v + 1074).toNat + 1) ∣ fmag x := Nat.dvd_trans (Nat.pow_dvd_pow 2 (by omega)) hu
  rw [hx', Nat.pow_succ, Nat.mul_comm] at h2
  have h3 := Nat.dvd_of_mul_dvd_mul_right (Nat.two_pow_pos _) h2
  omega
set_option exponentiation.threshold 4000
open Go.RowKit Go.Proofs.YtaoichlepfiliaaGreatDoor.FltP Go.Proofs.YtaoichlepfiliaaGreatDoor.R Go.Proofs.YtaoichlepfiliaaGreatDoor.E Go.Proofs.YtaoichlepfiliaaGreatDoorW.PrintWords Go.Proofs.YtaoichlepfiliaaGreatDoorW.PrintLast Ieee
open Go.Proofs.YtaoichlepfiliaaGreatDoor.No
theorem all_end (j : Nat) (l : List Nat) (a b : Nat) : expand_all.l0 (j + 1) l a b l (l.length : Int) (l.length : Int) = some true := by
 rw [expand_all.l0, if_neg (by omega)]
theorem all_first (j : Nat) (l : List Nat) (a b : Nat) (h : 0 < l.length) (hw : expand_within.f (rdOf (0 : Nat) l ((0 : Nat) : Int)) a b = some true) : expand_all.l0 (j + 1) l a b l (l.length : Int) ((0 : Nat) : Int) = expand_all.l0 j l a b l (l.length : Int) (wrap64 (((0 : Nat) : Int) + 1)) := by
 rw [expand_all.l0, if_pos (by omega), if_pos (by omega), if_pos (by omega), hw]
 simp only [Option.bind_some, if_true]
 rw [if_neg (by decide)]
theorem all_next (j : Nat) (l : List Nat) (a b i m r : Nat) (h : i + 1 < l.length) (hi : i < 1000) (hw : expand_within.f (rdOf (0 : Nat) l ((i + 1 : Nat) : Int)) a b = some true)
 (hm : math_Abs.f (rdOf (0 : Nat) l (i : Int)) = some m) (hr : expand_low.f j (rdOf (0 : Nat) l ((i + 1 : Nat) : Int)) = some r) (hlt : (FloatKind.f64.format.order m r == some .gt || FloatKind.f64.format.order m r == some .eq) = false) :
 expand_all.l0 (j + 1) l a b l (l.length : Int) ((i + 1 : Nat) : Int) = expand_all.l0 j l a b l (l.length : Int) (wrap64 (((i + 1 : Nat) : Int) + 1)) := by
 have hp : wrap64 (((i + 1 : Nat) : Int) - 1) = (i : Int) := (wrap_idx (Nat.le_of_lt hi)).1
 have c1 : ((i + 1 : Nat) : Int) < (l.length : Int) := by omega
 have c2 : (0 : Int) ≤ ((i + 1 : Nat) : Int) := by omega
 have c3 : ((i + 1 : Nat) : Int) > 0 := by omega
 have c4 : (0 : Int) ≤ (i : Int) := by omega
 have c5 : (i : Int) < (l.length : Int) := by omega
 rw [expand_all.l0, if_pos c1, if_pos c2, if_pos c1, hw]
 simp only [Option.bind_some, if_true]
 rw [if_pos c3, hp, if_pos c4, if_pos c5, hm, hr]
 simp only [Option.bind_some]
 rw [if_neg (by rw [hlt]; decide)]
theorem below_low {x y m r t : Nat} (hx : Fini x) (hm : math_Abs.f x = some m) (hr : Fini r) (hrt : fval r = 2 ^ t) (ht : ∀ u, 2 ^ u ∣ fmag y → u ≤ t) (hO : O (fval x) (fval y)) : (FloatKind.f64.format.order m r == some .gt || FloatKind.f64.format.order m r == some .eq) = false := by
 rw [abs_some hx.2] at hm
 injection hm with hm
 subst hm
 obtain ⟨u, u1, u2⟩ := hO
 rw [natAbs_fval] at u1
 have hu : 2 ^ u ∣ fmag y := by
  have := Int.natAbs_dvd_natAbs.mpr u2
  rwa [Int.natAbs_pow, natAbs_fval] at this
 have hle : 2 ^ u ≤ 2 ^ t := Nat.pow_le_pow_right (by decide) (ht u hu)
 have hlt : fmag x < 2 ^ t := Nat.lt_of_lt_of_le u1 hle
 have hc : ((2 ^ t : Nat) : Int) = 2 ^ t := by simp
 rw [Eft.order_some hx.pos hr, Eft.fval_abs, hrt, ← hc, Int.compare_eq_lt.mpr (by omega)]
 rfl
theorem all_ev {l : List Nat} {a b : Nat} (hl : ∀ x ∈ l, Fini x ∧ 2 ^ 600 ≤ fmag x) (hw : ∀ x ∈ l, expand_within.f x a b = some true) (hn : NO (l.map fval)) (h64 : l.length ≤ 64) : Ev (fun j => expand_all.f j l a b) true := by
 have main : ∀ (n i : Nat), i + n = l.length → Ev (fun j => expand_all.l0 j l a b l (l.length : Int) (i : Int)) true := by
  intro n
  induction n with
  | zero =>
   intro i hi
   obtain rfl : i = l.length := by omega
   exact Ev.step (f := fun _ => some true) (fun j => all_end j l a b) (Ev.now _)
  | succ n ih =>
   intro i hi
   have hlt : i < l.length := by omega
   have h0 := ih (i + 1) (by omega)
   have hi1 : i < 1000 := by omega
   cases i with
   | zero => exact Ev.step (fun j => (all_first j l a b hlt (hw _ (rd_mem hlt))).trans (by rw [wrap_succ (i := 0) (by decide)])) h0
   | succ i =>
    have hlt' : i < l.length := by omega
    have hi2 : i < 1000 := by omega
    have hx := hl _ (rd_mem hlt')
    have hy := hl _ (rd_mem hlt)
    obtain ⟨r, t, ⟨K, hK⟩, r2, r3, r4, r5⟩ := low_ev hy.1 hy.2
    have hO : O (fval (rdOf (0 : Nat) l i)) (fval (rdOf (0 : Nat) l ((i + 1 : Nat) : Int))) := by
     have := List.pairwise_iff_getElem.mp hn i (i + 1) (by simpa using hlt') (by simpa using hlt) (by omega)
     simpa [rdOf, List.getD_eq_getElem?_getD, List.getElem?_eq_getElem hlt', List.getElem?_eq_getElem hlt] using this
    have hb := below_low hx.1 (abs_some hx.1.2) r2 r3 r5 hO
    obtain ⟨K2, hK2⟩ := h0
    refine ⟨K + K2 + 1, fun j hj => ?_⟩
    obtain ⟨j', rfl⟩ : ∃ j', j = j' + 1 := ⟨j - 1, by omega⟩
    show expand_all.l0 (j' + 1) l a b l (l.length : Int) ((i + 1 : Nat) : Int) = _
    rw [all_next j' l a b i _ r hlt hi2 (hw _ (rd_mem hlt)) (abs_some hx.1.2) (hK j' (by omega)) hb, wrap_succ hi1]
    exact hK2 j' (by omega)
 have c : ¬ (l.length : Int) > 64 := by omega
 refine Ev.congr (fun j => ?_) (main l.length 0 (by omega))
 unfold expand_all.f
 rw [if_neg c]
 rfl
set_option exponentiation.threshold 4000
open Go.RowKit Go.Proofs.YtaoichlepfiliaaGreatDoor.FltP Go.Proofs.YtaoichlepfiliaaGreatDoor.R Go.Proofs.YtaoichlepfiliaaGreatDoor.E Go.Proofs.YtaoichlepfiliaaGreatDoorW.PrintWords Go.Proofs.YtaoichlepfiliaaGreatDoorW.PrintLast Ieee
open Go.Proofs.YtaoichlepfiliaaGreatDoor.No
open Go.Proofs.YtaoichlepfiliaaGreatDoor.Rnd (Rep)
structure Xp (k G : Nat) (l : List Nat) (z : Int) : Prop where
 fin : ∀ x ∈ l, Fini x ∧ fmag x ≤ 2 ^ k
 grid : ∀ x ∈ l, 2 ^ G ∣ fmag x
 ne : ∀ x ∈ l, fval x ≠ 0
 no : NO (l.map fval)
 sum : (l.map fval).sum = z
theorem Xp.mono {k k' G : Nat} {l : List Nat} {z : Int} (h : Xp k G l z) (hk : k ≤ k') : Xp k' G l z :=
 ⟨fun x hx => ⟨(h.fin x hx).1, Nat.le_trans (h.fin x hx).2 (Nat.pow_le_pow_right (by decide) hk)⟩, h.grid, h.ne, h.no, h.sum⟩
theorem Xp.nil (k G : Nat) : Xp k G [] 0 := ⟨by simp, by simp, by simp, List.Pairwise.nil, rfl⟩
theorem dvd_val {G x : Nat} : (2 : Int) ^ G ∣ fval x ↔ 2 ^ G ∣ fmag x := by
 rw [← natAbs_fval, ← Int.natAbs_dvd_natAbs, Int.natAbs_pow]; rfl
theorem growZ_dvd (G : Nat) : ∀ (l : List Int) (q : Int), (2 : Int) ^ G ∣ q → (∀ x ∈ l, (2 : Int) ^ G ∣ x) → ∀ y ∈ growZ l q, (2 : Int) ^ G ∣ y
 | [], q, hq, _ => by unfold growZ; split <;> simp_all
 | x :: xs, q, hq, hl => by
  have h1 := Int.dvd_add hq (hl x (by simp))
  have h2 := Rnd.R_grid h1
  have ih := growZ_dvd G xs _ h2 (fun y hy => hl y (by simp [hy]))
  unfold growZ
  split
  ·intro y hy; rcases List.mem_cons.mp hy with rfl | hy; exact Int.dvd_sub h1 h2; exact ih y hy
  ·exact ih
theorem downZ_dvd (G : Nat) : ∀ (l : List Int) (q : Int) (g : List Int), (2 : Int) ^ G ∣ q → (∀ x ∈ l, (2 : Int) ^ G ∣ x) → (∀ x ∈ g, (2 : Int) ^ G ∣ x) → (2 : Int) ^ G ∣ (downZ l q g).2 ∧ ∀ x ∈ (downZ l q g).1, (2 : Int) ^ G ∣ x
 | [], q, g, hq, _, hg => ⟨hq, hg⟩
 | x :: xs, q, g, hq, hl, hg => by
  have h1 := Int.dvd_add hq (hl x (by simp))
  have h2 := Rnd.R_grid h1
  unfold downZ
  split
  ·exact downZ_dvd G xs _ _ (Int.dvd_sub h1 h2) (fun y hy => hl y (by simp [hy])) (fun y hy => by
    rcases List.mem_cons.mp hy with rfl | hy
    ·exact h2
    ·exact hg y hy)
  ·exact downZ_dvd G xs _ _ h2 (fun y hy => hl y (by simp [hy])) hg
theorem neatZ_dvd (G : Nat) (l : List Int) (hl : ∀ x ∈ l, (2 : Int) ^ G ∣ x) : ∀ y ∈ neatZ l, (2 : Int) ^ G ∣ y := by
 have hm : ∀ x, x ∈ l.reverse → x ∈ l := fun x hx => List.mem_reverse.mp hx
 unfold neatZ
 split
 ·simp
 ·next q rem h =>
  rw [h] at hm
  obtain ⟨h1, h2⟩ := downZ_dvd G rem q [] (hl q (hm q (by simp))) (fun x hx => hl x (hm x (by simp [hx]))) (by simp)
  exact growZ_dvd G _ _ h1 h2
theorem rep_map {l : List Nat} : ∀ x ∈ l.map fval, Rep x := fun x hx => by
 obtain ⟨y, _, rfl⟩ := List.mem_map.mp hx; exact Rnd.fval_rep y
theorem of_map {l : List Nat} {P : Int → Prop} (h : ∀ y ∈ l.map fval, P y) : ∀ x ∈ l, P (fval x) := fun x hx => h _ (List.mem_map.mpr ⟨x, hx, rfl⟩)
theorem to_map {l : List Nat} {P : Int → Prop} (h : ∀ x ∈ l, P (fval x)) : ∀ y ∈ l.map fval, P y := fun y hy => by
 obtain ⟨x, hx, rfl⟩ := List.mem_map.mp hy; exact h x hx
theorem grow_xp {k G : Nat} {l : List Nat} {b : Nat} {z : Int} (h : Xp k G l z) (hb : Fini b) (hbk : fmag b ≤ 2 ^ k) (hbG : 2 ^ G ∣ fmag b) (hk : k ≤ 2000) (hn : l.length ≤ 63) :
 ∃ r, Ev (fun j => expand_grow.f j l b) r ∧ Xp (k + 6) G r (z + fval b) ∧ r.length ≤ l.length + 1 := by
 obtain ⟨r, r1, r2, r3⟩ := grow_ev (fun x hx => (h.fin x hx).1) (fun x hx => (h.fin x hx).2) hb hbk hk (Nat.le_trans hn (by decide))
 have hlen : r.length ≤ l.length + 1 := by
  have := growZ_len (l.map fval) (fval b)
  rw [← r2, List.length_map, List.length_map] at this; exact this
 refine ⟨r, r1, ⟨fun x hx => ⟨(r3 x hx).1, Nat.le_trans (r3 x hx).2 ?_⟩, fun x hx => dvd_val.mp (of_map (P := fun y => (2 : Int) ^ G ∣ y) ?_ x hx), of_map (P := fun y => y ≠ 0) ?_, ?_, ?_⟩, hlen⟩
 ·rw [Nat.pow_add, Nat.mul_comm (2 ^ k)]; exact Nat.mul_le_mul_right _ (Nat.succ_le_succ hn)
 ·rw [r2]; exact growZ_dvd G _ _ (dvd_val.mpr hbG) (to_map (P := fun y => (2 : Int) ^ G ∣ y) fun x hx => dvd_val.mpr (h.grid x hx))
 ·rw [r2]; exact growZ_ne _ _
 ·rw [r2]; exact grow_no (Rnd.fval_rep b) rep_map h.no
 ·rw [r2, growZ_sum, h.sum]
theorem neat_xp {k G : Nat} {l : List Nat} {z : Int} (h : Xp k G l z) (hk : k ≤ 2000) (hn : l.length ≤ 64) :
 ∃ r, Ev (fun j => expand_neat.f j l) r ∧ Xp (k + 20) G r z ∧ r.length ≤ l.length := by
 obtain ⟨r, r1, r2, r3⟩ := neat_ev (fun x hx => (h.fin x hx).1) (fun x hx => (h.fin x hx).2) hk (Nat.le_trans hn (by decide))
 obtain ⟨n1, n2, n3⟩ := neat_no (e := l.map fval) rep_map h.no (to_map (P := fun y => y ≠ 0) h.ne)
 have hlen : r.length ≤ l.length := by
  have := neatZ_len (l.map fval)
  rw [← r2, List.length_map, List.length_map] at this; exact this
 refine ⟨r, r1, ⟨r3, fun x hx => dvd_val.mp (of_map (P := fun y => (2 : Int) ^ G ∣ y) ?_ x hx), of_map (P := fun y => y ≠ 0) ?_, ?_, ?_⟩, hlen⟩
 ·rw [r2]; exact neatZ_dvd G _ (to_map (P := fun y => (2 : Int) ^ G ∣ y) fun x hx => dvd_val.mpr (h.grid x hx))
 ·rw [r2]; exact n3
 ·rw [r2]; exact n1
 ·rw [r2, neatZ_sum, h.sum]
theorem Xp.big {k G : Nat} {l : List Nat} {z : Int} (h : Xp k G l z) (hG : 600 ≤ G) : ∀ x ∈ l, Fini x ∧ 2 ^ 600 ≤ fmag x := fun x hx => by
 refine ⟨(h.fin x hx).1, ?_⟩
 have h1 := h.grid x hx
 have h2 := h.ne x hx
 have h3 : fmag x ≠ 0 := fun h0 => h2 ((fval_zero_iff x).mpr h0)
 exact Nat.le_trans (Nat.pow_le_pow_right (by decide) hG) (Nat.le_of_dvd (by omega) h1)
theorem Xp.low {k G : Nat} {l : List Nat} {z : Int} (h : Xp k G l z) : ∀ x ∈ l, 2 ^ G ≤ fmag x := fun x hx => by
 have h1 := h.grid x hx
 have h3 : fmag x ≠ 0 := fun h0 => h.ne x hx ((fval_zero_iff x).mpr h0)
 exact Nat.le_of_dvd (by omega) h1
theorem order_inf {y : Nat} (h : Fini y) : FloatKind.f64.format.order y 9218868437227405312 = some .lt := by
 have hr : FloatKind.f64.format.read 9218868437227405312 = .infinity false := read_inf (b := 9218868437227405312) (by decide)
 unfold Format.order
 rw [hr, show FloatKind.f64.format.read y = _ from read_fin h]
 rfl
theorem within_inf {y : Nat} (h : Fini y) (h1 : 1 ≤ fmag y) : expand_within.f y 1 9218868437227405312 = some true := by
 have hone : Fini 1 := ⟨by decide, by decide⟩
 have hv : fval 1 = 1 := by decide
 unfold expand_within.f
 rw [abs_some h.2]
 simp only [Option.bind_some]
 rw [order_inf h.pos, Eft.order_some h.pos hone, Eft.fval_abs, hv]
 have : (some (compare ((fmag y : Nat) : Int) 1) == some .gt || some (compare ((fmag y : Nat) : Int) 1) == some .eq) = true := by
  rcases Nat.lt_or_eq_of_le h1 with h2 | h2
  ·rw [Int.compare_eq_gt.mpr (by omega)]; rfl
  ·rw [← h2]; rfl
 rw [if_pos this]
 rfl
theorem within_fin {y a b : Nat} (h : Fini y) (ha : Fini a) (hb : Fini b) (ha0 : a < 2 ^ 63) (hb0 : b < 2 ^ 63) (h1 : fmag a ≤ fmag y) (h2 : fmag y ≤ fmag b) : expand_within.f y a b = some true := by
 unfold expand_within.f
 rw [abs_some h.2]
 simp only [Option.bind_some]
 rw [Eft.order_some h.pos ha, Eft.order_some h.pos hb, Eft.fval_abs, fval_nonneg ha0, fval_nonneg hb0]
 have n1 : (some (compare ((fmag y : Nat) : Int) (fmag a : Int)) == some .gt || some (compare ((fmag y : Nat) : Int) (fmag a : Int)) == some .eq) = true := by
  rcases Nat.lt_or_eq_of_le h1 with h | h
  ·rw [Int.compare_eq_gt.mpr (by omega)]; rfl
  ·rw [Int.compare_eq_eq.mpr (by omega)]; rfl
 rw [if_pos n1]
 rcases Nat.lt_or_eq_of_le h2 with h | h
 ·rw [Int.compare_eq_lt.mpr (by omega)]; rfl
 ·rw [Int.compare_eq_eq.mpr (by omega)]; rfl
theorem closed_xp {k G : Nat} {l : List Nat} {z : Int} (h : Xp k G l z) (hk : k ≤ 2000) (hn : l.length ≤ 64) (hG : 600 ≤ G) :
 ∃ r, Ev (fun j => closed j l) r ∧ Xp (k + 20) G r z ∧ r.length ≤ l.length := by
 obtain ⟨r, r1, r2, r3⟩ := neat_xp h hk hn
 have ha : Ev (fun j => expand_all.f j r 1 9218868437227405312) true := all_ev (r2.big hG) (fun x hx => within_inf (r2.fin x hx).1 (Nat.le_trans (Nat.one_le_two_pow) (r2.low x hx))) r2.no (Nat.le_trans r3 hn)
 exact ⟨r, Ev.bind r1 (Ev.bind ha (Ev.now r)), r2, r3⟩
theorem plusAt_pick {e f : List Nat} {n i j : Nat} {out : List Nat} {t : Bool} {Q : List Nat → Prop} (hj : j < f.length) (hi : i < e.length) (hlt : ltAbs (rdOf (0 : Nat) e i) (rdOf (0 : Nat) f j) = some t)
 (h1 : t = true → ∃ r, Ev (fun q => (expand_grow.f q out (rdOf (0 : Nat) e i)).bind (plusAt q e f n (i + 1) j)) r ∧ Q r)
 (h2 : t = false → ∃ r, Ev (fun q => (expand_grow.f q out (rdOf (0 : Nat) f j)).bind (plusAt q e f n i (j + 1))) r ∧ Q r) : ∃ r, Ev (fun q => plusAt q e f (n + 1) i j out) r ∧ Q r := by
 cases t with
 | false =>
  obtain ⟨r, r1, r2⟩ := h2 rfl
  refine ⟨r, Ev.congr (fun q => ?_) r1, r2⟩
  simp only [plusAt]
  rw [if_pos hj, if_pos hi, hlt, Option.bind_some, if_neg (by decide)]
 | true =>
  obtain ⟨r, r1, r2⟩ := h1 rfl
  refine ⟨r, Ev.congr (fun q => ?_) r1, r2⟩
  simp only [plusAt]
  rw [if_pos hj, if_pos hi, hlt, Option.bind_some]
  simp only [if_true]
theorem plusAt_xp (e f : List Nat) (G : Nat) (hef : ∀ x ∈ e ++ f, Fini x ∧ 2 ^ G ∣ fmag x) : ∀ (n i j k : Nat) (out : List Nat) (z : Int), i ≤ e.length → j ≤ f.length → i + j + n = e.length + f.length → Xp k G out z → (∀ x ∈ e ++ f, fmag x ≤ 2 ^ k) → out.length + n ≤ 64 → k + 6 * n ≤ 2000 →
 ∃ r, Ev (fun q => plusAt q e f n i j out) r ∧ Xp (k + 6 * n) G r (z + ((e.drop i).map fval).sum + ((f.drop j).map fval).sum) ∧ r.length ≤ out.length + n := by
 intro n
 induction n with
 | zero =>
  intro i j k out z hi hj hn h hb hl hk
  refine ⟨out, ⟨0, fun q _ => by unfold plusAt; rfl⟩, ?_, by omega⟩
  rw [List.drop_eq_nil_of_le (show e.length ≤ i by omega), List.drop_eq_nil_of_le (show f.length ≤ j by omega)]
  simpa using h
 | succ n ih =>
  intro i j k out z hi hj hn h hb hl hk
  have up : ∀ x ∈ e ++ f, fmag x ≤ 2 ^ (k + 6) := fun x hx => Nat.le_trans (hb x hx) (Nat.pow_le_pow_right (by decide) (by omega))
  have me : i < e.length → rdOf (0 : Nat) e i ∈ e ++ f := fun hlt => List.mem_append.mpr (.inl (rd_mem hlt))
  have mf : j < f.length → rdOf (0 : Nat) f j ∈ e ++ f := fun hlt => List.mem_append.mpr (.inr (rd_mem hlt))
  have takeE : i < e.length → ∃ r, Ev (fun q => (expand_grow.f q out (rdOf (0 : Nat) e i)).bind (plusAt q e f n (i + 1) j)) r ∧ Xp (k + 6 * (n + 1)) G r (z + ((e.drop i).map fval).sum + ((f.drop j).map fval).sum) ∧ r.length ≤ out.length + (n + 1) := fun hlt => by
   obtain ⟨o, o1, o2, o3⟩ := grow_xp h (hef _ (me hlt)).1 (hb _ (me hlt)) (hef _ (me hlt)).2 (by omega) (by omega)
   obtain ⟨r, r1, r2, r3⟩ := ih (i + 1) j (k + 6) o _ hlt hj (by omega) o2 up (by omega) (by omega)
   refine ⟨r, Ev.bind o1 r1, ?_, by omega⟩
   rw [drop_at hlt, List.map_cons, List.sum_cons]
   rw [show k + 6 * (n + 1) = k + 6 + 6 * n from by omega, show z + (fval (rdOf (0 : Nat) e i) + ((e.drop (i + 1)).map fval).sum) = z + fval (rdOf (0 : Nat) e i) + ((e.drop (i + 1)).map fval).sum from by omega]
   exact r2
  have takeF : j < f.length → ∃ r, Ev (fun q => (expand_grow.f q out (rdOf (0 : Nat) f j)).bind (plusAt q e f n i (j + 1))) r ∧ Xp (k + 6 * (n + 1)) G r (z + ((e.drop i).map fval).sum + ((f.drop j).map fval).sum) ∧ r.length ≤ out.length + (n + 1) := fun hlt => by
   obtain ⟨o, o1, o2, o3⟩ := grow_xp h (hef _ (mf hlt)).1 (hb _ (mf hlt)) (hef _ (mf hlt)).2 (by omega) (by omega)
   obtain ⟨r, r1, r2, r3⟩ := ih i (j + 1) (k + 6) o _ hi hlt (by omega) o2 up (by omega) (by omega)
   refine ⟨r, Ev.bind o1 r1, ?_, by omega⟩
   rw [drop_at hlt, List.map_cons, List.sum_cons]
   rw [show k + 6 * (n + 1) = k + 6 + 6 * n from by omega, show z + ((e.drop i).map fval).sum + (fval (rdOf (0 : Nat) f j) + ((f.drop (j + 1)).map fval).sum) = z + fval (rdOf (0 : Nat) f j) + ((e.drop i).map fval).sum + ((f.drop (j + 1)).map fval).sum from by omega]
   exact r2
  by_cases hj1 : j < f.length
  ·by_cases hi1 : i < e.length
   ·have hlt : ltAbs (rdOf (0 : Nat) e i) (rdOf (0 : Nat) f j) = some (FloatKind.f64.format.order (rdOf (0 : Nat) e i % 2 ^ 63) (rdOf (0 : Nat) f j % 2 ^ 63) == some .lt) := by
     unfold ltAbs; rw [abs_some (hef _ (me hi1)).1.2, abs_some (hef _ (mf hj1)).1.2]; simp only [Option.bind_some]
    refine plusAt_pick hj1 hi1 hlt (fun _ => takeE hi1) (fun _ => takeF hj1)
   ·obtain ⟨r, r1, r2⟩ := takeF hj1
    exact ⟨r, Ev.congr (fun q => by simp only [plusAt]; rw [if_pos hj1, if_neg hi1]) r1, r2⟩
  ·have hi1 : i < e.length := by omega
   obtain ⟨r, r1, r2⟩ := takeE hi1
   exact ⟨r, Ev.congr (fun q => by simp only [plusAt]; rw [if_neg hj1, if_pos ⟨by omega, hi1⟩]) r1, r2⟩
theorem plus_xp {k G : Nat} {e f : List Nat} {y z : Int} (he : Xp k G e y) (hf : Xp k G f z) (hn : e.length + f.length ≤ 64) (hk : k + 6 * (e.length + f.length) ≤ 2000) (hG : 600 ≤ G) :
 ∃ r, Ev (fun q => expand_plus.f q e f) r ∧ Xp (k + 6 * (e.length + f.length) + 20) G r (y + z) ∧ r.length ≤ e.length + f.length := by
 have hb : ∀ x ∈ e ++ f, (Fini x ∧ 2 ^ G ∣ fmag x) ∧ fmag x ≤ 2 ^ k := fun x hx => by
  rcases List.mem_append.mp hx with hx | hx
  ·exact ⟨⟨(he.fin x hx).1, he.grid x hx⟩, (he.fin x hx).2⟩
  ·exact ⟨⟨(hf.fin x hx).1, hf.grid x hx⟩, (hf.fin x hx).2⟩
 obtain ⟨o, o1, o2, o3⟩ := plusAt_xp e f G (fun x hx => (hb x hx).1) (e.length + f.length) 0 0 k [] 0 (by omega) (by omega) (by omega) (Xp.nil _ _) (fun x hx => (hb x hx).2) (by simpa using hn) hk
 simp only [List.drop_zero, he.sum, hf.sum, Int.zero_add, List.length_nil, Nat.zero_add] at o2 o3
 obtain ⟨r, r1, r2, r3⟩ := closed_xp o2 hk (Nat.le_trans o3 hn) hG
 exact ⟨r, Ev.bind o1 r1, r2, Nat.le_trans r3 o3⟩
set_option exponentiation.threshold 4000
open Go.RowKit Go.Proofs.YtaoichlepfiliaaGreatDoor.FltP Go.Proofs.YtaoichlepfiliaaGreatDoor.R Go.Proofs.YtaoichlepfiliaaGreatDoor.E Go.Proofs.YtaoichlepfiliaaGreatDoorW.PrintWords Go.Proofs.YtaoichlepfiliaaGreatDoorW.PrintLast Ieee
open Go.Proofs.YtaoichlepfiliaaGreatDoor.No
open Go.Proofs.YtaoichlepfiliaaGreatDoor.Rnd (Rep)
structure PrEq (a b y : Int) : Prop where
 eq : a * b = y * 2 ^ 1074
theorem PrEq.zero (b : Int) : PrEq 0 b 0 := ⟨by rw [Int.zero_mul, Int.zero_mul]⟩
theorem PrEq.zero' (b : Int) : PrEq b 0 0 := ⟨by rw [Int.mul_zero, Int.zero_mul]⟩
theorem PrEq.add {a a' b y y' : Int} (h : PrEq a b y) (h' : PrEq a' b y') : PrEq (a + a') b (y + y') := ⟨by rw [Int.add_mul, h.eq, h'.eq, Int.add_mul]⟩
theorem PrEq.add' {a b b' y y' : Int} (h : PrEq a b y) (h' : PrEq a b' y') : PrEq a (b + b') (y + y') := ⟨by rw [Int.mul_add, h.eq, h'.eq, Int.add_mul]⟩
theorem prod_split {x b Ge Gb G ke kb K : Nat} (h1 : 2 ^ Ge ∣ fmag x) (h2 : 2 ^ Gb ∣ fmag b) (hG : G + 1074 = Ge + Gb) (k1 : fmag x ≤ 2 ^ ke) (k2 : fmag b ≤ 2 ^ kb) (hK : ke + kb ≤ K + 1074) :
 ∃ z : Int, PrEq (fval x) (fval b) z ∧ (2 : Int) ^ G ∣ z ∧ z.natAbs ≤ 2 ^ K := by
 obtain ⟨c, hc⟩ := dvd_val.mpr h1
 obtain ⟨d, hd⟩ := dvd_val.mpr h2
 have e : fval x * fval b = 2 ^ G * (c * d) * 2 ^ 1074 := by
  have : (2 : Int) ^ Ge * 2 ^ Gb = 2 ^ G * 2 ^ 1074 := by rw [← Int.pow_add, ← Int.pow_add, hG]
  rw [hc, hd]
  generalize (2 : Int) ^ 1074 = T at *; generalize (2 : Int) ^ Ge = I at *; generalize (2 : Int) ^ Gb = J at *; generalize (2 : Int) ^ G = E at *; grind
 refine ⟨2 ^ G * (c * d), ⟨e⟩, ⟨_, rfl⟩, ?_⟩
 have h3 : (fval x * fval b).natAbs ≤ 2 ^ (K + 1074) := by
  rw [Int.natAbs_mul, natAbs_fval, natAbs_fval]
  exact Nat.le_trans (Nat.mul_le_mul k1 k2) (by rw [← Nat.pow_add]; exact Nat.pow_le_pow_right (by decide) hK)
 rw [e, Int.natAbs_mul, Nat.pow_add, show ((2 : Int) ^ 1074).natAbs = 2 ^ 1074 from by rw [Int.natAbs_pow]; rfl] at h3
 exact Nat.le_of_mul_le_mul_right h3 (Nat.two_pow_pos _)
theorem prod_xp {x b Ge Gb G ke kb K : Nat} (hx : Fini x) (hb : Fini b) (x2 : fmag x ≤ 2 ^ ke) (x3 : 2 ^ Ge ∣ fmag x) (x4 : fval x ≠ 0) (b1 : 2 ^ 624 ≤ fmag b) (b2 : fmag b ≤ 2 ^ 1524) (bG : 2 ^ Gb ∣ fmag b) (bK : fmag b ≤ 2 ^ kb) (hG : G + 1074 = Ge + Gb) (hG2 : 216 ≤ G) (he1 : 624 ≤ Ge) (he2 : ke ≤ 1524) (hK : ke + kb ≤ K + 1074) :
 ∃ p r zz, Eft.eft_Prod.f x b = some (p, r) ∧ Fini p ∧ Fini r ∧ fval p + fval r = zz ∧ PrEq (fval x) (fval b) zz ∧ fmag p ≤ 2 ^ K ∧ fmag r ≤ 2 ^ K ∧ 2 ^ G ∣ fmag p ∧ 2 ^ G ∣ fmag r := by
 have x0 : fmag x ≠ 0 := fun h0 => x4 ((fval_zero_iff x).mpr h0)
 have b0 : fmag b ≠ 0 := fun h0 => by rw [h0] at b1; exact absurd b1 (by decide)
 have xl : 2 ^ Ge ≤ fmag x := Nat.le_of_dvd (Nat.pos_of_ne_zero x0) x3
 have bl : 2 ^ Gb ≤ fmag b := Nat.le_of_dvd (Nat.pos_of_ne_zero b0) bG
 have hGG : 1290 ≤ Ge + Gb := by clear b1 b2 x2 bK xl bl; omega
 obtain ⟨zz, z1, z2, z3⟩ := prod_split x3 bG hG x2 bK hK
 obtain ⟨p, r, p1, p2, p3, p4, p5⟩ := Eft.prod_ev hx hb (Nat.le_trans (Nat.pow_le_pow_right (by decide) he1) xl) (Nat.le_trans x2 (Nat.pow_le_pow_right (by decide) he2)) b1 b2 xl bl hGG z1.eq
 refine ⟨p, r, zz, p1, p2, p3, by rw [p4, p5]; clear b1 b2 x2 bK xl bl; omega, z1, ?_, ?_, ?_, ?_⟩
 ·rw [← natAbs_fval, p4]; exact Eft.R_lt z3
 ·rw [← natAbs_fval, p5]
  have h1 := Rnd.R_near zz Rnd.Rep_zero
  have e1 : (0 - zz).natAbs = zz.natAbs := by clear b1 b2 x2 bK xl bl z3; omega
  have e2 : (zz - Rnd.R zz).natAbs = (Rnd.R zz - zz).natAbs := by clear b1 b2 x2 bK xl bl z3 h1; omega
  rw [e2]; exact Nat.le_trans h1 (by rw [e1]; exact z3)
 ·exact dvd_val.mp (by rw [p4]; exact Rnd.R_grid z2)
 ·exact dvd_val.mp (by rw [p5]; exact Int.dvd_sub z2 (Rnd.R_grid z2))
theorem scaleL_xp {b Gb kb Ge ke G : Nat} (hb : Fini b) (b1 : 2 ^ 624 ≤ fmag b) (b2 : fmag b ≤ 2 ^ 1524) (bG : 2 ^ Gb ∣ fmag b) (bK : fmag b ≤ 2 ^ kb) (hG : G + 1074 = Ge + Gb) (hG2 : 216 ≤ G) (he1 : 624 ≤ Ge) (he2 : ke ≤ 1524) (e : List Nat) :
 ∀ (out : List Nat) (z : Int) (K : Nat), (∀ x ∈ e, Fini x ∧ fmag x ≤ 2 ^ ke ∧ 2 ^ Ge ∣ fmag x ∧ fval x ≠ 0) → Xp K G out z → ke + kb ≤ K + 1074 → out.length + 2 * e.length ≤ 64 → K + 12 * e.length ≤ 2000 →
 ∃ r y, Ev (fun q => scaleL q b e out) r ∧ PrEq (e.map fval).sum (fval b) y ∧ Xp (K + 12 * e.length) G r (z + y) ∧ r.length ≤ out.length + 2 * e.length := by
 induction e with
 | nil => exact fun out z K _ h _ _ _ => ⟨out, 0, ⟨0, fun q _ => rfl⟩, PrEq.zero _, by rw [Int.add_zero]; exact h, Nat.le_refl _⟩
 | cons x e ih =>
  intro out z K he h hK hl hk
  obtain ⟨x1, x2, x3, x4⟩ := he x (List.mem_cons_self ..)
  rw [List.length_cons] at hl hk
  obtain ⟨p, r, zz, p1, p2, p3, p4, p5, pb, rb, pG, rG⟩ := prod_xp x1 hb x2 x3 x4 b1 b2 bG bK hG hG2 he1 he2 hK
  have pb2 : fmag p ≤ 2 ^ (K + 6) := Nat.le_trans pb (Nat.pow_le_pow_right (by decide) (Nat.le_add_right _ _))
  clear b1 b2 bK x2 pb
  have n1 : K ≤ 2000 := by clear rb pb2; omega
  have n2 : out.length ≤ 63 := by clear rb pb2; omega
  have n3 : K + 6 ≤ 2000 := by clear rb pb2; omega
  obtain ⟨o1, q1, q2, q3⟩ := grow_xp h p3 rb rG n1 n2
  have n4 : o1.length ≤ 63 := by clear rb pb2; omega
  obtain ⟨o2, q4, q5, q6⟩ := grow_xp q2 p2 pb2 pG n3 n4
  clear rb pb2
  obtain ⟨rr, y, r1, r2, r3, r4⟩ := ih o2 _ (K + 6 + 6) (fun w hw => he w (List.mem_cons_of_mem _ hw)) q5 (by omega) (by omega) (by omega)
  refine ⟨rr, zz + y, ?_, ?_, ?_, by rw [List.length_cons]; omega⟩
  ·refine Ev.congr (f := fun q => (expand_grow.f q out r).bind fun o => (expand_grow.f q o p).bind (scaleL q b e)) (fun q => ?_) (Ev.bind q1 (Ev.bind q4 r1))
   simp only [scaleL]; rw [p1, Option.bind_some]
  ·rw [List.map_cons, List.sum_cons]; exact p5.add r2
  ·rw [List.length_cons, show K + 12 * (e.length + 1) = K + 6 + 6 + 12 * e.length from by omega, show z + (zz + y) = z + fval r + fval p + y from by omega]
   exact r3
theorem within_450 {b : Nat} (hb : Fini b) (b1 : 2 ^ 624 ≤ fmag b) (b2 : fmag b ≤ 2 ^ 1524) : expand_within.f b 2580562586483294208 6633802251116740608 = some true :=
 within_fin hb ⟨by decide, by decide⟩ ⟨by decide, by decide⟩ (by decide) (by decide) (by rw [show fmag 2580562586483294208 = 2 ^ 624 from by decide +kernel]; exact b1) (by rw [show fmag 6633802251116740608 = 2 ^ 1524 from by decide +kernel]; exact b2)
theorem scale_xp {b Gb kb Ge ke G K : Nat} {e : List Nat} {z : Int} (h : Xp ke Ge e z) (hb : Fini b) (b0 : fval b ≠ 0) (b2 : kb ≤ 1524) (bG : 2 ^ Gb ∣ fmag b) (bK : fmag b ≤ 2 ^ kb) (hG : G + 1074 = Ge + Gb) (hG2 : 600 ≤ G) (he1 : 624 ≤ Ge) (hb1 : 624 ≤ Gb) (he2 : ke ≤ 1524)
 (hK : ke + kb ≤ K + 1074) (hl : e.length ≤ 32) (hk : K + 12 * e.length ≤ 2000) :
 ∃ r y, Ev (fun q => expand_Scale.f q e b) r ∧ PrEq z (fval b) y ∧ Xp (K + 12 * e.length + 20) G r y ∧ r.length ≤ 2 * e.length := by
 have m0 : fmag b ≠ 0 := fun h0 => b0 ((fval_zero_iff b).mpr h0)
 have b1 : 2 ^ 624 ≤ fmag b := Nat.le_trans (Nat.pow_le_pow_right (by decide) hb1) (Nat.le_of_dvd (Nat.pos_of_ne_zero m0) bG)
 have b3 : fmag b ≤ 2 ^ 1524 := Nat.le_trans bK (Nat.pow_le_pow_right (by decide) b2)
 obtain ⟨o, y, o1, o2, o3, o4⟩ := scaleL_xp hb b1 b3 bG bK hG (Nat.le_trans (by decide) hG2) he1 he2 e [] 0 K (fun x hx => ⟨(h.fin x hx).1, (h.fin x hx).2, h.grid x hx, h.ne x hx⟩) (Xp.nil _ _) hK (by clear b1 b3 bK; rw [List.length_nil]; omega) hk
 rw [Int.zero_add] at o3
 rw [List.length_nil, Nat.zero_add] at o4
 obtain ⟨r, r1, r2, r3⟩ := closed_xp o3 hk (by clear b1 b3 bK; omega) hG2
 refine ⟨r, y, ?_, by rw [← h.sum]; exact o2, r2, Nat.le_trans r3 o4⟩
 refine Ev.congr (fun q => ?_) (Ev.bind o1 r1)
 unfold expand_Scale.f
 rw [if_pos ⟨by rw [eq_ev hb]; simp [b0], within_450 hb b1 b3⟩]
theorem mulL_xp {Gb kb Ge ke G K L : Nat} {e : List Nat} {z : Int} (h : Xp ke Ge e z) (b2 : kb ≤ 1524) (hG : G + 1074 = Ge + Gb) (hG2 : 600 ≤ G) (he1 : 624 ≤ Ge) (hb1 : 624 ≤ Gb) (he2 : ke ≤ 1524) (hK : ke + kb ≤ K + 1074) (hl : e.length ≤ 16) (hL : L ≤ 64) (f : List Nat) :
 ∀ (out : List Nat) (y : Int) (K' : Nat), (∀ x ∈ f, Fini x ∧ fmag x ≤ 2 ^ kb ∧ 2 ^ Gb ∣ fmag x ∧ fval x ≠ 0) → Xp K' G out y → K + 12 * e.length + 20 ≤ K' → out.length + 2 * e.length * f.length ≤ L → K' + (6 * L + 20) * f.length ≤ 2000 →
 ∃ r w, Ev (fun q => mulL q e f out) r ∧ PrEq z (f.map fval).sum w ∧ Xp (K' + (6 * L + 20) * f.length) G r (y + w) ∧ r.length ≤ out.length + 2 * e.length * f.length := by
 induction f with
 | nil => exact fun out y K' _ ho _ _ _ => ⟨out, 0, ⟨0, fun q _ => rfl⟩, PrEq.zero' _, by rw [Int.add_zero]; exact ho, Nat.le_refl _⟩
 | cons b f ih =>
  intro out y K' hf ho hKK hll hk
  obtain ⟨x1, x2, x3, x4⟩ := hf b (List.mem_cons_self ..)
  have hm : 2 * e.length * (b :: f).length = 2 * e.length * f.length + 2 * e.length := by rw [List.length_cons, Nat.mul_succ]
  have hm2 : K' + (6 * L + 20) * (b :: f).length = K' + (6 * L + 20) + (6 * L + 20) * f.length := by rw [List.length_cons, Nat.mul_succ, Nat.add_assoc, Nat.add_comm ((6 * L + 20) * _)]
  rw [hm] at hll
  rw [hm2] at hk
  rw [hm, hm2]
  have n0 : K + 12 * e.length ≤ 2000 := by clear x2 hm hm2; generalize (6 * L + 20) * f.length = M2 at *; omega
  obtain ⟨p, w1, p1, p2, p3, p4⟩ := scale_xp h x1 x4 b2 x3 x2 hG hG2 he1 hb1 he2 hK (Nat.le_trans hl (by decide)) n0
  clear x2 x3 x4 hm hm2
  have n1 : out.length + p.length ≤ L := by generalize 2 * e.length * f.length = M at *; omega
  have n2 : K' + 6 * (out.length + p.length) ≤ 2000 := by generalize (6 * L + 20) * f.length = M2 at *; omega
  have n3 : K' + 6 * (out.length + p.length) + 20 ≤ K' + (6 * L + 20) := by omega
  obtain ⟨o, o1, o2, o3⟩ := plus_xp ho (p3.mono hKK) (Nat.le_trans n1 hL) n2 hG2
  obtain ⟨r, w2, r1, r2, r3, r4⟩ := ih o _ (K' + (6 * L + 20)) (fun x hx => hf x (List.mem_cons_of_mem _ hx)) (o2.mono n3) (Nat.le_trans hKK (Nat.le_add_right _ _)) (by generalize 2 * e.length * f.length = M at *; omega) hk
  refine ⟨r, w1 + w2, ?_, ?_, ?_, by generalize 2 * e.length * f.length = M at *; omega⟩
  ·refine Ev.congr (f := fun q => (expand_Scale.f q e b).bind fun p' => if out.length + p'.length < 9223372036854775807 then (expand_plus.f q out p').bind (mulL q e f) else none) (fun q => by simp only [mulL]) (Ev.bind p1 (Ev.congr (fun q => ?_) (Ev.bind o1 r1)))
   rw [if_pos (Nat.lt_of_le_of_lt (Nat.le_trans n1 hL) (by decide))]
  ·rw [List.map_cons, List.sum_cons]; exact p2.add' r2
  ·rw [← Int.add_assoc]
   exact r3
set_option exponentiation.threshold 4000
open Go.RowKit Go.Proofs.YtaoichlepfiliaaGreatDoor.FltP Go.Proofs.YtaoichlepfiliaaGreatDoor.R Go.Proofs.YtaoichlepfiliaaGreatDoor.E Go.Proofs.YtaoichlepfiliaaGreatDoorW.PrintWords Go.Proofs.YtaoichlepfiliaaGreatDoorW.PrintLast Ieee
open Go.Proofs.YtaoichlepfiliaaGreatDoor.No
open Go.Proofs.YtaoichlepfiliaaGreatDoor.Rnd (Rep)
theorem neg_loop (e : List Nat) (he : ∀ x ∈ e, Fini x) (hn : e.length ≤ 1000) : ∀ (n i : Nat) (out : List Nat), i + n = e.length → out.length = e.length → Ev (fun j => expand_Neg.l0 j out e (e.length : Int) (i : Int)) (out.take i ++ (e.drop i).map fneg) := by
 intro n
 induction n with
 | zero =>
  intro i out hi ho
  have h1 : e.drop i = [] := List.drop_eq_nil_of_le (by omega)
  rw [h1, List.map_nil, List.append_nil, List.take_of_length_le (by omega)]
  exact Ev.step (f := fun _ => some out) (fun j => by rw [expand_Neg.l0, if_neg (by omega)]) (Ev.now _)
 | succ n ih =>
  intro i out hi ho
  have hlt : i < e.length := by omega
  have h0 := ih (i + 1) (out.set i (fneg (rdOf (0 : Nat) e (i : Int)))) (by omega) (by rw [List.length_set]; exact ho)
  have e1 : (out.set i (fneg (rdOf (0 : Nat) e (i : Int)))).take (i + 1) ++ (e.drop (i + 1)).map fneg = out.take i ++ (e.drop i).map fneg := by
   rw [drop_at hlt, List.map_cons, List.take_add_one, List.take_set_of_le (Nat.le_refl _), List.append_assoc]
   congr 1
   rw [List.getElem?_set_self (by omega)]
   rfl
  rw [e1] at h0
  refine Ev.step (fun j => ?_) h0
  have c1 : (i : Int) < (e.length : Int) := by omega
  have c2 : (i : Int) < (out.length : Int) := by omega
  rw [expand_Neg.l0, if_pos c1, if_pos (by omega), if_pos c1, if_pos c2, Int.toNat_natCast, wrap_succ (by omega)]
theorem neg_ev {e : List Nat} (he : ∀ x ∈ e, Fini x) (hn : e.length ≤ 1000) : Ev (fun j => expand_Neg.f j e) (e.map fneg) := by
 have h := neg_loop e he hn e.length 0 (List.replicate (e.length : Int).toNat 0) (by omega) (by simp)
 rw [List.take_zero, List.drop_zero, List.nil_append] at h
 refine Ev.congr (fun j => ?_) h
 unfold expand_Neg.f
 rw [if_pos (by omega), if_pos (by omega)]
 rfl
theorem O.neg2 {a b : Int} (h : O a b) : O (-a) (-b) := by
 obtain ⟨t, h1, h2⟩ := h
 exact ⟨t, by rw [Int.natAbs_neg]; exact h1, by rw [Int.dvd_neg]; exact h2⟩
theorem map_neg_val {l : List Nat} (h : ∀ x ∈ l, Fini x) : (l.map fneg).map fval = (l.map fval).map (fun z => -z) := by
 rw [List.map_map, List.map_map]
 exact List.map_congr_left fun x hx => fval_neg (h x hx)
theorem sum_neg (l : List Int) : (l.map (fun z => -z)).sum = -l.sum := by
 induction l with
 | nil => rfl
 | cons x xs ih => rw [List.map_cons, List.sum_cons, ih, List.sum_cons]; omega
theorem Xp.neg {k G : Nat} {l : List Nat} {z : Int} (h : Xp k G l z) : Xp k G (l.map fneg) (-z) := by
 have hf : ∀ x ∈ l, Fini x := fun x hx => (h.fin x hx).1
 refine ⟨fun y hy => ?_, fun y hy => ?_, fun y hy => ?_, ?_, ?_⟩
 ·obtain ⟨x, hx, rfl⟩ := List.mem_map.mp hy
  exact ⟨(hf x hx).neg, by rw [fmag_neg (hf x hx)]; exact (h.fin x hx).2⟩
 ·obtain ⟨x, hx, rfl⟩ := List.mem_map.mp hy
  rw [fmag_neg (hf x hx)]; exact h.grid x hx
 ·obtain ⟨x, hx, rfl⟩ := List.mem_map.mp hy
  rw [fval_neg (hf x hx)]; have := h.ne x hx; omega
 ·rw [map_neg_val hf]
  exact List.Pairwise.map _ (fun a b hab => O.neg2 hab) h.no
 ·rw [map_neg_val hf, sum_neg, h.sum]
theorem check_xp {k G : Nat} {l : List Nat} {z : Int} (h : Xp k G l z) (hk : k ≤ 2000) (hG : 600 ≤ G) (hn : l.length ≤ 64) : Ev (fun q => expand_Check.f q l) true := by
 have ha : Ev (fun j => expand_all.f j l 1 9065746049896808448) true := all_ev (h.big hG) (fun x hx => within_fin (h.fin x hx).1 ⟨by decide, by decide⟩ ⟨by decide, by decide⟩ (by decide) (by decide) (by rw [show fmag 1 = 1 from by decide]; exact Nat.le_trans (Nat.one_le_two_pow) (h.low x hx)) (by rw [show fmag 9065746049896808448 = 2 ^ 2064 from by decide +kernel]; exact Nat.le_trans (h.fin x hx).2 (Nat.pow_le_pow_right (by decide) (Nat.le_trans hk (by decide))))) h.no hn
 exact Ev.bind ha (Ev.now _)
theorem safe_xp {k G : Nat} {l : List Nat} {z : Int} (h : Xp k G l z) (hk : k ≤ 1524) (hG : 624 ≤ G) (hn : l.length ≤ 64) : Ev (fun q => expand_Safe.f q l) true := by
 have ha : Ev (fun j => expand_all.f j l 2580562586483294208 6633802251116740608) true := all_ev (h.big (Nat.le_trans (by decide) hG)) (fun x hx => within_450 (h.fin x hx).1 (Nat.le_trans (Nat.pow_le_pow_right (by decide) hG) (h.low x hx)) (Nat.le_trans (h.fin x hx).2 (Nat.pow_le_pow_right (by decide) hk))) h.no hn
 exact Ev.bind ha (Ev.now _)
theorem sign_xp {k G : Nat} {l : List Nat} {z : Int} (h : Xp k G l z) (hk : k ≤ 2000) (hG : 600 ≤ G) (hn : l.length ≤ 64) : Ev (fun q => expand_Sign.f q l) z.sign := by
 have hc := check_xp h hk hG hn
 have hj : Ev (fun q => expand_Sign.j0 q l ((l.length : Int) == 0)) z.sign := by
  rcases List.eq_nil_or_concat l with rfl | ⟨l', y, rfl⟩
  ·have : z = 0 := by rw [← h.sum]; rfl
   subst this
   exact Ev.step (f := fun _ => some 0) (fun j => by rfl) (Ev.now _)
  ·rw [List.concat_eq_append] at *
   have hm : y ∈ l' ++ [y] := by simp
   have hy := h.fin y hm
   have hno := h.no
   rw [List.map_append, List.map_cons, List.map_nil] at hno
   have hs := last_sign hno (by
    intro x hx
    rw [show l'.map fval ++ [fval y] = (l' ++ [y]).map fval from by simp] at hx
    obtain ⟨w, hw, rfl⟩ := List.mem_map.mp hx
    exact h.ne w hw)
   rw [show l'.map fval ++ [fval y] = (l' ++ [y]).map fval from by simp, h.sum] at hs
   have hlen : (l' ++ [y]).length = l'.length + 1 := by simp
   have hlt : l'.length ≤ 63 := by rw [hlen] at hn; omega
   have hne := h.ne y hm
   refine Ev.step (f := fun _ => some z.sign) (fun j => ?_) (Ev.now _)
   have hrd : rdOf (0 : Nat) (l' ++ [y]) (l'.length : Int) = y := by simp [rdOf]
   rw [hlen, expand_Sign.j0, show ((((l'.length + 1 : Nat) : Int)) == 0) = false from by rw [beq_eq_false_iff_ne]; omega, if_neg (by decide)]
   rw [show ((l' ++ [y]).length : Int) = ((l'.length + 1 : Nat) : Int) from by rw [hlen], (wrap_idx (Nat.le_trans hlt (by decide))).1, if_pos (by omega), if_pos (by omega), hrd, Eft.order_some hy.1 (y := 0) ⟨by decide, by decide⟩, Eft.fval_c (c := 0) (m := 0) (by decide) (by decide +kernel)]
   rcases Int.lt_trichotomy (fval y) 0 with h1 | h1 | h1
   ·rw [Int.compare_eq_lt.mpr (by omega), if_pos (by rfl), Int.sign_eq_neg_one_of_neg (hs.2.mpr h1)]
   ·exact absurd h1 hne
   ·rw [Int.compare_eq_gt.mpr (by omega), if_neg (by decide), Int.sign_eq_one_of_pos (hs.1.mpr h1)]
 refine Ev.congr (f := fun q => (expand_Check.f q l).bind fun t => if t = true then expand_Sign.j0 q l ((l.length : Int) == 0) else expand_Sign.j0 q l true) (fun q => rfl) (Ev.bind hc ?_)
 exact Ev.congr (fun q => if_pos rfl) hj
theorem cmp_xp {k G : Nat} {e f : List Nat} {y z : Int} (he : Xp k G e y) (hf : Xp k G f z) (hn : e.length + f.length ≤ 64) (hk : k + 6 * (e.length + f.length) + 20 ≤ 2000) (hG : 600 ≤ G) : Ev (fun q => expand_Cmp.f q e f) (y - z).sign := by
 have hl : (f.map fneg).length = f.length := List.length_map ..
 obtain ⟨r, r1, r2, r3⟩ := plus_xp he hf.neg (by rw [hl]; exact hn) (by rw [hl]; omega) hG
 rw [hl] at r2 r3
 have hs := sign_xp r2 hk hG (Nat.le_trans r3 hn)
 rw [show y + -z = y - z from by omega] at hs
 refine Ev.bind (neg_ev (fun x hx => (hf.fin x hx).1) (by omega)) ?_
 exact Ev.congr (fun q => if_pos (by rw [hl]; omega)) (Ev.bind r1 hs)
theorem less_xp {x y : Nat} (hx : GoodF x) (hy : GoodF y) : ∃ r, Ev (fun q => orient_exactly_1.f q x y) r ∧ Xp 1175 974 r (fval x - fval y) ∧ r.length ≤ 2 := by
 obtain ⟨x1, x2, x3⟩ := hx
 obtain ⟨y1, y2, y3⟩ := hy
 have up : (2 : Nat) ^ 1174 ≤ 2 ^ 2074 := Nat.pow_le_pow_right (by decide) (by decide)
 obtain ⟨d, t, e1, e2, e3, e4, e5⟩ := Eft.sum_ev x1 y1.neg (Nat.le_trans x2 up) (by rw [fmag_neg y1]; exact Nat.le_trans y2 up)
 rw [fval_neg y1, show fval x + -fval y = fval x - fval y from by clear x2 y2 up; omega] at e4 e5
 have hD : (2 : Int) ^ 974 ∣ fval x - fval y := Int.dvd_sub (dvd_val.mpr x3) (dvd_val.mpr y3)
 have hb : (fval x - fval y).natAbs ≤ 2 ^ 1175 := by
  have h1 : (fval x - fval y).natAbs ≤ fmag x + fmag y := by rw [← natAbs_fval, ← natAbs_fval]; clear x2 y2 up; omega
  refine Nat.le_trans h1 (Nat.le_trans (Nat.add_le_add x2 y2) ?_)
  rw [show (1175 : Nat) = 1174 + 1 from rfl, Nat.pow_succ, Nat.mul_two]; exact Nat.le_refl _
 generalize fval x - fval y = z at *
 have d2 : fmag d ≤ 2 ^ 1175 := by rw [← natAbs_fval, e4]; exact Eft.R_lt hb
 have t2 : fmag t ≤ 2 ^ 1175 := by
  rw [← natAbs_fval, e5]
  have h1 := Rnd.R_near z Rnd.Rep_zero
  have i1 : (0 - z).natAbs = z.natAbs := by clear x2 y2 up hb d2 h1; omega
  have i2 : (z - Rnd.R z).natAbs = (Rnd.R z - z).natAbs := by clear x2 y2 up hb d2 h1; omega
  rw [i2]; exact Nat.le_trans h1 (by rw [i1]; exact hb)
 have dG : 2 ^ 974 ∣ fmag d := dvd_val.mp (by rw [e4]; exact Rnd.R_grid hD)
 have tG : 2 ^ 974 ∣ fmag t := dvd_val.mp (by rw [e5]; exact Int.dvd_sub hD (Rnd.R_grid hD))
 have hlow : O (fval t) (fval d) := by rw [e4, e5]; exact rest_low z
 have hsum : fval t + fval d = z := by rw [e4, e5]; clear x2 y2 up hb d2 t2; omega
 clear x2 y2 x3 y3 up hb hD
 have hev : ∀ r, Ev (fun q => orient_exactly_1.l0 q [] [t, d] 2 0) r → Ev (fun q => orient_exactly_1.f q x y) r := fun r h => by
  refine Ev.congr (fun q => ?_) h
  unfold orient_exactly_1.f eft_Diff.f E.eft_Sum.f
  rw [e1]; rfl
 have r1 : ∀ q out, orient_exactly_1.l0 (q + 1) out [t, d] 2 1 = if fval d ≠ 0 then (if out.length < 17592186044416 then orient_exactly_1.l0 q (out ++ [d]) [t, d] 2 2 else none) else orient_exactly_1.l0 q out [t, d] 2 2 := fun q out => by
  rw [orient_exactly_1.l0, if_pos (by decide), if_pos (by decide), if_pos (by simp), show rdOf (0 : Nat) [t, d] 1 = d from rfl, ne_ev e2, show wrap64 (1 + 1) = 2 from by unfold wrap64; omega]
  by_cases h : fval d = 0
  ·rw [if_neg (by simp [h]), if_neg (by simp [h])]
  ·rw [if_pos (by simp [h]), if_pos h]
 have r0 : ∀ q, orient_exactly_1.l0 (q + 1) [] [t, d] 2 0 = if fval t ≠ 0 then orient_exactly_1.l0 q [t] [t, d] 2 1 else orient_exactly_1.l0 q [] [t, d] 2 1 := fun q => by
  rw [orient_exactly_1.l0, if_pos (by decide), if_pos (by decide), if_pos (by simp), show rdOf (0 : Nat) [t, d] 0 = t from rfl, ne_ev e3, show wrap64 (0 + 1) = 1 from by unfold wrap64; omega]
  by_cases h : fval t = 0
  ·rw [if_neg (by simp [h]), if_neg (by simp [h])]
  ·rw [if_pos (by simp [h]), if_pos (by decide), if_pos h]; rfl
 have r2 : ∀ q out, orient_exactly_1.l0 (q + 1) out [t, d] 2 2 = some out := fun q out => by rw [orient_exactly_1.l0, if_neg (by decide)]
 by_cases ht : fval t = 0
 ·by_cases hd : fval d = 0
  ·refine ⟨[], hev _ (Ev.step (fun q => (r0 q).trans (if_neg (by simp [ht]))) (Ev.step (fun q => (r1 q []).trans (if_neg (by simp [hd]))) (Ev.step (f := fun _ => some []) (fun q => r2 q []) (Ev.now _)))), ?_, by decide⟩
   rw [← hsum, ht, hd]; exact Xp.nil _ _
  ·refine ⟨[d], hev _ (Ev.step (fun q => (r0 q).trans (if_neg (by simp [ht]))) (Ev.step (f := fun q => orient_exactly_1.l0 q [d] [t, d] 2 2) (fun q => (r1 q []).trans (by rw [if_pos hd, if_pos (by decide)]; rfl)) (Ev.step (f := fun _ => some [d]) (fun q => r2 q [d]) (Ev.now _)))), ?_, by simp⟩
   refine ⟨fun w hw => ?_, fun w hw => ?_, fun w hw => ?_, List.pairwise_singleton _ _, ?_⟩
   ·rw [List.mem_singleton.mp hw]; exact ⟨e2, d2⟩
   ·rw [List.mem_singleton.mp hw]; exact dG
   ·rw [List.mem_singleton.mp hw]; exact hd
   ·rw [← hsum, ht, List.map_cons, List.map_nil, List.sum_cons, List.sum_nil, Int.add_zero, Int.zero_add]
 ·by_cases hd : fval d = 0
  ·exfalso
   obtain ⟨u, u1, u2⟩ := hlow
   have hz := e4.symm.trans hd
   have := Rnd.R_eq_zero hz
   rw [e5, this] at ht
   exact ht (by rw [Rnd.R_zero]; rfl)
  ·refine ⟨[t, d], hev _ (Ev.step (fun q => (r0 q).trans (if_pos ht)) (Ev.step (f := fun q => orient_exactly_1.l0 q [t, d] [t, d] 2 2) (fun q => (r1 q [t]).trans (by rw [if_pos hd, if_pos (by simp)]; rfl)) (Ev.step (f := fun _ => some [t, d]) (fun q => r2 q [t, d]) (Ev.now _)))), ?_, by simp⟩
   have two : ∀ {Q : Nat → Prop}, Q t → Q d → ∀ w ∈ [t, d], Q w := fun {Q} h1 h2 w hw => by
    rcases List.mem_cons.mp hw with rfl | hw
    ·exact h1
    ·rw [List.mem_singleton.mp hw]; exact h2
   refine ⟨two ⟨e3, t2⟩ ⟨e2, d2⟩, two tG dG, two ht hd, ?_, ?_⟩
   ·exact List.pairwise_cons.mpr ⟨fun w hw => by rw [List.mem_singleton.mp hw]; exact hlow, List.pairwise_singleton _ _⟩
   ·rw [← hsum, List.map_cons, List.map_cons, List.map_nil, List.sum_cons, List.sum_cons, List.sum_nil, Int.add_zero]
theorem side_xp {a b c d : Nat} (ha : GoodF a) (hb : GoodF b) (hc : GoodF c) (hd : GoodF d) : ∃ r w, Ev (fun q => side q a b c d) r ∧ PrEq (fval a - fval b) (fval c - fval d) w ∧ Xp 1500 874 r w ∧ r.length ≤ 8 := by
 obtain ⟨e, e1, e2, e3⟩ := less_xp ha hb
 obtain ⟨f, f1, f2, f3⟩ := less_xp hc hd
 have s1 := safe_xp e2 (by decide) (by decide) (Nat.le_trans e3 (by decide))
 have s2 := safe_xp f2 (by decide) (by decide) (Nat.le_trans f3 (by decide))
 have hl : 2 * e.length * f.length ≤ 8 := Nat.le_trans (Nat.mul_le_mul (Nat.mul_le_mul_left 2 e3) f3) (by decide)
 have hl2 : (6 * 8 + 20) * f.length ≤ 136 := Nat.le_trans (Nat.mul_le_mul_left _ f3) (by decide)
 obtain ⟨r, w, r1, r2, r3, r4⟩ := mulL_xp (K := 1276) (L := 8) (G := 874) e2 (kb := 1175) (Gb := 974) (by decide) (by decide) (by decide) (by decide) (by decide) (by decide) (by decide) (Nat.le_trans e3 (by decide)) (by decide) f [] 0 1320 (fun x hx => ⟨(f2.fin x hx).1, (f2.fin x hx).2, f2.grid x hx, f2.ne x hx⟩) (Xp.nil _ _) (by omega) (by rw [List.length_nil, Nat.zero_add]; exact hl) (by omega)
 rw [Int.zero_add] at r3
 rw [List.length_nil, Nat.zero_add] at r4
 refine ⟨r, w, ?_, by rw [f2.sum] at r2; exact r2, r3.mono (by omega), Nat.le_trans r4 hl⟩
 refine Ev.bind e1 (Ev.bind f1 ?_)
 obtain ⟨K1, h1⟩ := s1
 obtain ⟨K2, h2⟩ := s2
 obtain ⟨K3, h3⟩ := r1
 exact ⟨K1 + K2 + K3, fun q hq => by
  show (if expand_Safe.f q e = some true ∧ expand_Safe.f q f = some true then mulL q e f [] else none) = some r
  rw [if_pos ⟨h1 q (by omega), h2 q (by omega)⟩]
  exact h3 q (by omega)⟩
def detF (ax ay bx b_y cx cy : Nat) : Int := (fval bx - fval ax) * (fval cy - fval ay) - (fval b_y - fval ay) * (fval cx - fval ax)
theorem sign_scale {a b : Int} (h : a = b * 2 ^ 1074) : a.sign = b.sign := by
 rw [h, Int.sign_mul, show ((2 : Int) ^ 1074).sign = 1 from Int.sign_eq_one_of_pos (Int.pow_pos (by decide)), Int.mul_one]
theorem exactly_ev {ax ay bx b_y cx cy : Nat} (h1 : GoodF ax) (h2 : GoodF ay) (h3 : GoodF bx) (h4 : GoodF b_y) (h5 : GoodF cx) (h6 : GoodF cy) : Ev (fun q => exactly.f q ax ay bx b_y cx cy) (detF ax ay bx b_y cx cy).sign := by
 obtain ⟨p, y, p1, p2, p3, p4⟩ := side_xp h3 h1 h6 h2
 obtain ⟨s, z, s1, s2, s3, s4⟩ := side_xp h4 h2 h5 h1
 have c1 := check_xp p3 (by decide) (by decide) (Nat.le_trans p4 (by decide))
 have c2 := check_xp s3 (by decide) (by decide) (Nat.le_trans s4 (by decide))
 have hc := cmp_xp p3 s3 (by omega) (by omega) (by decide)
 rw [show (detF ax ay bx b_y cx cy).sign = (y - z).sign from sign_scale (by unfold detF; rw [p2.eq, s2.eq, Int.sub_mul])]
 refine Ev.bind p1 (Ev.bind s1 ?_)
 obtain ⟨K1, k1⟩ := c1
 obtain ⟨K2, k2⟩ := c2
 obtain ⟨K3, k3⟩ := hc
 exact ⟨K1 + K2 + K3, fun q hq => by
  show (if expand_Check.f q p = some true ∧ expand_Check.f q s = some true then expand_Cmp.f q p s else none) = _
  rw [if_pos ⟨k1 q (by omega), k2 q (by omega)⟩]
  exact k3 q (by omega)⟩
end Go.Proofs.YtaoichlepfiliaaGreatDoor.Exp
