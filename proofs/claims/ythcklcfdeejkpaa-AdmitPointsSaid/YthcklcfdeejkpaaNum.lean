/- The calls of trivetref01's functions, by values; and which coordinates the references take: those that are good. Conditions stand in each sentence. -/
import Derived.Test.YthcklcfdeejkpaaNumA
import Derived.Test.YthcklcfdeejkpaaFltS
namespace Go.Proofs.Ythcklcfdeejkpaa.Num
set_option exponentiation.threshold 4000
open Go.RowKit Go.Proofs.Ythcklcfdeejkpaa.NumP Go.Proofs.Ythcklcfdeejkpaa.NumQ Go.Proofs.Ythcklcfdeejkpaa.FltP Go.Proofs.Ythcklcfdeejkpaa.R Go.Proofs.YthcklcfdeejkpaaW.PrintWords Go.Proofs.YthcklcfdeejkpaaW.PrintLast Go.Proofs.YthcklcfdeejkpaaW.PrintMore

theorem zero_fin : Fini 0 := ⟨by decide, by decide⟩
theorem zero_val : fval 0 = 0 := by decide
theorem two53 : Fini 4845873199050653696 ∧ fsig 4845873199050653696 = 2 ^ 52 ∧ fpl 4845873199050653696 = 1075 ∧ fsgn 4845873199050653696 = false := ⟨⟨by decide, by decide⟩, by decide, by decide, by decide⟩

/-- Of a positive one. -/
theorem of_body (y : Nat) (hy : Fini y) (hp : y < 2 ^ 63) (hne : fmag y ≠ 0) : ∃ (s f m : Nat) (e : Int) (P : Int × List Int × Int), Ev (fun k => math_Frexp.f k y) (f, e) ∧ floatBits .mul .f64 f 4845873199050653696 = some m ∧ floatToIntVal .f64 m .u64 = some (s : Int) ∧ wrap64 (e - 53) = e - 53 ∧ Ev (fun k => trivetref01_Power.f k s (e - 53)) P ∧ Worth P.1 P.2.1 P.2.2 47 1010 ((fmag y : Int) * 2 ^ 54) := by
  obtain ⟨s, e, s1, s2, e1, e2, hv, hev⟩ := frexp_ev hy hp hne
  obtain ⟨g1, g2, g3, g4⟩ := half_fin s s1 s2
  obtain ⟨t1, t2, t3, t4⟩ := two53
  have hex : fsig (s - 2 ^ 52 + 1022 * 2 ^ 52) * fsig 4845873199050653696 * 2 ^ (fpl (s - 2 ^ 52 + 1022 * 2 ^ 52) + fpl 4845873199050653696 - 1074) = s * 2 ^ 1074 := by
    rw [g2, g3, t2, t3, Nat.mul_assoc, ← Nat.pow_add]
  have hrn : rnd (s * 2 ^ 1074) = s * 2 ^ 1074 := rnd_exact rfl s2
  obtain ⟨r, r1, r2, r3, r4⟩ := mul_val g1 t1 (.inl (by rw [g3, t3]; omega)) (by
    rw [hex, hrn]
    have := Nat.mul_lt_mul_of_pos_right s2 (Nat.two_pow_pos 1074)
    rw [← Nat.pow_add] at this
    exact Nat.lt_of_lt_of_le this (Nat.pow_le_pow_right (by decide) (by omega)))
  rw [hex, hrn] at r3
  rw [g4, t4] at r4
  obtain ⟨P, p1, p2⟩ := power_ev (s : Int) (e - 53) (by omega) (by omega) (by omega) (by omega) 47 (by omega)
  refine ⟨s, _, r, e, P, hev, r1, ?_, w64 rfl (by omega) (by omega), p1, ?_⟩
  · unfold floatToIntVal
    rw [toInt_val r2, r4, r3, Nat.mul_div_cancel _ (Nat.two_pow_pos _)]
    simp only [Bool.xor_self, Bool.false_eq_true, if_false]
    rw [if_pos]
    have hmin : IntKind.u64.min = 0 := rfl
    have hmax : IntKind.u64.max = 18446744073709551615 := rfl
    rw [hmin, hmax]; omega
  · rw [show (fmag y : Int) * 2 ^ 54 = (s : Int) * 2 ^ (24 * ((47 : Nat) : Int) + (e - 53)).toNat from by
      have h1 : ((fmag y * 2 ^ 52 : Nat) : Int) = ((s * 2 ^ (e + 1073).toNat : Nat) : Int) := by rw [hv]
      simp only [Int.natCast_mul, Int.natCast_pow] at h1
      rw [show (24 * ((47 : Nat) : Int) + (e - 53)).toNat = (e + 1073).toNat + 2 from by omega, Int.pow_add, ← Int.mul_assoc]
      rw [show (54 : Nat) = 52 + 2 from rfl, Int.pow_add, ← Int.mul_assoc]
      exact congrArg (· * (2 : Int) ^ 2) h1]
    exact p2
/-- Of: the number that a float denotes, in units of 2 ^ (-1128). -/
theorem of_ev {x : Nat} (hx : Fini x) : ∃ r, Ev (fun k => trivetref01_Of.f k x) r ∧ Worth r.1 r.2.1 r.2.2 47 1010 (fval x * 2 ^ 54) := by
  have n1 : (FloatKind.f64.format.order x x != some .eq) = false := by rw [bne, eq_fin hx hx]; simp
  have n2 : (FloatKind.f64.format.order 0 0 != some .eq) = false := by rw [bne, eq_fin zero_fin zero_fin]; simp
  have head {r : Int × List Int × Int} (h : Ev (fun k => trivetref01_Of.j0 k x (FloatKind.f64.format.order x 0 == some .eq)) r) : Ev (fun k => trivetref01_Of.f k x) r := by
    refine Ev.congr (fun k => ?_) h
    unfold trivetref01_Of.f
    rw [if_neg (by rw [n1]; decide), sub_self hx]; simp only [Option.bind_some]
    rw [if_neg (by rw [n2]; decide)]
  by_cases h0 : fval x = 0
  · refine ⟨(0, [], 0), head (Ev.step (f := fun _ => some (0, [], 0)) (fun k => ?_) (Ev.now _)), ?_⟩
    · simp only [trivetref01_Of.j0]
      rw [if_pos (by rw [eq_fin hx zero_fin, zero_val]; simpa using h0)]
    · rw [h0, Int.zero_mul]; exact Worth.zero _ _
  have e0 : (FloatKind.f64.format.order x 0 == some .eq) = false := by rw [eq_fin hx zero_fin, zero_val]; simpa using h0
  have body := of_body
  by_cases hneg : fval x < 0
  · have hy := hx.neg
    have hyv := fval_neg hx
    have hyp : fneg x < 2 ^ 63 := by
      apply Classical.byContradiction
      intro hge
      have := hy.2
      have : fsgn (fneg x) = true := by unfold fsgn; rw [show fneg x / 2 ^ 63 % 2 = 1 from by omega]; rfl
      have hv2 : fval (fneg x) = -(fmag (fneg x) : Int) := by unfold fval; rw [this]; rfl
      omega
    have hmv : (fmag (fneg x) : Int) = -fval x := by rw [← fval_nonneg hyp, hyv]
    obtain ⟨s, f, m, e, P, q1, q2, q3, q4, q5, q6⟩ := body (fneg x) hy hyp (by omega)
    refine ⟨(-1, P.2.1, P.2.2), head (Ev.step (f := fun k => trivetref01_Of.j1 k x (fneg x)) (fun k => ?_) (Ev.step (f := fun k => (math_Frexp.f k (fneg x)).bind fun bt => (floatBits .mul .f64 bt.1 4845873199050653696).bind fun t143 => (floatToIntVal .f64 t143 .u64).bind fun t144 => (trivetref01_Power.f k t144 (wrap64 (bt.2 - 53))).bind fun b => if (FloatKind.f64.format.order x 0 == some .lt) = true then some (-1, b.2.1, b.2.2) else some (b.1, b.2.1, b.2.2)) (fun k => ?_) (Ev.bind q1 ?_))), ?_⟩
    · simp only [trivetref01_Of.j0]
      rw [if_neg (by rw [e0]; decide), if_pos (by rw [lt_fin hx zero_fin, zero_val]; simpa using hneg)]
    · simp only [trivetref01_Of.j1]
    · refine Ev.congr (f := fun k => (trivetref01_Power.f k s (e - 53)).bind fun b => if (FloatKind.f64.format.order x 0 == some .lt) = true then some (-1, b.2.1, b.2.2) else some (b.1, b.2.1, b.2.2)) (fun k => ?_) (Ev.bind q5 ?_)
      · rw [q2]; simp only [Option.bind_some]
        rw [q3]; simp only [Option.bind_some]
        rw [q4]
      · exact Ev.congr (fun k => by rw [if_pos (by rw [lt_fin hx zero_fin, zero_val]; simpa using hneg)]) (Ev.now _)
    · have := q6.neg
      rw [hmv] at this
      have hP : P.1 = 1 := by
        rw [q6.sign, hmv]
        exact Int.sign_eq_one_of_pos (Int.mul_pos (by omega) (Int.pow_pos (by omega)))
      rw [hP] at this
      rw [show fval x * 2 ^ 54 = -(-fval x * 2 ^ 54) from by grind]
      exact this
  · have hxp : x < 2 ^ 63 := by
      apply Classical.byContradiction
      intro hge
      have := hx.2
      have hs : fsgn x = true := by unfold fsgn; rw [show x / 2 ^ 63 % 2 = 1 from by omega]; rfl
      have hv2 : fval x = -(fmag x : Int) := by unfold fval; rw [hs]; rfl
      omega
    have hmv : (fmag x : Int) = fval x := (fval_nonneg hxp).symm
    obtain ⟨s, f, m, e, P, q1, q2, q3, q4, q5, q6⟩ := body x hx hxp (by omega)
    refine ⟨(P.1, P.2.1, P.2.2), head (Ev.step (f := fun k => trivetref01_Of.j1 k x x) (fun k => ?_) (Ev.step (f := fun k => (math_Frexp.f k x).bind fun bt => (floatBits .mul .f64 bt.1 4845873199050653696).bind fun t143 => (floatToIntVal .f64 t143 .u64).bind fun t144 => (trivetref01_Power.f k t144 (wrap64 (bt.2 - 53))).bind fun b => if (FloatKind.f64.format.order x 0 == some .lt) = true then some (-1, b.2.1, b.2.2) else some (b.1, b.2.1, b.2.2)) (fun k => ?_) (Ev.bind q1 ?_))), by rw [hmv] at q6; exact q6⟩
    · simp only [trivetref01_Of.j0]
      rw [if_neg (by rw [e0]; decide), if_neg (by rw [lt_fin hx zero_fin, zero_val]; simpa using hneg)]
    · simp only [trivetref01_Of.j1]
    · refine Ev.congr (f := fun k => (trivetref01_Power.f k s (e - 53)).bind fun b => if (FloatKind.f64.format.order x 0 == some .lt) = true then some (-1, b.2.1, b.2.2) else some (b.1, b.2.1, b.2.2)) (fun k => ?_) (Ev.bind q5 ?_)
      · rw [q2]; simp only [Option.bind_some]
        rw [q3]; simp only [Option.bind_some]
        rw [q4]
      · exact Ev.congr (fun k => by rw [if_neg (by rw [lt_fin hx zero_fin, zero_val]; simpa using hneg)]) (Ev.now _)

theorem order_inf_inf {x : Nat} (h : x % 2 ^ 63 = 2047 * 2 ^ 52) : FloatKind.f64.format.order x x = some .eq := by
  rw [fmt_eq]; unfold Ieee.Format.order; rw [read_inf h]; simp only [Ieee.Datum.order]; cases fsgn x <;> rfl
/-- Infinity less itself: some NaN, whichever the tape gives. -/
theorem sub_inf {P : Program} {x : Nat} (h : x % 2 ^ 63 = 2047 * 2 ^ 52) : ∃ b : World → Nat, (∀ w, 2047 * 2 ^ 52 < b w % 2 ^ 63) ∧ ∀ t w, (binOp .sub t (.float .f64 x) (.float .f64 x)).run P w = .ok (.float .f64 (b w)) w.drew := by
  have h0 : FloatKind.f64.format.sub x x = none := by
    rw [fmt_eq]; unfold Ieee.Format.sub; rw [read_inf h]; cases fsgn x <;> rfl
  refine ⟨fun w => (Question.nanBits .f64 x x).cut (w.tape w.drawn (.nanBits .f64 x x)), fun w => ?_, fun t w => ?_⟩
  · simp only [Question.cut]
    generalize w.tape w.drawn (.nanBits .f64 x x) = n
    have h1 : n / 2 % (2 ^ 52 - 1) < 2 ^ 52 - 1 := Nat.mod_lt _ (by decide)
    have h2 : n % 2 < 2 := Nat.mod_lt _ (by decide)
    generalize n / 2 % (2 ^ 52 - 1) = u at *
    generalize n % 2 = v at *
    omega
  · simp [binOp, Op.floatArith, h0, Question.forced]

theorem nan_none {x : Nat} (h : 2047 * 2 ^ 52 < x % 2 ^ 63) : goodB x = false := decide_eq_false (fun hg : GoodF x => by have := hg.1.1; omega)
theorem inf_none {x : Nat} (h : x % 2 ^ 63 = 2047 * 2 ^ 52) : goodB x = false := decide_eq_false (fun hg : GoodF x => by have := hg.1.1; omega)
/-- The parts of the test, by values. -/
theorem coord_parts {x : Nat} (hx : Fini x) (h0 : fval x ≠ 0) : ∃ (a p : Int × List Int × Int) (S' l : Int), Ev (fun k => trivetref01_Of.f k x) a ∧ trivetref01_Abs.f a.1 a.2.1 a.2.2 = some (S', a.2.1, a.2.2) ∧ Ev (fun k => trivetref01_Power.f k 1 100) p ∧
    (∃ c : Int, Ev (fun k => trivetref01_Cmp.f k S' a.2.1 a.2.2 p.1 p.2.1 p.2.2) c ∧ (c ≤ 0 ↔ fmag x ≤ 2 ^ 1174)) ∧ Ev (fun k => trivetref01_Low.f k a.1 a.2.1 a.2.2) l ∧ (-100 ≤ l ↔ 2 ^ 974 ∣ fmag x) := by
  obtain ⟨a, a1, a2⟩ := of_ev hx
  obtain ⟨S', b1, b2⟩ := abs_some a2
  obtain ⟨p, p1, p2⟩ := power_ev 1 100 (by omega) (by omega) (by omega) (by omega) 47 (by omega)
  have hp54 : (0 : Int) < 2 ^ 54 := Int.pow_pos (by omega)
  obtain ⟨l, l1, l2⟩ := low_ev a2 (Int.mul_ne_zero h0 (by omega)) (by omega)
  refine ⟨a, p, S', l, a1, b1, p1, ⟨_, cmp_ev b2 p2 (by omega), ?_⟩, l1, ?_⟩
  · rw [Int.one_mul, Int.natAbs_mul, natAbs_fval, show (2 ^ 54 : Int).natAbs = 2 ^ 54 from rfl, show (24 * ((47 : Nat) : Int) + 100).toNat = 1174 + 54 from rfl]
    have key : ((fmag x * 2 ^ 54 : Nat) : Int) - 2 ^ (1174 + 54) = ((fmag x : Int) - 2 ^ 1174) * 2 ^ 54 := by
      rw [Int.natCast_mul, Int.pow_add, Int.sub_mul]; rfl
    rw [key, Int.sign_mul, Int.sign_eq_one_of_pos hp54, Int.mul_one]
    have hc : ((2 ^ 1174 : Nat) : Int) = 2 ^ 1174 := by simp
    constructor
    · intro h
      have := Int.sign_nonpos_iff.1 h
      apply Int.ofNat_le.1
      rw [hc]; omega
    · intro h
      have := Int.ofNat_le.2 h
      rw [hc] at this
      exact Int.sign_nonpos_iff.2 (by omega)
  · have h1 := l2 1028
    rw [show (1028 : Nat) = 974 + 54 from rfl, Int.pow_add] at h1
    have h2 : (2 : Int) ^ 974 * 2 ^ 54 ∣ fval x * 2 ^ 54 ↔ 2 ^ 974 ∣ fmag x := by
      constructor
      · intro h
        have := Int.dvd_of_mul_dvd_mul_right (Int.ne_of_gt hp54) h
        rw [← Int.dvd_natAbs, natAbs_fval] at this
        exact Int.ofNat_dvd.1 (by rw [Int.natCast_pow]; exact this)
      · intro h
        refine Int.mul_dvd_mul_right _ ?_
        rw [← Int.dvd_natAbs, natAbs_fval]
        have := Int.ofNat_dvd.2 h
        rw [Int.natCast_pow] at this; exact this
    rw [← h2, h1]
    omega
theorem coord05_ev {x : Nat} (hx : Fini x) : Ev (fun k => trivetref05_Coordinate.f k x) (goodB x) := by
  have n1 : (FloatKind.f64.format.order x x != some .eq) = false := by rw [bne, eq_fin hx hx]; simp
  have n2 : (FloatKind.f64.format.order 0 0 != some .eq) = false := by rw [bne, eq_fin zero_fin zero_fin]; simp
  refine Ev.congr (f := fun k => trivetref05_Coordinate.j0 k x (FloatKind.f64.format.order 0 0 != some .eq)) (fun k => ?_) ?_
  · unfold trivetref05_Coordinate.f
    rw [if_neg (by rw [n1]; decide), sub_self hx]; rfl
  rw [n2]
  by_cases h0 : fval x = 0
  · refine Ev.step (f := fun _ => some (goodB x)) (fun k => ?_) (Ev.now _)
    simp only [trivetref05_Coordinate.j0]
    rw [if_neg (by decide), if_pos (by rw [eq_fin hx zero_fin, zero_val]; simpa using h0)]
    have hm := (fval_zero_iff x).1 h0
    refine congrArg some (decide_eq_true (p := GoodF x) ⟨hx, by rw [hm]; exact Nat.zero_le _, by rw [hm]; exact Nat.dvd_zero _⟩).symm
  · obtain ⟨a, p, S', l, a1, b1, p1, ⟨c, c1, c2⟩, l1, l2⟩ := coord_parts hx h0
    refine Ev.step (f := fun k => (trivetref01_Of.f k x).bind fun bt215 => (trivetref01_Abs.f bt215.1 bt215.2.1 bt215.2.2).bind fun bt221 => (trivetref01_Power.f k 1 100).bind fun bt226 => (trivetref01_Cmp.f k bt221.1 bt221.2.1 bt221.2.2 bt226.1 bt226.2.1 bt226.2.2).bind fun t231 => if t231 ≤ 0 then (trivetref01_Low.f k bt215.1 bt215.2.1 bt215.2.2).bind fun t232 => some (decide (t232 ≥ -100)) else some false) (fun k => ?_) (Ev.bind a1 ?_)
    · simp only [trivetref05_Coordinate.j0]
      rw [if_neg (by decide), if_neg (by rw [eq_fin hx zero_fin, zero_val]; simpa using h0)]
    · refine Ev.congr (f := fun k => (trivetref01_Power.f k 1 100).bind fun bt226 => (trivetref01_Cmp.f k S' a.2.1 a.2.2 bt226.1 bt226.2.1 bt226.2.2).bind fun t231 => if t231 ≤ 0 then (trivetref01_Low.f k a.1 a.2.1 a.2.2).bind fun t232 => some (decide (t232 ≥ -100)) else some false) (fun k => by rw [b1]; rfl) (Ev.bind p1 (Ev.bind c1 ?_))
      by_cases hle : fmag x ≤ 2 ^ 1174
      · refine Ev.congr (f := fun k => (trivetref01_Low.f k a.1 a.2.1 a.2.2).bind fun t232 => some (decide (t232 ≥ -100))) (fun k => by rw [if_pos (c2.2 hle)]) (Ev.bind l1 ?_)
        rw [show decide (l ≥ -100) = goodB x from decide_eq_decide.2 ⟨fun h => ⟨hx, hle, l2.1 h⟩, fun h => l2.2 h.2.2⟩]
        exact Ev.now _
      · refine Ev.congr (f := fun _ => some (goodB x)) (fun k => ?_) (Ev.now _)
        rw [if_neg (fun h => hle (c2.1 h))]
        exact congrArg some (decide_eq_false (fun h : GoodF x => hle h.2.1)).symm
theorem coord05_inf {x : Nat} (hx : x % 2 ^ 63 = 2047 * 2 ^ 52) (w : World) : Calls Try.prog 13 #[.float .f64 x] w fun e w' => e = .returned (.bool false) ∧ Below w.heap.size w w' := by
  obtain ⟨b, hb, hop⟩ := sub_inf (P := Try.prog) hx
  have n1 : (FloatKind.f64.format.order x x != some .eq) = false := by rw [bne, order_inf_inf hx]; rfl
  have n2 : ∀ w : World, (FloatKind.f64.format.order (b w) 0 != some .eq) = true := fun w => by rw [order_nan_l (hb w)]; rfl
  clear hx hb
  go_enter Try.func13, Try.ntmps13
  go_wp2_with (simp only [hop])
  go_ret
  exact ⟨rfl, (Below.refl _ _).drew⟩
/-- Whatever word: it is told to be good just if it is. -/
theorem coord05 {x : Nat} (hx : x < 2 ^ 64) (w : World) : Calls Try.prog 13 #[.float .f64 x] w fun e w' => e = .returned (.bool (goodB x)) ∧ Below w.heap.size w w' := by
  rcases cls x hx with h | h | h
  · obtain ⟨k, hk⟩ := (coord05_ev h).rounds
    exact trivetref05_Coordinate.calls k x _ w hk
  · rw [inf_none h]; exact coord05_inf h w
  · rw [nan_none h]
    have : trivetref05_Coordinate.f 1 x = some false := by
      unfold trivetref05_Coordinate.f
      rw [if_pos (by rw [order_nan_l h]; rfl)]
      simp only [trivetref05_Coordinate.j0]
      rw [if_pos trivial]
    exact trivetref05_Coordinate.calls 1 x _ w this
end Go.Proofs.Ythcklcfdeejkpaa.Num
