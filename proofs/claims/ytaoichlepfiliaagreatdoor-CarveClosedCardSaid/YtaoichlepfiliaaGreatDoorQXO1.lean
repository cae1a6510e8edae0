/- Lemmas of O1. Conditions stand in each. -/
import Derived.Test.YtaoichlepfiliaaGreatDoorProg
import Derived.Below
import Derived.Deep.Draws
import Derived.Deep.AppendLies
import Derived.Maps.AppendAt
import Derived.OwnWalk
import Derived.Laws.BytesArg
import Derived.Laws.MakeOwn
import Derived.Laws.OwnMore
import Derived.Deep.OwnRows
import Derived.Tactics
import Derived.Lib.ConvBytes
import Derived.Laws.Slices
import Derived.WalkKit
import Derived.KernelRfl
import Derived.RowKit3
import Derived.Deep.LoopGhost
import Derived.Deep.QuietTactic
import Derived.BigQuiet
import Derived.WideLaws
import Derived.Deep.DeepCutAuto
import Derived.Deep.CutBlock
import Derived.Deep.RegionHeld3
import Derived.Laws.Rows
import Derived.Lib.AppendStr
import Derived.ArgAppend
import Derived.Laws.IdiomCopy
import Derived.OrdersHeld
import Derived.Laws.BitsLemmas
import Derived.RowKit
import Derived.Laws.FloatArith
import Derived.Laws.StructEq
import Derived.Test.YtaoichlepfiliaaGreatDoorQXE0
import Derived.Test.YtaoichlepfiliaaGreatDoorQXWFootNe
import Derived.Test.YtaoichlepfiliaaGreatDoorQXOri
import Derived.Test.YtaoichlepfiliaaGreatDoorQXWWords
import Derived.Test.YtaoichlepfiliaaGreatDoorQXWLast
import Derived.Test.YtaoichlepfiliaaGreatDoorQXE3
import Derived.Test.YtaoichlepfiliaaGreatDoorQXSgn
set_option linter.unusedSimpArgs false
set_option linter.unusedVariables false
section
namespace Go.Proofs.YtaoichlepfiliaaGreatDoor.O
open Go.Proofs.YtaoichlepfiliaaGreatDoor.R Go.Proofs.YtaoichlepfiliaaGreatDoor.E
open Go.RowKit Go.Proofs.YtaoichlepfiliaaGreatDoorW.PrintWords Go.Proofs.YtaoichlepfiliaaGreatDoorW.PrintLast
def orient_exactly.f (k : Nat) (a0_0 a0_1 a1_0 a1_1 a2_0 a2_1 : Nat) : Option Int := Go.Proofs.YtaoichlepfiliaaGreatDoor.Exp.exactly.f k a0_0 a0_1 a1_0 a1_1 a2_0 a2_1
theorem orient_exactly.calls (k : Nat) (a0_0 a0_1 a1_0 a1_1 a2_0 a2_1 : Nat) (r : Int) (w : World) (h : orient_exactly.f k a0_0 a0_1 a1_0 a1_1 a2_0 a2_1 = some r) :
 Calls Tryz.prog 96 #[.agg #[.float .f64 a0_0, .float .f64 a0_1], .agg #[.float .f64 a1_0, .float .f64 a1_1], .agg #[.float .f64 a2_0, .float .f64 a2_1]] w fun e w' => e = .returned (.int .i64 r) ∧ Below w.heap.size w w' := Go.Proofs.YtaoichlepfiliaaGreatDoor.Exp.exactly.calls k a0_0 a0_1 a1_0 a1_1 a2_0 a2_1 r w h
def orient_Sign.f (k : Nat) (a0_0 : Nat) (a0_1 : Nat) (a1_0 : Nat) (a1_1 : Nat) (a2_0 : Nat) (a2_1 : Nat) : Option (Int) := (orient_Fast.f k a0_0 a0_1 a1_0 a1_1 a2_0 a2_1).bind fun bt104 => (if bt104.2 = true then (some bt104.1) else ((orient_may.f k (([(⟨a0_0, a0_1⟩ : S71), (⟨a1_0, a1_1⟩ : S71), (⟨a2_0, a2_1⟩ : S71)] : List (S71)))).bind fun t109 => (if t109 = true then ((orient_exactly.f k a0_0 a0_1 a1_0 a1_1 a2_0 a2_1).bind fun t110 => (some t110)) else (some 0))))
set_option maxRecDepth 100000 in
set_option maxHeartbeats 8000000 in
theorem orient_Sign.calls (k : Nat) (a0_0 : Nat) (a0_1 : Nat) (a1_0 : Nat) (a1_1 : Nat) (a2_0 : Nat) (a2_1 : Nat) (r : Int) (w : World) (h : orient_Sign.f k a0_0 a0_1 a1_0 a1_1 a2_0 a2_1 = some r) :
 Calls Tryz.prog 67 #[.agg #[.float .f64 a0_0, .float .f64 a0_1], .agg #[.float .f64 a1_0, .float .f64 a1_1], .agg #[.float .f64 a2_0, .float .f64 a2_1]] w fun e w' => e = .returned (.int .i64 r) ∧ Below w.heap.size w w' := by
 obtain ⟨W1, hW1, HX⟩ := Box3.start w a0_0 a0_1 a1_0 a1_1 a2_0 a2_1
 obtain ⟨⟨s, q⟩, hs, h⟩ := Option.bind_eq_some_iff.mp h
 have hf := fun W => orient_Fast.calls k a0_0 a0_1 a1_0 a1_1 a2_0 a2_1 s q W hs
 have h0 := HX.a0
 have h1 := HX.a1
 have h2 := HX.b0
 have h3 := HX.b1
 have h4 := HX.c0
 have h5 := HX.c1
 have HB := Aside0.mk HX
 clear HX hs
 cases q with
 | true =>
  rw [if_pos rfl] at h
  injection h with h
  subst h
  go_enter Tryz.func67, Tryz.ntmps67
  go_upto_region 1 with (fail)
  rw [← hW1]
  clear hW1
  go_wp2_with (go_at_call 94; (with_reducible refine (hf _).mono ?_); rintro e w' ⟨rfl, hb⟩)
  go_ret
  exact ⟨rfl, HB.out.bel.trans (hb.mono HB.out.bel.size)⟩
 | false =>
  rw [if_neg (by simp)] at h
  obtain ⟨m, hm, h⟩ := Option.bind_eq_some_iff.mp h
  have hmy := fun W => may_three hm W
  clear hm
  cases m with
  | false =>
   rw [if_neg (by decide)] at h
   injection h with h
   subst h
   go_enter Tryz.func67, Tryz.ntmps67
   go_upto_region 1 with (fail)
   rw [← hW1]
   clear hW1
   go_upto_region 4 with (go_at_call 94; (with_reducible refine (hf _).mono ?_); rintro e w' ⟨rfl, hb⟩)
   replace HB := Aside0.mk (HB.out.below hb)
   replace h0 := HB.out.a0
   replace h1 := HB.out.a1
   replace h2 := HB.out.b0
   replace h3 := HB.out.b1
   replace h4 := HB.out.c0
   replace h5 := HB.out.c1
   clear hb
   go_wp2_with (go_at_call 95; (with_reducible refine (hmy _).mono ?_); rintro e w' ⟨rfl, hb⟩)
   go_ret
   exact ⟨rfl, HB.out.bel.trans (hb.mono HB.out.bel.size)⟩
  | true =>
   rw [if_pos rfl] at h
   obtain ⟨x, hx, h⟩ := Option.bind_eq_some_iff.mp h
   injection h with h
   subst h
   have he := fun W => orient_exactly.calls k a0_0 a0_1 a1_0 a1_1 a2_0 a2_1 x W hx
   clear hx
   go_enter Tryz.func67, Tryz.ntmps67
   go_upto_region 1 with (fail)
   rw [← hW1]
   clear hW1
   go_upto_region 4 with (go_at_call 94; (with_reducible refine (hf _).mono ?_); rintro e w' ⟨rfl, hb⟩)
   replace HB := Aside0.mk (HB.out.below hb)
   replace h0 := HB.out.a0
   replace h1 := HB.out.a1
   replace h2 := HB.out.b0
   replace h3 := HB.out.b1
   replace h4 := HB.out.c0
   replace h5 := HB.out.c1
   clear hb
   go_upto_region 6 with (go_at_call 95; (with_reducible refine (hmy _).mono ?_); rintro e w' ⟨rfl, hb⟩)
   replace HB := Aside0.mk (HB.out.below hb)
   replace h0 := HB.out.a0
   replace h1 := HB.out.a1
   replace h2 := HB.out.b0
   replace h3 := HB.out.b1
   replace h4 := HB.out.c0
   replace h5 := HB.out.c1
   clear hb
   go_wp2_with (go_at_call 96; (with_reducible refine (he _).mono ?_); rintro e w' ⟨rfl, hb⟩)
   go_ret
   exact ⟨rfl, HB.out.bel.trans (hb.mono HB.out.bel.size)⟩
end Go.Proofs.YtaoichlepfiliaaGreatDoor.O
end
section
namespace Go.Proofs.YtaoichlepfiliaaGreatDoor.Fil
def Nr (a b : Int) : Prop := 2 ^ 53 * (a - b).natAbs ≤ b.natAbs
theorem mul_abs (a b : Int) : (a * b).natAbs = a.natAbs * b.natAbs := Int.natAbs_mul a b
theorem tri (a b : Int) : (a + b).natAbs ≤ a.natAbs + b.natAbs := Int.natAbs_add_le a b
theorem prod_near {u v U V z X : Int} {T : Nat} (hU : Nr U u) (hV : Nr V v) (hz : U * V = z * T) (hX : Nr X z) : 2 ^ 51 * (X * T - u * v).natAbs ≤ (u * v).natAbs := by
 unfold Nr at *
 have e1 : U * V - u * v = (U - u) * V + u * (V - v) := by rw [Int.sub_mul, Int.mul_sub]; omega
 have h1 : (U * V - u * v).natAbs ≤ (U - u).natAbs * V.natAbs + u.natAbs * (V - v).natAbs := by
  rw [e1, ← mul_abs, ← mul_abs]; exact tri _ _
 have h2 : V.natAbs ≤ v.natAbs + (V - v).natAbs := by omega
 have e2 : X * T - u * v = (X - z) * T + (U * V - u * v) := by rw [hz, Int.sub_mul]; omega
 have h3 : (X * T - u * v).natAbs ≤ (X - z).natAbs * T + (U * V - u * v).natAbs := by
  have := tri ((X - z) * T) (U * V - u * v)
  rw [mul_abs, Int.natAbs_natCast] at this
  rw [e2]; exact this
 have h4 : 2 ^ 53 * ((X - z).natAbs * T) ≤ z.natAbs * T := by rw [← Nat.mul_assoc]; exact Nat.mul_le_mul_right _ hX
 have h5 : z.natAbs * T = (U * V).natAbs := by rw [hz, mul_abs, Int.natAbs_natCast]
 have h6 : (U * V).natAbs ≤ (u * v).natAbs + (U * V - u * v).natAbs := by omega
 have h7 : 2 ^ 53 * ((U - u).natAbs * V.natAbs) ≤ u.natAbs * V.natAbs := by rw [← Nat.mul_assoc]; exact Nat.mul_le_mul_right _ hU
 have h8 : 2 ^ 53 * (u.natAbs * (V - v).natAbs) ≤ u.natAbs * v.natAbs := by rw [Nat.mul_left_comm]; exact Nat.mul_le_mul_left _ hV
 have h9 : u.natAbs * V.natAbs ≤ u.natAbs * v.natAbs + u.natAbs * (V - v).natAbs := by rw [← Nat.mul_add]; exact Nat.mul_le_mul_left _ h2
 rw [mul_abs u v] at *
 generalize (U - u).natAbs * V.natAbs = a at *
 generalize u.natAbs * (V - v).natAbs = b at *
 generalize u.natAbs * v.natAbs = c at *
 generalize u.natAbs * V.natAbs = d at *
 generalize (X - z).natAbs * T = f at *
 generalize z.natAbs * T = g at *
 clear hX hU hV h2
 omega
theorem told {A B X Y D s S : Int} {T : Nat} (hT : 0 < T) (h1 : 2 ^ 51 * (X * T - A).natAbs ≤ A.natAbs) (h2 : 2 ^ 51 * (Y * T - B).natAbs ≤ B.natAbs)
 (hs : s = (X.natAbs + Y.natAbs : Nat)) (hS : Nr S s) (hD : Nr D (X - Y)) (ht : S < 2 ^ 50 * (D.natAbs : Int)) : D.sign = (A - B).sign ∧ D ≠ 0 := by
 unfold Nr at *
 have ha : A.natAbs ≤ X.natAbs * T + (X * T - A).natAbs := by have := mul_abs X T; rw [Int.natAbs_natCast] at this; omega
 have hb : B.natAbs ≤ Y.natAbs * T + (Y * T - B).natAbs := by have := mul_abs Y T; rw [Int.natAbs_natCast] at this; omega
 have e : A - B = (X - Y) * T - ((X * T - A) - (Y * T - B)) := by rw [Int.sub_mul]; omega
 have hm : (X.natAbs + Y.natAbs) * (2 ^ 53 - 1) < 2 ^ 50 * (2 ^ 53 + 1) * (X - Y).natAbs := by omega
 have hm2 : X.natAbs + Y.natAbs < (2 ^ 51 - 1) * (X - Y).natAbs := by omega
 have hT2 : (X.natAbs + Y.natAbs) * T < (2 ^ 51 - 1) * (X - Y).natAbs * T := Nat.mul_lt_mul_of_pos_right hm2 hT
 rw [Nat.add_mul, Nat.mul_assoc] at hT2
 have hmt : ((X - Y) * T).natAbs = (X - Y).natAbs * T := by rw [mul_abs, Int.natAbs_natCast]
 have sg : (0 < (X - Y) * T ↔ 0 < X - Y) ∧ ((X - Y) * T < 0 ↔ X - Y < 0) := by
  have hT' : (0 : Int) < T := by omega
  rcases Int.lt_trichotomy (X - Y) 0 with h | h | h
  ·have := Int.mul_neg_of_neg_of_pos h hT'; omega
  ·rw [h, Int.zero_mul]; omega
  ·have := Int.mul_pos h hT'; omega
 generalize (X - Y).natAbs * T = m at *
 generalize X.natAbs * T = x at *
 generalize Y.natAbs * T = y at *
 generalize (X - Y) * T = w at *
 have r1 := sg.1
 have r2 := sg.2
 have k1 : ((X * T - A) - (Y * T - B)).natAbs < m := by omega
 generalize (X * T - A) - (Y * T - B) = q at *
 clear h1 h2 hm hm2 ha hb hT2 hs hS ht
 have r : (0 < D ↔ 0 < A - B) ∧ (D < 0 ↔ A - B < 0) ∧ D ≠ 0 := by omega
 refine ⟨?_, r.2.2⟩
 rcases Int.lt_trichotomy D 0 with h | h | h
 ·rw [Int.sign_eq_neg_one_of_neg h, Int.sign_eq_neg_one_of_neg (r.2.1.mp h)]
 ·exact absurd h r.2.2
 ·rw [Int.sign_eq_one_of_pos h, Int.sign_eq_one_of_pos (r.1.mp h)]
end Go.Proofs.YtaoichlepfiliaaGreatDoor.Fil
namespace Go.Proofs.YtaoichlepfiliaaGreatDoor.Exp
set_option exponentiation.threshold 4000
open Go.RowKit Go.Proofs.YtaoichlepfiliaaGreatDoor.FltP Go.Proofs.YtaoichlepfiliaaGreatDoor.R Go.Proofs.YtaoichlepfiliaaGreatDoor.E Go.Proofs.YtaoichlepfiliaaGreatDoor.O Go.Proofs.YtaoichlepfiliaaGreatDoorW.PrintWords Go.Proofs.YtaoichlepfiliaaGreatDoorW.PrintLast Ieee
open Go.Proofs.YtaoichlepfiliaaGreatDoor.Fil
open Go.Proofs.YtaoichlepfiliaaGreatDoor.Rnd (Rep)
theorem near_R (z : Int) : Nr (Rnd.R z) z := by
 unfold Nr
 obtain ⟨k, k1, k2⟩ := Rnd.grid_exists z
 have he := Rnd.R_err k1
 rcases k2 with rfl | k2
 ·have : Rnd.R z = z := Rnd.R_rep (Rnd.rep_small (Nat.le_of_lt (by simpa using k1)))
  rw [this, Int.sub_self]; exact Nat.zero_le _
 ·refine Nat.le_trans ?_ k2
  rw [show k + 52 = 52 + k from Nat.add_comm _ _, Nat.pow_add]
  have := Nat.mul_le_mul_left (2 ^ 52) he
  rw [← Nat.mul_assoc] at this
  exact this
theorem low_fpl {x : Nat} {G : Nat} (h : 2 ^ G ∣ fmag x) (h0 : fmag x ≠ 0) : G < 53 + fpl x := fpl_ge (Nat.le_of_dvd (Nat.pos_of_ne_zero h0) h)
theorem diff_fin {x y : Nat} (hx : GoodF x) (hy : GoodF y) : ∃ d, floatBits .sub .f64 x y = some d ∧ Fini d ∧ fval d = Rnd.R (fval x - fval y) ∧ fmag d ≤ 2 ^ 1175 ∧ 2 ^ 974 ∣ fmag d := by
 obtain ⟨x1, x2, x3⟩ := hx
 obtain ⟨y1, y2, y3⟩ := hy
 have hD : (2 : Int) ^ 974 ∣ fval x - fval y := Int.dvd_sub (dvd_val.mpr x3) (dvd_val.mpr y3)
 have hb : (fval x - fval y).natAbs ≤ 2 ^ 1175 := by
  have h1 : (fval x - fval y).natAbs ≤ fmag x + fmag y := by rw [← natAbs_fval, ← natAbs_fval]; clear x2 y2; omega
  refine Nat.le_trans h1 (Nat.le_trans (Nat.add_le_add x2 y2) ?_)
  rw [show (1175 : Nat) = 1174 + 1 from rfl, Nat.pow_succ, Nat.mul_two]; exact Nat.le_refl _
 have hR := Eft.R_lt hb
 obtain ⟨d, d1, d2, d3⟩ := sub_fin x1 y1 (Nat.lt_of_le_of_lt hR (Nat.pow_lt_pow_right (by decide) (by decide)))
 exact ⟨d, d1, d2, d3, by rw [← natAbs_fval, d3]; exact hR, dvd_val.mp (by rw [d3]; exact Rnd.R_grid hD)⟩
theorem mul_diff {d e : Nat} (d1 : Fini d) (d2 : fmag d ≤ 2 ^ 1175) (d3 : 2 ^ 974 ∣ fmag d) (e1 : Fini e) (e2 : fmag e ≤ 2 ^ 1175) (e3 : 2 ^ 974 ∣ fmag e) :
 ∃ p z, floatBits .mul .f64 d e = some p ∧ Fini p ∧ PrEq (fval d) (fval e) z ∧ fval p = Rnd.R z ∧ fmag p ≤ 2 ^ 1276 ∧ 2 ^ 874 ∣ fmag p := by
 obtain ⟨z, z1, z2, z3⟩ := prod_split (G := 874) (K := 1276) d3 e3 (by decide) d2 e2 (by decide)
 have hR := Eft.R_lt z3
 have hpl : 1074 ≤ fpl d + fpl e ∨ fval d = 0 ∨ fval e = 0 := by
  by_cases hd : fmag d = 0
  ·exact .inr (.inl ((fval_zero_iff d).mpr hd))
  ·by_cases he : fmag e = 0
   ·exact .inr (.inr ((fval_zero_iff e).mpr he))
   ·have := low_fpl d3 hd
    have := low_fpl e3 he
    left; clear d2 e2 z3 hR d3 e3; omega
 obtain ⟨p, p1, p2, p3⟩ := mul_fin d1 e1 hpl z1.eq (Nat.lt_of_le_of_lt hR (Nat.pow_lt_pow_right (by decide) (by decide)))
 exact ⟨p, z, p1, p2, z1, p3, by rw [← natAbs_fval, p3]; exact hR, dvd_val.mp (by rw [p3]; exact Rnd.R_grid z2)⟩
theorem const50 : Fini 4382002437431492608 ∧ fval 4382002437431492608 = 2 ^ 1024 ∧ fpl 4382002437431492608 = 972 := ⟨⟨by decide, by decide⟩, by decide +kernel, by decide +kernel⟩
theorem scale50 {s : Nat} (h : Fini s) (hG : 2 ^ 874 ∣ fmag s) (hb : fmag s ≤ 2 ^ 1400) : ∃ m z, floatBits .mul .f64 4382002437431492608 s = some m ∧ Fini m ∧ fval m = z ∧ fval s = 2 ^ 50 * z := by
 obtain ⟨c, hc⟩ := dvd_val.mpr hG
 have e50 : fval s = 2 ^ 50 * (2 ^ 824 * c) := by rw [hc, ← Int.mul_assoc, ← Int.pow_add]
 have hz : fval 4382002437431492608 * fval s = 2 ^ 824 * c * 2 ^ 1074 := by
  rw [const50.2.1, e50]
  have : (2 : Int) ^ 1024 * 2 ^ 50 = 2 ^ 1074 := by rw [← Int.pow_add]
  generalize (2 : Int) ^ 1024 = A at *; generalize (2 : Int) ^ 50 = B at *; generalize (2 : Int) ^ 1074 = C at *; generalize (2 : Int) ^ 824 * c = D; grind
 have hR : Rnd.R (2 ^ 824 * c) = 2 ^ 824 * c := by
  have h1 := Rnd.R_rep (Rnd.fval_rep s)
  rw [e50, Rnd.R_scale] at h1
  exact Int.eq_of_mul_eq_mul_left (by decide) h1
 have hpl : 1074 ≤ fpl 4382002437431492608 + fpl s ∨ fval 4382002437431492608 = 0 ∨ fval s = 0 := by
  by_cases h0 : fmag s = 0
  ·exact .inr (.inr ((fval_zero_iff s).mpr h0))
  ·have := low_fpl hG h0
   left; rw [const50.2.2]; clear hb hG hz e50 hc hR; omega
 have hlt : (Rnd.R (2 ^ 824 * c)).natAbs < 2 ^ 2098 := by
  rw [hR]
  have h1 : fmag s = 2 ^ 50 * (2 ^ 824 * c).natAbs := by rw [← natAbs_fval, e50, Int.natAbs_mul]; rfl
  have h2 : (2 ^ 824 * c).natAbs ≤ fmag s := by rw [h1]; exact Nat.le_mul_of_pos_left _ (by decide)
  exact Nat.lt_of_le_of_lt (Nat.le_trans h2 hb) (Nat.pow_lt_pow_right (by decide) (by decide))
 obtain ⟨m, m1, m2, m3⟩ := mul_fin const50.1 h hpl hz hlt
 exact ⟨m, 2 ^ 824 * c, m1, m2, by rw [m3, hR], e50⟩
theorem sgn_word {d : Nat} (h : Fini d) : orient_sign.f d = some (fval d).sign := by
 unfold orient_sign.f
 rw [Eft.order_some h (y := 0) ⟨by decide, by decide⟩, Eft.fval_c (c := 0) (m := 0) (by decide) (by decide +kernel)]
 rcases Int.lt_trichotomy (fval d) 0 with h1 | h1 | h1
 ·rw [Int.compare_eq_lt.mpr (by omega), if_neg (by decide), if_pos (by rfl), Int.sign_eq_neg_one_of_neg h1]
 ·rw [h1]; rfl
 ·rw [Int.compare_eq_gt.mpr (by omega), if_pos (by rfl), Int.sign_eq_one_of_pos h1]
abbrev Q3 (ax ay bx b_y cx cy : Nat) : List S71 := [⟨ax, ay⟩, ⟨bx, b_y⟩, ⟨cx, cy⟩]
theorem fast_ev {ax ay bx b_y cx cy : Nat} (h1 : GoodF ax) (h2 : GoodF ay) (h3 : GoodF bx) (h4 : GoodF b_y) (h5 : GoodF cx) (h6 : GoodF cy) (hm : Ev (fun k => orient_may.f k (Q3 ax ay bx b_y cx cy)) true) :
 Ev (fun k => orient_Fast.f k ax ay bx b_y cx cy) ((detF ax ay bx b_y cx cy).sign, true) ∨ Ev (fun k => orient_Fast.f k ax ay bx b_y cx cy) (0, false) := by
 obtain ⟨u1, a1, a2, a3, a4, a5⟩ := diff_fin h3 h1
 obtain ⟨v1, b1, b2, b3, b4, b5⟩ := diff_fin h6 h2
 obtain ⟨u2, c1, c2, c3, c4, c5⟩ := diff_fin h4 h2
 obtain ⟨v2, d1, d2, d3, d4, d5⟩ := diff_fin h5 h1
 obtain ⟨x, zx, x1, x2, x3, x4, x5, x6⟩ := mul_diff a2 a4 a5 b2 b4 b5
 obtain ⟨y, zy, y1, y2, y3, y4, y5, y6⟩ := mul_diff c2 c4 c5 d2 d4 d5
 clear a4 b4 c4 d4
 have h77 : (2 : Nat) ^ 1276 + 2 ^ 1276 = 2 ^ 1277 := by rw [show (1277 : Nat) = 1276 + 1 from rfl, Nat.pow_succ, Nat.mul_two]
 have bxy : (fval x - fval y).natAbs ≤ 2 ^ 1277 := by
  have h1 : (fval x - fval y).natAbs ≤ fmag x + fmag y := by rw [← natAbs_fval, ← natAbs_fval]; clear x5 y5 h77; omega
  rw [← h77]; exact Nat.le_trans h1 (Nat.add_le_add x5 y5)
 have up : (2 : Nat) ^ 1277 < 2 ^ 2098 := Nat.pow_lt_pow_right (by decide) (by decide)
 obtain ⟨d, e1, e2, e3⟩ := sub_fin x2 y2 (Nat.lt_of_le_of_lt (Eft.R_lt bxy) up)
 have fx : Fini (x % 2 ^ 63) := x2.pos
 have fy : Fini (y % 2 ^ 63) := y2.pos
 have bs : (fval (x % 2 ^ 63) + fval (y % 2 ^ 63)).natAbs ≤ 2 ^ 1277 := by
  rw [Eft.fval_abs, Eft.fval_abs, ← h77]
  exact Nat.add_le_add x5 y5
 obtain ⟨s, s1, s2, s3⟩ := add_fin fx fy (Nat.lt_of_le_of_lt (Eft.R_lt bs) up)
 have sG : 2 ^ 874 ∣ fmag s := dvd_val.mp (by
  rw [s3]; refine Rnd.R_grid (Int.dvd_add ?_ ?_)
  ·rw [dvd_val, fmag_pos]; exact x6
  ·rw [dvd_val, fmag_pos]; exact y6)
 have sb : fmag s ≤ 2 ^ 1400 := by rw [← natAbs_fval, s3]; exact Nat.le_trans (Eft.R_lt bs) (Nat.pow_le_pow_right (by decide) (by decide))
 obtain ⟨m, z, m1, m2, m3, m4⟩ := scale50 s2 sG sb
 clear h77 bxy up bs sb x5 y5 sG
 have body : ∀ k, orient_may.f k (Q3 ax ay bx b_y cx cy) = some true → orient_Fast.f k ax ay bx b_y cx cy = if z < fmag d then some ((fval d).sign, true) else some (0, false) := fun k hk => by
  unfold orient_Fast.f
  rw [show ([(⟨ax, ay⟩ : S71), (⟨bx, b_y⟩ : S71), (⟨cx, cy⟩ : S71)] : List S71) = Q3 ax ay bx b_y cx cy from rfl, hk, Option.bind_some, if_pos rfl, a1, Option.bind_some, b1, Option.bind_some, x1, Option.bind_some, c1, Option.bind_some, d1, Option.bind_some, y1, Option.bind_some, e1, Option.bind_some, abs_some x2.2, Option.bind_some, abs_some y2.2, Option.bind_some, s1, Option.bind_some, m1, Option.bind_some, abs_some e2.2, Option.bind_some, Eft.order_some e2.pos m2, Eft.fval_abs, m3, sgn_word e2]
  by_cases h : z < (fmag d : Int)
  ·rw [Int.compare_eq_gt.mpr h, if_pos (by rfl), if_pos h]; rfl
  ·rw [if_neg h, if_neg]
   intro h0
   have : compare (fmag d : Int) z = .gt := by
    cases hh : compare (fmag d : Int) z <;> rw [hh] at h0 <;> first | rfl | exact absurd h0 (by decide)
   exact h (Int.compare_eq_gt.mp this)
 obtain ⟨K, hK⟩ := hm
 by_cases h : z < (fmag d : Int)
 ·left
  refine ⟨K, fun k hk => ?_⟩
  show orient_Fast.f k ax ay bx b_y cx cy = _
  rw [body k (hK k hk), if_pos h]
  have hT : (((2 ^ 1074 : Nat) : Int)) = (2 : Int) ^ 1074 := by rw [Int.natCast_pow]; rfl
  have p1 := prod_near (T := 2 ^ 1074) (a3 ▸ near_R _) (b3 ▸ near_R _) (by rw [hT]; exact x3.eq) (x4 ▸ near_R zx)
  have p2 := prod_near (T := 2 ^ 1074) (c3 ▸ near_R _) (d3 ▸ near_R _) (by rw [hT]; exact y3.eq) (y4 ▸ near_R zy)
  have t := told (D := fval d) (s := fval (x % 2 ^ 63) + fval (y % 2 ^ 63)) (S := fval s) (Nat.two_pow_pos 1074) p1 p2 (by rw [Eft.fval_abs, Eft.fval_abs, natAbs_fval, natAbs_fval]; rfl) (s3 ▸ near_R _) (e3 ▸ near_R _) (by
   rw [m4, natAbs_fval]; exact Int.mul_lt_mul_of_pos_left h (by decide))
  rw [t.1]; rfl
 ·right
  exact ⟨K, fun k hk => by show orient_Fast.f k ax ay bx b_y cx cy = _; rw [body k (hK k hk), if_neg h]⟩
theorem normal_of {x : Nat} (h : 2 ^ 53 ≤ fmag x) : 2 ^ 52 ≤ x % 2 ^ 63 := by
 apply Classical.byContradiction; intro hn
 have : fmag x = x % 2 ^ 63 := by unfold fmag; rw [if_pos (by omega)]
 omega
theorem fpl_unique {a b : Nat} (ha : 2 ^ 53 ≤ fmag a) (hb : 2 ^ 53 ≤ fmag b) (h : fmag a = fmag b) : fpl a = fpl b := by
 have a1 := Eft.sig_norm ha
 have b1 := Eft.sig_norm hb
 rw [Eft.sig_abs] at a1 b1
 rw [fmag_sig, fmag_sig] at h
 have key : ∀ {m n i j : Nat}, 2 ^ 52 ≤ m → n < 2 ^ 53 → m * 2 ^ i = n * 2 ^ j → ¬ j < i := fun {m n i j} hm hn he hlt => by
  obtain ⟨d, rfl⟩ : ∃ d, i = j + (d + 1) := ⟨i - j - 1, by omega⟩
  rw [Nat.add_comm, Nat.pow_add, ← Nat.mul_assoc] at he
  have h1 := Nat.eq_of_mul_eq_mul_right (Nat.two_pow_pos j) he
  have h2 : m * 2 ≤ m * 2 ^ (d + 1) := Nat.mul_le_mul_left _ (by rw [Nat.pow_succ]; have := Nat.two_pow_pos d; omega)
  omega
 have h1 := key a1.1 b1.2 h
 have h2 := key b1.1 a1.2 h.symm
 omega
theorem ldw_val {x F : Nat} (hx : Fini x) (h1 : 2 ^ 52 ≤ x % 2 ^ 63) (hF1 : 1 ≤ F) (hF2 : F ≤ 2046) (j : Nat) (hj : fpl x + j = F - 1) : fval (ldw x F) = 2 ^ j * fval x := by
 obtain ⟨l1, l2, l3, l4⟩ := ldw_facts hx h1 hF1 hF2
 rw [fval_sgn, fval_sgn x, l4, fmag_sig, l2, l3, fmag_sig x, ← hj, Nat.pow_add, ← Nat.mul_assoc, Nat.mul_comm _ (2 ^ j), Int.natCast_mul, Int.natCast_pow]
 cases fsgn x
 ·simp
 ·simp [Int.mul_neg]
theorem coordinate_ok {x : Nat} (h : GoodF x) : orient_coordinate.f x = some true := by
 obtain ⟨h1, h2, h3⟩ := h
 by_cases h0 : fmag x = 0
 ·have hz : x % 2 ^ 63 = 0 := by
   unfold fmag at h0
   split at h0
   ·exact h0
   ·exfalso
    have := Nat.two_pow_pos (x % 2 ^ 63 / 2 ^ 52 - 1)
    exact absurd h0 (Nat.mul_ne_zero (by omega) (by omega))
  have hx := h1.2
  rcases (show x = 0 ∨ x = 2 ^ 63 by omega) with rfl | rfl
  ·decide +kernel
  ·decide +kernel
 ·have hbig : 2 ^ 974 ≤ fmag x := Nat.le_of_dvd (Nat.pos_of_ne_zero h0) h3
  have h53 : 2 ^ 53 ≤ fmag x := Nat.le_trans (Nat.pow_le_pow_right (by decide) (by decide)) hbig
  have hn := normal_of h53
  have hl := fpl_ge hbig
  have hu := Eft.fpl_le_of h2 h53
  have hfe : x % 2 ^ 63 / 2 ^ 52 = fpl x + 1 := by unfold fpl; clear h2 hbig h53 h3; omega
  have c100 : Fini 5057542381537067008 ∧ fval 5057542381537067008 = 2 ^ 1174 := ⟨⟨by decide, by decide⟩, by decide +kernel⟩
  obtain ⟨y, y1, y2, y3⟩ := ldexp_norm (x := x) (F := fpl x + 101) (e := 100) h1 hn (by rw [hfe]; clear h2 hbig h53 h3; omega) (by clear h2 hbig h53 h3; omega) (by clear h2 hbig h53 h3; omega)
  have v1 := ldw_val (x := x) (F := fpl x + 101) h1 hn (by clear h2 hbig h53 h3; omega) (by clear h2 hbig h53 h3; omega) 100 (by clear h2 hbig h53 h3; omega)
  rw [v1] at y3
  have my : fmag y = 2 ^ 100 * fmag x := by rw [← natAbs_fval, y3, Int.natAbs_mul, natAbs_fval]; rfl
  obtain ⟨t, t1, t2, t3, t4⟩ := trunc_val y2
  have hdv : 2 ^ 1074 ∣ fmag y := by rw [my, show (1074 : Nat) = 100 + 974 from rfl, Nat.pow_add]; exact Nat.mul_dvd_mul_left _ h3
  have vt : fval t = fval y := by
   have hs : fsgn t = fsgn y := t4
   rw [fval_sgn, fval_sgn y, hs, t3, Nat.div_mul_cancel hdv]
  have y53 : 2 ^ 53 ≤ fmag y := by rw [my]; exact Nat.le_trans h53 (Nat.le_mul_of_pos_left _ (by decide))
  have hny := normal_of y53
  have hly : fpl y = fpl x + 100 := by
   have l := ldw_facts (x := x) (F := fpl x + 101) h1 hn (by clear h2 hbig h53 h3; omega) (by clear h2 hbig h53 h3; omega)
   have e1 : fmag (ldw x (fpl x + 101)) = fmag y := by rw [← natAbs_fval, v1, Int.natAbs_mul, natAbs_fval, my]; rfl
   rw [← fpl_unique (by rw [e1]; exact y53) y53 e1, l.2.2.1]; rfl
  have hfe2 : y % 2 ^ 63 / 2 ^ 52 = fpl x + 101 := by
   have : fpl y = y % 2 ^ 63 / 2 ^ 52 - 1 := rfl
   clear h2 hbig h53 h3 my y53 hdv t3; omega
  obtain ⟨b, b1, b2, b3⟩ := ldexp_norm (x := y) (F := fpl x + 1) (e := -100) y2 hny (by rw [hfe2]; clear h2 hbig h53 h3 my y53 hdv t3; omega) (by clear h2 hbig h53 h3 my y53 hdv t3; omega) (by clear h2 hbig h53 h3 my y53 hdv t3; omega)
  have v2 : fval b = fval x := by
   rw [b3]
   obtain ⟨l1, l2, l3, l4⟩ := ldw_facts (x := y) (F := fpl x + 1) y2 hny (by clear h2 hbig h53 h3 my y53 hdv t3; omega) (by clear h2 hbig h53 h3 my y53 hdv t3; omega)
   have v3 := ldw_val (x := ldw y (fpl x + 1)) (F := fpl x + 101) l1 (normal_of (by
    have : fmag (ldw y (fpl x + 1)) * 2 ^ 100 = fmag y := by rw [fmag_sig, l2, l3, fmag_sig y, hly, Nat.pow_add, Nat.mul_assoc]; rfl
    rw [my, Nat.mul_comm] at this
    rw [Nat.eq_of_mul_eq_mul_left (by decide) this]; exact h53)) (by clear h2 hbig h53 h3 my y53 hdv t3; omega) (by clear h2 hbig h53 h3 my y53 hdv t3; omega) 100 (by rw [l3]; clear h2 hbig h53 h3 my y53 hdv t3; omega)
   have v4 : fval (ldw y (fpl x + 1)) = fval x := by
    have e2 : fmag (ldw y (fpl x + 1)) = fmag x := by
     have : fmag (ldw y (fpl x + 1)) * 2 ^ 100 = fmag y := by rw [fmag_sig, l2, l3, fmag_sig y, hly, Nat.pow_add, Nat.mul_assoc]; rfl
     rw [my, Nat.mul_comm] at this
     exact Nat.eq_of_mul_eq_mul_left (by decide) this
    have e3 : fsgn y = fsgn x := by
     have hp : (0 : Int) < fmag x := by have := Nat.pos_of_ne_zero h0; clear h2 hbig h53 h3 my y53 hdv t3; omega
     have hq : (0 : Int) < fmag y := by have : 0 < fmag y := Nat.lt_of_lt_of_le (by decide) y53; clear h2 hbig h53 h3 my y53 hdv t3; omega
     rw [fval_sgn, fval_sgn x] at y3
     have hpp : (0 : Int) < 2 ^ 100 * fmag x := Int.mul_pos (by decide) hp
     cases hy : fsgn y <;> cases hx : fsgn x <;> rw [hy, hx] at y3 <;> first | rfl | (exfalso; simp only [Bool.false_eq_true, if_false, if_true, Int.mul_neg] at y3; generalize (2 : Int) ^ 100 * fmag x = W at *; clear h2 hbig h53 h3 my y53 hdv t3 v1 v3; omega)
    rw [fval_sgn, fval_sgn x, l4, e2, e3]
   exact v4
  unfold orient_coordinate.f
  rw [abs_some h1.2, Option.bind_some, Eft.order_some h1.pos c100.1, c100.2, Eft.fval_abs, if_pos (by
   rcases Nat.lt_or_eq_of_le h2 with h | h
   ·rw [Int.compare_eq_lt.mpr (by have : ((fmag x : Nat) : Int) < ((2 ^ 1174 : Nat) : Int) := Int.ofNat_lt.mpr h; rwa [Int.natCast_pow] at this)]; rfl
   ·rw [h, Int.natCast_pow, show ((2 : Nat) : Int) = 2 from rfl, Int.compare_eq_eq.mpr rfl]; rfl), y1, Option.bind_some, t1, Option.bind_some, Eft.order_some t2 y2, vt, Int.compare_eq_eq.mpr rfl, if_pos (by rfl), b1, Option.bind_some, Eft.order_some b2 h1, v2, Int.compare_eq_eq.mpr rfl]
  rfl
theorem may_three {ax ay bx b_y cx cy : Nat} (h1 : GoodF ax) (h2 : GoodF ay) (h3 : GoodF bx) (h4 : GoodF b_y) (h5 : GoodF cx) (h6 : GoodF cy) : Ev (fun k => orient_may.f k (Q3 ax ay bx b_y cx cy)) true := by
 have w1 : wrap64 (0 + 1) = 1 := by unfold wrap64; omega
 have w2 : wrap64 (1 + 1) = 2 := by unfold wrap64; omega
 have w3 : wrap64 (2 + 1) = 3 := by unfold wrap64; omega
 have s0 : ∀ k, orient_may.l0 (k + 1) (Q3 ax ay bx b_y cx cy) 3 0 = orient_may.l0 k (Q3 ax ay bx b_y cx cy) 3 1 := fun k => by
  rw [orient_may.l0, if_pos (by decide), if_pos (by decide), if_pos (by simp), show rd_T71 (Q3 ax ay bx b_y cx cy) 0 = ⟨ax, ay⟩ from rfl, coordinate_ok h1, Option.bind_some, if_pos rfl, coordinate_ok h2, Option.bind_some, if_pos rfl, w1]
 have s1 : ∀ k, orient_may.l0 (k + 1) (Q3 ax ay bx b_y cx cy) 3 1 = orient_may.l0 k (Q3 ax ay bx b_y cx cy) 3 2 := fun k => by
  rw [orient_may.l0, if_pos (by decide), if_pos (by decide), if_pos (by simp), show rd_T71 (Q3 ax ay bx b_y cx cy) 1 = ⟨bx, b_y⟩ from rfl, coordinate_ok h3, Option.bind_some, if_pos rfl, coordinate_ok h4, Option.bind_some, if_pos rfl, w2]
 have s2 : ∀ k, orient_may.l0 (k + 1) (Q3 ax ay bx b_y cx cy) 3 2 = orient_may.l0 k (Q3 ax ay bx b_y cx cy) 3 3 := fun k => by
  rw [orient_may.l0, if_pos (by decide), if_pos (by decide), if_pos (by simp), show rd_T71 (Q3 ax ay bx b_y cx cy) 2 = ⟨cx, cy⟩ from rfl, coordinate_ok h5, Option.bind_some, if_pos rfl, coordinate_ok h6, Option.bind_some, if_pos rfl, w3]
 have s3 : ∀ k, orient_may.l0 (k + 1) (Q3 ax ay bx b_y cx cy) 3 3 = some true := fun k => by
  rw [orient_may.l0, if_neg (by decide)]
 exact Ev.congr (f := fun k => orient_may.l0 k (Q3 ax ay bx b_y cx cy) 3 0) (fun k => rfl) (Ev.step s0 (Ev.step s1 (Ev.step s2 (Ev.step (f := fun _ => some true) s3 (Ev.now _)))))
theorem sign_ev {ax ay bx b_y cx cy : Nat} (h1 : GoodF ax) (h2 : GoodF ay) (h3 : GoodF bx) (h4 : GoodF b_y) (h5 : GoodF cx) (h6 : GoodF cy) : Ev (fun k => orient_Sign.f k ax ay bx b_y cx cy) (detF ax ay bx b_y cx cy).sign := by
 have hm := may_three h1 h2 h3 h4 h5 h6
 rcases fast_ev h1 h2 h3 h4 h5 h6 hm with hf | hf
 ·exact Ev.bind hf (Ev.now _)
 ·refine Ev.bind hf ?_
  have he : Ev (fun k => orient_exactly.f k ax ay bx b_y cx cy) (detF ax ay bx b_y cx cy).sign := exactly_ev h1 h2 h3 h4 h5 h6
  exact Ev.congr (f := fun k => (orient_may.f k (Q3 ax ay bx b_y cx cy)).bind fun t => if t = true then ((orient_exactly.f k ax ay bx b_y cx cy).bind fun t110 => some t110) else some 0) (fun k => rfl) (Ev.bind hm (Ev.congr (f := fun k => (orient_exactly.f k ax ay bx b_y cx cy).bind fun t110 => some t110) (fun k => if_pos rfl) (Ev.bind he (Ev.now _))))
end Go.Proofs.YtaoichlepfiliaaGreatDoor.Exp
end
