/- What trivetref01's plain functions digit, size, Low come to. Bounds of places stand in each sentence. -/
import Derived.Test.YthcklcfdeejkpaaNumQ
namespace Go.Proofs.Ythcklcfdeejkpaa.NumQ
open Go.RowKit Go.Proofs.Ythcklcfdeejkpaa.NumP Go.Proofs.Ythcklcfdeejkpaa.R Go.Proofs.YthcklcfdeejkpaaW.PrintWords Go.Proofs.YthcklcfdeejkpaaW.PrintLast Go.Proofs.YthcklcfdeejkpaaW.PrintMore

theorem digit_some (S : Int) (D : List Int) (E i : Int) (hl : D.length ≤ 1000000) (hE : -1000000 ≤ E) (hE2 : E ≤ 1000000) (hi : -4000000 ≤ i) (hi2 : i ≤ 4000000) : trivetref01_digit.f S D E i = some (dig D E i) := by
  unfold trivetref01_digit.f dig
  rw [w64 (b := E + D.length) rfl (by omega) (by omega), w64 (b := i - E) rfl (by omega) (by omega)]
  by_cases h1 : i < E
  · rw [if_pos h1, if_pos (.inl h1)]
  · rw [if_neg h1]
    by_cases h2 : i ≥ E + D.length
    · rw [if_pos h2, if_pos (.inr (by omega))]
    · rw [if_neg h2, if_pos (by omega), if_pos (by omega), if_neg (by omega)]
theorem size_down (S1 : Int) (D1 : List Int) (E1 : Int) (S2 : Int) (D2 : List Int) (E2 : Int) (b : Int) (hd1 : Dig D1) (hd2 : Dig D2) (hl1 : D1.length ≤ 1000000) (hE1 : -1000000 ≤ E1) (hE1' : E1 ≤ 1000000) (hl2 : D2.length ≤ 1000000) (hE2 : -1000000 ≤ E2) (hE2' : E2 ≤ 1000000)
    (hb : -1000000 ≤ b) (hb2 : b ≤ 1000000) : ∀ n : Nat, n ≤ 3000000 → Ev (fun k => trivetref01_size.l0 k b (b + n - 1) S1 D1 E1 S2 D2 E2) (dpart D1 E1 b n - dpart D2 E2 b n).sign := by
  intro n
  induction n with
  | zero =>
    intro _
    refine Ev.step (f := fun _ => some 0) (fun k => ?_) (by simp [dpart]; exact Ev.now _)
    simp only [trivetref01_size.l0]
    rw [if_neg (by omega)]
  | succ n ih =>
    intro hn
    have e1 := digit_some S1 D1 E1 (b + n) hl1 hE1 hE1' (by omega) (by omega)
    have e2 := digit_some S2 D2 E2 (b + n) hl2 hE2 hE2' (by omega) (by omega)
    have ⟨p1, p2⟩ := dpart_bd hd1 E1 b n
    have ⟨q1, q2⟩ := dpart_bd hd2 E2 b n
    have hw := W_pos n
    simp only [dpart]
    rw [show b + ((n + 1 : Nat) : Int) - 1 = b + n from by omega]
    rcases Int.lt_trichotomy (dig D1 E1 (b + n)) (dig D2 E2 (b + n)) with h | h | h
    · have := Int.mul_le_mul_of_nonneg_left (show dig D1 E1 (b + n) + 1 ≤ dig D2 E2 (b + n) by omega) (Int.le_of_lt hw)
      rw [Int.mul_add] at this
      rw [Int.sign_eq_neg_one_of_neg (by omega)]
      refine Ev.step (f := fun _ => some (-1)) (fun k => ?_) (Ev.now _)
      simp only [trivetref01_size.l0]
      rw [if_pos (by omega), e1]; simp only [Option.bind_some]
      rw [e2]; simp only [Option.bind_some]
      rw [if_neg (by omega), if_pos h]
    · rw [h, show dpart D1 E1 b n + W n * dig D2 E2 (b + n) - (dpart D2 E2 b n + W n * dig D2 E2 (b + n)) = dpart D1 E1 b n - dpart D2 E2 b n from by omega]
      refine Ev.step (f := fun k => trivetref01_size.l0 k b (b + n - 1) S1 D1 E1 S2 D2 E2) (fun k => ?_) (ih (by omega))
      simp only [trivetref01_size.l0]
      rw [if_pos (by omega), e1]; simp only [Option.bind_some]
      rw [e2]; simp only [Option.bind_some]
      rw [if_neg (by omega), if_neg (by omega), w64 (b := b + n - 1) rfl (by omega) (by omega)]
    · have := Int.mul_le_mul_of_nonneg_left (show dig D2 E2 (b + n) + 1 ≤ dig D1 E1 (b + n) by omega) (Int.le_of_lt hw)
      rw [Int.mul_add] at this
      rw [Int.sign_eq_one_of_pos (by omega)]
      refine Ev.step (f := fun _ => some 1) (fun k => ?_) (Ev.now _)
      simp only [trivetref01_size.l0]
      rw [if_pos (by omega), e1]; simp only [Option.bind_some]
      rw [e2]; simp only [Option.bind_some]
      rw [if_pos h]
theorem size_ev (S1 : Int) (D1 : List Int) (E1 : Int) (S2 : Int) (D2 : List Int) (E2 : Int) (hd1 : Dig D1) (hd2 : Dig D2) (hl1 : D1.length ≤ 1000000) (hE1 : -1000000 ≤ E1) (hE1' : E1 ≤ 1000000) (hl2 : D2.length ≤ 1000000) (hE2 : -1000000 ≤ E2) (hE2' : E2 ≤ 1000000) (B : Nat) (hB1 : -(B : Int) ≤ E1) (hB2 : -(B : Int) ≤ E2) :
    Ev (fun k => trivetref01_size.f k S1 D1 E1 S2 D2 E2) (W (E1 + B).toNat * dval D1 - W (E2 + B).toNat * dval D2).sign := by
  have hb : mn E1 E2 = min E1 E2 := by unfold mn; split <;> omega
  have ht : mx (wrap64 (E1 + D1.length)) (wrap64 (E2 + D2.length)) = max (E1 + D1.length) (E2 + D2.length) := by
    rw [w64 (b := E1 + D1.length) rfl (by omega) (by omega), w64 (b := E2 + D2.length) rfl (by omega) (by omega)]
    unfold mx; split <;> omega
  obtain ⟨n, hn⟩ : ∃ n : Nat, max (E1 + (D1.length : Int)) (E2 + D2.length) = min E1 E2 + n := ⟨(max (E1 + (D1.length : Int)) (E2 + D2.length) - min E1 E2).toNat, by omega⟩
  have h := size_down S1 D1 E1 S2 D2 E2 (min E1 E2) hd1 hd2 hl1 hE1 hE1' hl2 hE2 hE2' (by omega) (by omega) n (by omega)
  rw [dpart_all D1 E1 (min E1 E2) n (by omega) (by omega), dpart_all D2 E2 (min E1 E2) n (by omega) (by omega)] at h
  have hs : (W (E1 + B).toNat * dval D1 - W (E2 + B).toNat * dval D2).sign = (W (E1 - min E1 E2).toNat * dval D1 - W (E2 - min E1 E2).toNat * dval D2).sign := by
    rw [show (E1 + (B : Int)).toNat = (min E1 E2 + B).toNat + (E1 - min E1 E2).toNat from by omega, show (E2 + (B : Int)).toNat = (min E1 E2 + B).toNat + (E2 - min E1 E2).toNat from by omega, W_add, W_add, Int.mul_assoc, Int.mul_assoc, ← Int.mul_sub, Int.sign_mul, Int.sign_eq_one_of_pos (W_pos _), Int.one_mul]
  rw [hs]
  refine Ev.congr (fun k => ?_) h
  unfold trivetref01_size.f
  rw [hb, ht, hn, w64 (b := min E1 E2 + n - 1) rfl (by omega) (by omega)]

/-! ### Low -/
theorem two_dvd_iff (m j : Nat) (o : Int) (ho : o % 2 = 1) : (2 : Int) ^ j ∣ 2 ^ m * o ↔ j ≤ m := by
  constructor
  · intro h
    apply Classical.byContradiction
    intro hlt
    obtain ⟨d, rfl⟩ : ∃ d, j = m + 1 + d := ⟨j - (m + 1), by omega⟩
    rw [Int.pow_add, Int.pow_add, Int.mul_assoc] at h
    have := Int.dvd_of_mul_dvd_mul_left (Int.ne_of_gt (Int.pow_pos (by omega) : (0 : Int) < 2 ^ m)) h
    obtain ⟨c, hc⟩ := this
    rw [show (2 : Int) ^ 1 * 2 ^ d * c = 2 * (2 ^ d * c) from by grind] at hc
    omega
  · intro h
    obtain ⟨d, rfl⟩ : ∃ d, m = j + d := ⟨m - j, by omega⟩
    rw [Int.pow_add, Int.mul_assoc]
    exact Int.dvd_mul_right _ _
theorem low_odd : ∀ (n : Nat) (x : Int) (y : Int), 0 < x → x < 2 ^ n → n ≤ 24 → -1000000000 ≤ y → y + n ≤ 1000000000 → ∃ (t : Nat) (o : Int), x = 2 ^ t * o ∧ o % 2 = 1 ∧ t < n ∧ Ev (fun k => trivetref01_Low.l0 k y x) (y + t) := by
  intro n
  induction n with
  | zero => intro x y h0 h1; simp at h1; omega
  | succ n ih =>
    intro x y h0 h1 hn hy hy2
    have em : Int.tmod x 2 = x % 2 := Int.tmod_eq_emod_of_nonneg (by omega)
    have ed : Int.tdiv x 2 = x / 2 := Int.tdiv_eq_ediv_of_nonneg (by omega)
    by_cases h : x % 2 = 0
    · have hb : (2 : Int) ^ (n + 1) ≤ 2 ^ 24 := two_le hn
      rw [Int.pow_succ] at h1 hb
      obtain ⟨t, o, e1, e2, e3, e4⟩ := ih (x / 2) (y + 1) (by omega) (by omega) (by omega) (by omega) (by omega)
      refine ⟨t + 1, o, ?_, e2, by omega, Ev.step (f := fun k => trivetref01_Low.l0 k (y + 1) (x / 2)) (fun k => ?_) (by rw [show y + ((t + 1 : Nat) : Int) = y + 1 + t from by omega]; exact e4)⟩
      · rw [Int.pow_succ, show (2 : Int) ^ t * 2 * o = 2 * (2 ^ t * o) from by grind, ← e1]; omega
      · simp only [trivetref01_Low.l0]
        rw [em, if_pos h, w64 (b := y + 1) rfl (by omega) (by omega), w64 (b := x / 2) ed (by omega) (by omega)]
    · refine ⟨0, x, by simp, by omega, by omega, Ev.step (f := fun _ => some y) (fun k => ?_) (by simp; exact Ev.now _)⟩
      simp only [trivetref01_Low.l0]
      rw [em, if_neg h]
/-- The lowest bit. -/
theorem low_ev {S : Int} {D : List Int} {E : Int} {B n : Nat} {x : Int} (h : Worth S D E B n x) (hx : x ≠ 0) (hn : n ≤ 400000) : ∃ r : Int, Ev (fun k => trivetref01_Low.f k S D E) r ∧ ∀ j : Nat, (2 : Int) ^ j ∣ x ↔ (j : Int) ≤ r + 24 * B := by
  have hS : S ≠ 0 := by rw [h.sign]; intro h0; exact hx (Int.sign_eq_zero_iff_zero.1 h0)
  have hlo := h.lo
  have hhi := h.hi
  have hab := h.abs hS
  obtain ⟨r, h1, h2⟩ := trim_ev S D E h.digits (by omega) (by omega) (by omega)
  rcases h2 with ⟨z, _⟩ | ⟨z, z1, z2, z3, z4, z5, z6, z7⟩
  · rw [z] at hab; simp at hab; omega
  have hl : 0 < r.2.1.length := List.length_pos_iff.2 z7
  obtain ⟨d0, ds, hds⟩ : ∃ d0 ds, r.2.1 = d0 :: ds := by
    cases hc : r.2.1 with
    | nil => exact absurd hc z7
    | cons a b => exact ⟨a, b, rfl⟩
  have hr0 : rd r.2.1 0 = d0 := by rw [hds]; rfl
  have hbd := rd_dig z2 0
  rw [hr0] at z6 hbd
  have hp := h.place
  obtain ⟨t, o, e1, e2, e3, e4⟩ := low_odd 24 d0 (24 * r.2.2) (by omega) (by omega) (by omega) (by omega) (by omega)
  refine ⟨24 * r.2.2 + t, ?_, ?_⟩
  · refine Ev.congr (f := fun k => (trivetref01_trim.f k S D E).bind fun bt => if 0 < (bt.2.1.length : Int) then trivetref01_Low.l0 k (wrap64 (24 * bt.2.2)) (rd bt.2.1 0) else none) (fun k => by unfold trivetref01_Low.f; rw [if_neg hS]) (Ev.bind h1 ?_)
    refine Ev.congr (fun k => ?_) e4
    rw [if_pos (by omega), hr0, w64 (b := 24 * r.2.2) rfl (by omega) (by omega)]
  · intro j
    rw [← Int.dvd_natAbs, ← hab, z5, ← Int.mul_assoc, ← W_add, show (E + (B : Int)).toNat + (r.2.2 - E).toNat = (r.2.2 + B).toNat from by omega, W_two, hds, dval, e1]
    have e5 : (2 : Int) ^ (24 * (r.2.2 + B).toNat) * (2 ^ t * o + 16777216 * dval ds) = 2 ^ (24 * (r.2.2 + (B : Int)).toNat + t) * (o + 2 * (2 ^ (23 - t) * dval ds)) := by
      rw [show (16777216 : Int) = 2 ^ t * (2 * 2 ^ (23 - t)) from by rw [← Int.pow_succ', ← Int.pow_add, show t + (23 - t + 1) = 24 from by omega]; rfl, Int.pow_add]
      grind
    rw [e5, two_dvd_iff _ _ _ (by omega)]
    omega
end Go.Proofs.Ythcklcfdeejkpaa.NumQ
