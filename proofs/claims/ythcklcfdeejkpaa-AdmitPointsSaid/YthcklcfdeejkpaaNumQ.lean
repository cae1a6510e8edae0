/- What trivetref01's plain functions trim, Power, digit, size, Low come to, on digits and values. Bounds of places stand in each sentence. -/
import Derived.Test.YthcklcfdeejkpaaNumP
import Derived.Test.YthcklcfdeejkpaaR
namespace Go.Proofs.Ythcklcfdeejkpaa.NumQ
open Go.RowKit Go.Proofs.Ythcklcfdeejkpaa.NumP Go.Proofs.Ythcklcfdeejkpaa.R Go.Proofs.YthcklcfdeejkpaaW.PrintWords Go.Proofs.YthcklcfdeejkpaaW.PrintLast Go.Proofs.YthcklcfdeejkpaaW.PrintMore

theorem w64 {a b : Int} (h : a = b) (h1 : -9223372036854775808 ≤ b) (h2 : b ≤ 9223372036854775807) : wrap64 a = b := by subst h; unfold wrap64; omega

/-- What is left behind the noughts at both ends. -/
def TrimOf (S : Int) (D : List Int) (E : Int) (r : Int × List Int × Int) : Prop :=
  (dval D = 0 ∧ r = (0, [], 0)) ∨ (dval D ≠ 0 ∧ r.1 = S ∧ Dig r.2.1 ∧ E ≤ r.2.2 ∧ r.2.2 + r.2.1.length ≤ E + D.length ∧ dval D = W (r.2.2 - E).toNat * dval r.2.1 ∧ rd r.2.1 0 ≠ 0 ∧ r.2.1 ≠ [])
theorem trim_low (S a1 : Int) (a2 : List Int) (a3 : Int) (hS : a1 = S) : ∀ (n : Nat) (D : List Int) (E : Int), D.length = n → Dig D → n ≤ 1000000 → -1000000 ≤ E → E + n ≤ 3000000 →
    ∃ r, Ev (fun k => trivetref01_trim.l1 k D E a1 a2 a3) r ∧ TrimOf S D E r := by
  subst hS
  intro n
  induction n with
  | zero =>
    intro D E hl hd _ _ _
    obtain rfl := List.length_eq_zero_iff.1 hl
    refine ⟨(0, [], 0), Ev.step (f := fun _ => some (0, [], 0)) (fun k => ?_) (Ev.now _), .inl ⟨rfl, rfl⟩⟩
    simp [trivetref01_trim.l1]
  | succ n ih =>
    intro D E hl hd hn hE hE2
    by_cases h0 : rd D 0 = 0
    · obtain ⟨r, hr, ht⟩ := ih (D.drop 1) (E + 1) (by simp [hl]) (hd.drop 1) (by omega) (by omega) (by omega)
      have hv := dval_zero_below D h0 (by intro h; rw [h] at hl; simp at hl)
      refine ⟨r, Ev.step (f := fun k => trivetref01_trim.l1 k (D.drop 1) (E + 1) a1 a2 a3) (fun k => ?_) hr, ?_⟩
      · simp only [trivetref01_trim.l1]
        rw [if_pos (by omega), if_pos (by omega), if_pos h0, if_pos (by omega), w64 (b := E + 1) rfl (by omega) (by omega)]
      · rcases ht with ⟨h1, h2⟩ | ⟨h1, h2, h3, h4, h5, h6, h7, h8⟩
        · exact .inl ⟨by rw [hv, h1]; rfl, h2⟩
        · refine .inr ⟨by omega, h2, h3, by omega, by simp [hl] at h5; omega, ?_, h7, h8⟩
          rw [hv, h6, show (r.2.2 - E).toNat = (r.2.2 - (E + 1)).toNat + 1 from by omega, W_succ, Int.mul_assoc]
    · have hne : dval D ≠ 0 := by
        intro hz
        have := dval_zero hd hz (rd D 0) (by
          unfold rd; rw [List.getD_eq_getElem?_getD, List.getElem?_eq_getElem (by simp; omega)]; exact List.getElem_mem _)
        exact h0 this
      refine ⟨(a1, D, E), Ev.step (f := fun _ => some (a1, D, E)) (fun k => ?_) (Ev.now _), .inr ⟨hne, rfl, hd, Int.le_refl _, Int.le_refl _, by simp [W_zero], h0, fun h => by simp only at h; rw [h] at hl; simp at hl⟩⟩
      simp only [trivetref01_trim.l1]
      rw [if_pos (by omega), if_pos (by omega), if_neg h0, if_neg (by omega)]
theorem trim_high (S a1 : Int) (a2 : List Int) (a3 : Int) (hS : a1 = S) (E : Int) (hE : -1000000 ≤ E) (hE2 : E ≤ 1000000) : ∀ (n : Nat) (D : List Int), D.length = n → Dig D → n ≤ 1000000 →
    ∃ r, Ev (fun k => trivetref01_trim.l0 k D E a1 a2 a3) r ∧ TrimOf S D E r := by
  intro n
  have out (D : List Int) (hd : Dig D) (hn : D.length ≤ 1000000) : ∃ r, Ev (fun k => trivetref01_trim.j1 k D E a1 a2 a3) r ∧ TrimOf S D E r := by
    obtain ⟨r, h1, h2⟩ := trim_low S a1 a2 a3 hS D.length D E rfl hd hn (by omega) (by omega)
    exact ⟨r, Ev.step (fun k => by simp only [trivetref01_trim.j1]) h1, h2⟩
  induction n with
  | zero =>
    intro D hl hd hn
    obtain ⟨r, h1, h2⟩ := out D hd (by omega)
    refine ⟨r, Ev.step (f := fun k => trivetref01_trim.j1 k D E a1 a2 a3) (fun k => ?_) h1, h2⟩
    simp only [trivetref01_trim.l0]
    rw [if_neg (by omega)]
  | succ n ih =>
    intro D hl hd hn
    have hw : wrap64 ((D.length : Int) - 1) = (D.length : Int) - 1 := w64 rfl (by omega) (by omega)
    by_cases h0 : rd D ((D.length : Int) - 1) = 0
    · obtain ⟨r, h1, h2⟩ := ih (D.take (D.length - 1)) (by simp [hl]) (hd.take _) (by omega)
      have hv := dval_zero_above D h0 (by intro h; rw [h] at hl; simp at hl)
      refine ⟨r, Ev.step (f := fun k => trivetref01_trim.l0 k (D.take (D.length - 1)) E a1 a2 a3) (fun k => ?_) h1, ?_⟩
      · simp only [trivetref01_trim.l0]
        rw [hw, if_pos (by omega), if_pos (by omega), if_pos (by omega), if_pos h0, if_pos (by omega), show ((D.length : Int) - 1).toNat = D.length - 1 from by omega]
      · rcases h2 with ⟨h1, h2⟩ | ⟨h1, h2, h3, h4, h5, h6, h7, h8⟩
        · exact .inl ⟨by rw [← hv, h1], h2⟩
        · exact .inr ⟨by rw [← hv]; exact h1, h2, h3, h4, by simp at h5; omega, by rw [← hv]; exact h6, h7, h8⟩
    · obtain ⟨r, h1, h2⟩ := out D hd (by omega)
      refine ⟨r, Ev.step (f := fun k => trivetref01_trim.j1 k D E a1 a2 a3) (fun k => ?_) h1, h2⟩
      simp only [trivetref01_trim.l0]
      rw [hw, if_pos (by omega), if_pos (by omega), if_pos (by omega), if_neg h0]
theorem trim_ev (S : Int) (D : List Int) (E : Int) (hd : Dig D) (hn : D.length ≤ 1000000) (hE : -1000000 ≤ E) (hE2 : E ≤ 1000000) : ∃ r, Ev (fun k => trivetref01_trim.f k S D E) r ∧ TrimOf S D E r := by
  obtain ⟨r, h1, h2⟩ := trim_high S S D E rfl E hE hE2 D.length D rfl hd hn
  exact ⟨r, Ev.congr (fun k => by unfold trivetref01_trim.f; rfl) h1, h2⟩
/-- Its worth. -/
theorem TrimOf.worth {S : Int} {D : List Int} {E : Int} {r : Int × List Int × Int} (h : TrimOf S D E r) {B n : Nat} (hS : S = 1 ∨ S = -1) (hlo : -(n : Int) ≤ E) (hhi : E + D.length ≤ n) (hp : -(B : Int) ≤ E) :
    Worth r.1 r.2.1 r.2.2 B n (S * (W (E + B).toNat * dval D)) := by
  rcases h with ⟨h1, h2⟩ | ⟨h1, h2, h3, h4, h5, h6, h7, h8⟩
  · rw [h2, h1]; simp only [Int.mul_zero]; exact Worth.zero B n
  · have hne : dval r.2.1 ≠ 0 := by intro hz; rw [hz] at h6; simp at h6; exact h1 h6
    have := Worth.mk' (E := r.2.2) (B := B) (n := n) h3 (S := r.1) (by rw [h2]; exact hS) (by omega) (by omega) (by omega) hne
    rw [h6, show S * (W (E + B).toNat * (W (r.2.2 - E).toNat * dval r.2.1)) = r.1 * (W (r.2.2 + B).toNat * dval r.2.1) from by
      rw [show (r.2.2 + (B : Int)).toNat = (E + B).toNat + (r.2.2 - E).toNat from by omega, W_add, h2]; grind]
    exact this

/-! ### Power -/
theorem two_le {a b : Nat} (h : a ≤ b) : (2 : Int) ^ a ≤ 2 ^ b := by
  have h1 := Nat.pow_le_pow_right (n := 2) (by omega) h
  have e1 : ((2 ^ a : Nat) : Int) = 2 ^ a := by simp
  have e2 : ((2 ^ b : Nat) : Int) = 2 ^ b := by simp
  omega
/-- The digits, each times two, with what is carried. -/
theorem power_mul (two E : Int) (ht0 : 1 ≤ two) (ht : two < 16777216) (hE : -100000 ≤ E) (hE2 : E ≤ 100000) (o : List Int) (ho : Dig o) (hl : o.length ≤ 100) : ∀ (d i : Nat) (xs : List Int) (c : Int), o.length = i + d → xs.length = o.length → 0 ≤ c → c < 16777216 →
    Dig (xs.take i) → xs.drop i = o.drop i → dval (xs.take i) + W i * c = two * dval (o.take i) →
    ∃ r, Ev (fun k => trivetref01_Power.l4 k two c (i : Int) 1 xs E) r ∧ ∃ D, TrimOf 1 D E r ∧ Dig D ∧ D.length = o.length + 1 ∧ dval D = two * dval o := by
  intro d
  induction d with
  | zero =>
    intro i xs c hd hx hc0 hc hdig hdrop hv
    have hxi : xs.take i = xs := List.take_of_length_le (by omega)
    rw [hxi] at hdig hv
    have hD : Dig (xs ++ [c]) := hdig.join (fun x hx => by simp at hx; omega)
    obtain ⟨r, h1, h2⟩ := trim_ev 1 (xs ++ [c]) E hD (by simp; omega) (by omega) (by omega)
    refine ⟨r, Ev.step (f := fun k => (trivetref01_trim.f k 1 (xs ++ [c]) E).bind fun b => some (b.1, b.2.1, b.2.2)) (fun k => ?_) (Ev.bind h1 (Ev.now _)), xs ++ [c], h2, hD, by simp [hx], ?_⟩
    · simp only [trivetref01_Power.l4]
      rw [if_neg (by omega), if_pos (by omega)]
    · rw [dval_snoc, hx, show o.length = i from by omega, hv, List.take_of_length_le (by omega)]
  | succ d ih =>
    intro i xs c hd hx hc0 hc hdig hdrop hv
    have hi : i < o.length := by omega
    have hdg : rd xs (i : Int) = o[i] := by
      have := congrArg (fun l => l[0]?) hdrop
      simp only [List.getElem?_drop, Nat.add_zero] at this
      unfold rd; rw [List.getD_eq_getElem?_getD, Int.toNat_natCast, this, List.getElem?_eq_getElem hi]; rfl
    have hob := ho o[i] (List.getElem_mem hi)
    have hm0 : 0 ≤ o[i] * two := Int.mul_nonneg hob.1 (by omega)
    have hm1 : o[i] * two ≤ 16777215 * 16777215 := Int.mul_le_mul (by omega) (by omega) (by omega) (by omega)
    have e1 : wrap64 (o[i] * two) = o[i] * two := w64 rfl (by omega) (by omega)
    have e2 : wrap64 (o[i] * two + c) = o[i] * two + c := w64 rfl (by omega) (by omega)
    have e3 : Int.tdiv (o[i] * two + c) 16777216 = (o[i] * two + c) / 16777216 := Int.tdiv_eq_ediv_of_nonneg (by omega)
    have e4 : Int.tmod (o[i] * two + c) 16777216 = (o[i] * two + c) % 16777216 := Int.tmod_eq_emod_of_nonneg (by omega)
    have e5 : wrap64 ((o[i] * two + c) / 16777216) = (o[i] * two + c) / 16777216 := w64 rfl (by omega) (by omega)
    have htk : (xs.set i ((o[i] * two + c) % 16777216)).take (i + 1) = xs.take i ++ [(o[i] * two + c) % 16777216] := by
      rw [List.take_add_one, List.getElem?_set_self (by omega), List.take_set_of_le (Nat.le_refl _)]; rfl
    obtain ⟨r, h1, h2⟩ := ih (i + 1) (xs.set i ((o[i] * two + c) % 16777216)) ((o[i] * two + c) / 16777216) (by omega) (by simp [hx]) (by omega) (by omega)
      (by rw [htk]; exact hdig.join (fun x hx => by simp at hx; omega))
      (by
        rw [List.drop_set, if_pos (by omega)]
        have := congrArg (List.drop 1) hdrop
        simpa [List.drop_drop, Nat.add_comm] using this)
      (by
        rw [htk, dval_snoc, List.length_take, Nat.min_eq_left (by omega), List.take_add_one, List.getElem?_eq_getElem hi]
        simp only [Option.toList]
        rw [dval_snoc, List.length_take, Nat.min_eq_left (by omega), W_succ]
        have hq := Int.mul_ediv_add_emod (o[i] * two + c) 16777216
        generalize (o[i] * two + c) / 16777216 = q at *
        generalize (o[i] * two + c) % 16777216 = m at *
        have : dval (xs.take i) = two * dval (o.take i) - W i * c := by omega
        rw [this, show m = o[i] * two + c - 16777216 * q from by omega]
        grind)
    refine ⟨r, Ev.step (f := fun k => trivetref01_Power.l4 k two ((o[i] * two + c) / 16777216) ((i + 1 : Nat) : Int) 1 (xs.set i ((o[i] * two + c) % 16777216)) E) (fun k => ?_) h1, h2⟩
    simp only [trivetref01_Power.l4]
    rw [if_pos (by omega), if_pos (by omega), hdg, e1, e2, e3, e4, e5, w64 (b := ((i + 1 : Nat) : Int)) (by omega) (by omega) (by omega), Int.toNat_natCast]
theorem power_two (m : Nat) (hm : m < 24) (E : Int) (o : List Int) (r : Int × List Int × Int) (h : Ev (fun k => trivetref01_Power.l4 k (2 ^ m) 0 0 1 o E) r) : ∀ d i : Nat, m = i + d → Ev (fun k => trivetref01_Power.l3 k (m : Int) (2 ^ i) (i : Int) 1 o E) r := by
  intro d
  induction d with
  | zero =>
    intro i hi
    obtain rfl : m = i := by omega
    exact Ev.step (fun k => by simp only [trivetref01_Power.l3]; rw [if_neg (by omega)]) h
  | succ d ih =>
    intro i hi
    refine Ev.step (f := fun k => trivetref01_Power.l3 k (m : Int) (2 ^ (i + 1)) ((i + 1 : Nat) : Int) 1 o E) (fun k => ?_) (ih (i + 1) (by omega))
    have hb : (2 : Int) ^ i ≤ 2 ^ 23 := two_le (by omega)
    have hp : (0 : Int) < 2 ^ i := Int.pow_pos (by omega)
    simp only [trivetref01_Power.l3]
    rw [if_pos (by omega), w64 (b := 2 ^ (i + 1)) (by rw [Int.pow_succ]) (by rw [Int.pow_succ]; omega) (by rw [Int.pow_succ]; omega), w64 (b := ((i + 1 : Nat) : Int)) (by omega) (by omega) (by omega)]
theorem power_digits (m : Nat) (E : Int) (y : Int) (good : ∀ o : List Int, Dig o → o.length ≤ 3 → dval o = y → ∃ r, Ev (fun k => trivetref01_Power.l3 k (m : Int) 1 0 1 o E) r ∧ ∃ D, TrimOf 1 D E r ∧ Dig D ∧ D.length = o.length + 1 ∧ dval D = 2 ^ m * dval o) :
    ∀ (d : Nat) (z : Int) (o : List Int), 0 ≤ z → z < W d → Dig o → o.length + d ≤ 3 → dval o + W o.length * z = y →
    ∃ r, Ev (fun k => trivetref01_Power.l2 k z (m : Int) 1 o E) r ∧ ∃ D, TrimOf 1 D E r ∧ Dig D ∧ D.length ≤ 4 ∧ dval D = 2 ^ m * y := by
  have stop (o : List Int) (ho : Dig o) (hl : o.length ≤ 3) (hv : dval o = y) : ∃ r, Ev (fun k => trivetref01_Power.l2 k 0 (m : Int) 1 o E) r ∧ ∃ D, TrimOf 1 D E r ∧ Dig D ∧ D.length ≤ 4 ∧ dval D = 2 ^ m * y := by
    obtain ⟨r, h1, D, h2, h3, h4, h5⟩ := good o ho hl hv
    exact ⟨r, Ev.step (fun k => by simp only [trivetref01_Power.l2]; rw [if_neg (by omega)]) h1, D, h2, h3, by omega, by rw [h5, hv]⟩
  intro d
  induction d with
  | zero =>
    intro z o h0 h1 ho hl hv
    rw [W_zero] at h1
    obtain rfl : z = 0 := by omega
    exact stop o ho (by omega) (by simpa using hv)
  | succ d ih =>
    intro z o h0 h1 ho hl hv
    rw [W_succ] at h1
    by_cases hz : z = 0
    · subst hz; exact stop o ho (by omega) (by simpa using hv)
    · obtain ⟨r, h2, h3⟩ := ih (z / 16777216) (o ++ [z % 16777216]) (by omega) (by omega) (ho.join (fun x hx => by simp at hx; omega)) (by simp; omega)
        (by
          rw [dval_snoc, List.length_append, W_add]
          have hq := Int.mul_ediv_add_emod z 16777216
          generalize z / 16777216 = q at *
          generalize z % 16777216 = p at *
          rw [← hv, ← hq, show W [p].length = 16777216 from rfl]
          grind)
      refine ⟨r, Ev.step (f := fun k => trivetref01_Power.l2 k (z / 16777216) (m : Int) 1 (o ++ [z % 16777216]) E) (fun k => ?_) h2, h3⟩
      simp only [trivetref01_Power.l2]
      have hW : W d ≤ W 2 := by rw [W_two, W_two]; exact two_le (by omega)
      rw [show W 2 = 281474976710656 from rfl] at hW
      have e1 : Int.tdiv z 16777216 = z / 16777216 := Int.tdiv_eq_ediv_of_nonneg (by omega)
      have e2 : Int.tmod z 16777216 = z % 16777216 := Int.tmod_eq_emod_of_nonneg (by omega)
      rw [if_pos (by omega), if_pos (by omega), e1, e2, w64 (b := z % 16777216) rfl (by omega) (by omega)]
      rw [show IntKind.u64.wrap (z / 16777216) = z / 16777216 from by simp only [IntKind.wrap]; simp [IntKind.signed, IntKind.bits]; omega]

/-- What Power makes: n times 2 ^ k. -/
theorem power_ev (n : Int) (k0 : Int) (hn : 0 ≤ n) (hn2 : n < 18446744073709551616) (hk : -24000 ≤ k0) (hk2 : k0 ≤ 24000) (B : Nat) (hB : 0 ≤ 24 * (B : Int) + k0) :
    ∃ r, Ev (fun k => trivetref01_Power.f k n k0) r ∧ Worth r.1 r.2.1 r.2.2 B 1010 (n * 2 ^ (24 * (B : Int) + k0).toNat) := by
  have fin (E : Int) (m : Nat) (hm : m < 24) (hE : k0 = 24 * E + m) : ∃ r, Ev (fun k => trivetref01_Power.l1 k n (m : Int) E) r ∧ Worth r.1 r.2.1 r.2.2 B 1010 (n * 2 ^ (24 * (B : Int) + k0).toNat) := by
    obtain ⟨r, h1, D, h2, h3, h4, h5⟩ := power_digits m E n (fun o ho hl _ => by
      have hb : (2 : Int) ^ m < 16777216 := Int.lt_of_le_of_lt (two_le (show m ≤ 23 by omega)) (by decide)
      have hp : (0 : Int) < 2 ^ m := Int.pow_pos (by omega)
      obtain ⟨r, h1, h2⟩ := power_mul (2 ^ m) E (by omega) hb (by omega) (by omega) o ho (by omega) o.length 0 o 0 (by omega) rfl (by omega) (by omega) (by simp [Dig]) (by simp) (by simp [dval])
      exact ⟨r, by have := power_two m hm E o r h1 m 0 (by omega); simpa using this, h2⟩) 3 n [] hn (by rw [show W 3 = 4722366482869645213696 from rfl]; omega) (by simp [Dig]) (by simp) (by simp [dval, W_zero])
    refine ⟨r, Ev.step (fun k => by simp only [trivetref01_Power.l1]; rw [if_neg (by omega)]) h1, ?_⟩
    have := h2.worth (B := B) (n := 1010) (.inl rfl) (by omega) (by omega) (by omega)
    rw [h5, Int.one_mul] at this
    rw [show n * 2 ^ (24 * (B : Int) + k0).toNat = W (E + B).toNat * (2 ^ m * n) from by
      rw [W_two, show (24 * (B : Int) + k0).toNat = 24 * (E + B).toNat + m from by omega, Int.pow_add]; grind]
    exact this
  have big : ∀ (d : Nat) (E k1 : Int), k0 = 24 * E + k1 → 0 ≤ k1 → k1 < 24 * ((d : Int) + 1) → k1 ≤ 24024 → ∃ r, Ev (fun k => trivetref01_Power.l1 k n k1 E) r ∧ Worth r.1 r.2.1 r.2.2 B 1010 (n * 2 ^ (24 * (B : Int) + k0).toNat) := by
    intro d
    induction d with
    | zero =>
      intro E k1 h h0 h1 _
      obtain ⟨m, rfl⟩ := Int.eq_ofNat_of_zero_le h0
      exact fin E m (by omega) h
    | succ d ih =>
      intro E k1 h h0 h1 hk3
      by_cases hs : k1 < 24
      · obtain ⟨m, rfl⟩ := Int.eq_ofNat_of_zero_le h0
        exact fin E m (by omega) h
      · obtain ⟨r, h2, h3⟩ := ih (E + 1) (k1 - 24) (by omega) (by omega) (by omega) (by omega)
        refine ⟨r, Ev.step (f := fun k => trivetref01_Power.l1 k n (k1 - 24) (E + 1)) (fun k => ?_) h2, h3⟩
        simp only [trivetref01_Power.l1]
        rw [if_pos (by omega), w64 (b := k1 - 24) rfl (by omega) (by omega), w64 (b := E + 1) rfl (by omega) (by omega)]
  have small : ∀ (d : Nat) (E k1 : Int), k0 = 24 * E + k1 → k1 < 24001 → -(24 * (d : Int)) ≤ k1 → -24024 ≤ k1 → ∃ r, Ev (fun k => trivetref01_Power.l0 k n k1 E) r ∧ Worth r.1 r.2.1 r.2.2 B 1010 (n * 2 ^ (24 * (B : Int) + k0).toNat) := by
    intro d
    induction d with
    | zero =>
      intro E k1 h h0 h1 _
      obtain ⟨r, h2, h3⟩ := big 1001 E k1 h (by omega) (by omega) (by omega)
      exact ⟨r, Ev.step (fun k => by simp only [trivetref01_Power.l0]; rw [if_neg (by omega)]) h2, h3⟩
    | succ d ih =>
      intro E k1 h h0 h1 hk3
      by_cases hs : k1 < 0
      · obtain ⟨r, h2, h3⟩ := ih (E - 1) (k1 + 24) (by omega) (by omega) (by omega) (by omega)
        refine ⟨r, Ev.step (f := fun k => trivetref01_Power.l0 k n (k1 + 24) (E - 1)) (fun k => ?_) h2, h3⟩
        simp only [trivetref01_Power.l0]
        rw [if_pos hs, w64 (b := k1 + 24) rfl (by omega) (by omega), w64 (b := E - 1) rfl (by omega) (by omega)]
      · obtain ⟨r, h2, h3⟩ := big 1001 E k1 h (by omega) (by omega) (by omega)
        exact ⟨r, Ev.step (fun k => by simp only [trivetref01_Power.l0]; rw [if_neg hs]) h2, h3⟩
  obtain ⟨r, h1, h2⟩ := small 1001 0 k0 (by omega) (by omega) (by omega) (by omega)
  exact ⟨r, Ev.congr (fun k => by unfold trivetref01_Power.f; rfl) h1, h2⟩
end Go.Proofs.Ythcklcfdeejkpaa.NumQ
