/- What trivetref01's plain functions Add, Sub, Cmp, Abs, Neg come to: sums and differences of values. Bounds of places stand in each sentence. -/
import Derived.Test.YthcklcfdeejkpaaNumS
namespace Go.Proofs.Ythcklcfdeejkpaa.NumQ
open Go.RowKit Go.Proofs.Ythcklcfdeejkpaa.NumP Go.Proofs.Ythcklcfdeejkpaa.R Go.Proofs.YthcklcfdeejkpaaW.PrintWords Go.Proofs.YthcklcfdeejkpaaW.PrintLast Go.Proofs.YthcklcfdeejkpaaW.PrintMore

section
variable (g tt S1 : Int) (D1 : List Int) (E1 S2 : Int) (D2 : List Int) (E2 S : Int) (b : Int)
theorem add_above (i : Int) (O : List Int) (r : Int × List Int × Int) (hO : O.length ≤ 4000000) (hi : -1000000 ≤ i) (hi2 : i ≤ 3000000) : ∀ (m : Nat) (v c : Int), 0 ≤ v → v < 16777216 * ((m : Int) + 1) → m ≤ 5 → -100 ≤ c → c + m ≤ 100 →
    Ev (fun k => trivetref01_Add.l0 k g tt (c + v / 16777216) (i + 1) S1 D1 E1 S2 D2 E2 S (O ++ [v % 16777216]) b) r → Ev (fun k => trivetref01_Add.l2 k g tt c i v S1 D1 E1 S2 D2 E2 S O b) r := by
  intro m
  induction m with
  | zero =>
    intro v c h0 h1 _ _ _ h
    refine Ev.step (fun k => ?_) h
    simp only [trivetref01_Add.l2]
    rw [if_neg (by omega), if_pos (by omega), w64 (b := i + 1) rfl (by omega) (by omega), show v / 16777216 = 0 from by omega, show v % 16777216 = v from by omega, Int.add_zero]
  | succ m ih =>
    intro v c h0 h1 hm hc hc2 h
    by_cases hv : v ≥ 16777216
    · refine Ev.step (f := fun k => trivetref01_Add.l2 k g tt (c + 1) i (v - 16777216) S1 D1 E1 S2 D2 E2 S O b) (fun k => ?_) (ih (v - 16777216) (c + 1) (by omega) (by omega) (by omega) (by omega) (by omega) ?_)
      · simp only [trivetref01_Add.l2]
        rw [if_pos hv, w64 (b := c + 1) rfl (by omega) (by omega), w64 (b := v - 16777216) rfl (by omega) (by omega)]
      · rw [show c + 1 + (v - 16777216) / 16777216 = c + v / 16777216 from by omega, show (v - 16777216) % 16777216 = v % 16777216 from by omega]; exact h
    · refine Ev.step (fun k => ?_) h
      simp only [trivetref01_Add.l2]
      rw [if_neg hv, if_pos (by omega), w64 (b := i + 1) rfl (by omega) (by omega), show v / 16777216 = 0 from by omega, show v % 16777216 = v from by omega, Int.add_zero]
theorem add_norm (i : Int) (O : List Int) (r : Int × List Int × Int) (hO : O.length ≤ 4000000) (hi : -1000000 ≤ i) (hi2 : i ≤ 3000000) (v : Int) (h0 : -16777216 ≤ v) (h1 : v < 16777216 * 4)
    (h : Ev (fun k => trivetref01_Add.l0 k g tt (v / 16777216) (i + 1) S1 D1 E1 S2 D2 E2 S (O ++ [v % 16777216]) b) r) : Ev (fun k => trivetref01_Add.l1 k g tt 0 i v S1 D1 E1 S2 D2 E2 S O b) r := by
  by_cases hv : v < 0
  · refine Ev.step (f := fun k => trivetref01_Add.l1 k g tt (-1) i (v + 16777216) S1 D1 E1 S2 D2 E2 S O b) (fun k => ?_) ?_
    · simp only [trivetref01_Add.l1]
      rw [if_pos hv, w64 (a := 0 - 1) (b := -1) rfl (by omega) (by omega), w64 (b := v + 16777216) rfl (by omega) (by omega)]
    · refine Ev.step (f := fun k => trivetref01_Add.l2 k g tt (-1) i (v + 16777216) S1 D1 E1 S2 D2 E2 S O b) (fun k => by simp only [trivetref01_Add.l1]; rw [if_neg (by omega)]) ?_
      refine add_above g tt S1 D1 E1 S2 D2 E2 S b i O r hO hi hi2 0 (v + 16777216) (-1) (by omega) (by omega) (by omega) (by omega) (by omega) ?_
      rw [show -1 + (v + 16777216) / 16777216 = v / 16777216 from by omega, show (v + 16777216) % 16777216 = v % 16777216 from by omega]; exact h
  · refine Ev.step (f := fun k => trivetref01_Add.l2 k g tt 0 i v S1 D1 E1 S2 D2 E2 S O b) (fun k => by simp only [trivetref01_Add.l1]; rw [if_neg hv]) ?_
    refine add_above g tt S1 D1 E1 S2 D2 E2 S b i O r hO hi hi2 3 v 0 (by omega) (by omega) (by omega) (by omega) (by omega) ?_
    rw [Int.zero_add]; exact h
end

theorem add_loop (g S1 : Int) (D1 : List Int) (E1 S2 : Int) (D2 : List Int) (E2 S : Int) (b : Int) (hg : g = 1 ∨ g = -1) (hd1 : Dig D1) (hd2 : Dig D2) (hl1 : D1.length ≤ 1000000) (hE1 : -1000000 ≤ E1) (hE1' : E1 ≤ 1000000) (hl2 : D2.length ≤ 1000000) (hE2 : -1000000 ≤ E2) (hE2' : E2 ≤ 1000000) (hb : -1000000 ≤ b) (hb2 : b ≤ 1000000) (n : Nat) (hn : b + n ≤ 2000000) (hn2 : n ≤ 900000)
    (hpos : 0 ≤ dpart D1 E1 b (n + 1) + g * dpart D2 E2 b (n + 1)) (hlt : dpart D1 E1 b (n + 1) + g * dpart D2 E2 b (n + 1) < W (n + 1)) :
    ∀ (d j : Nat) (c : Int) (O : List Int), n + 1 = j + d → O.length = j → Dig O → -1 ≤ c → c ≤ 3 → dval O + W j * c = dpart D1 E1 b j + g * dpart D2 E2 b j →
    ∃ r, Ev (fun k => trivetref01_Add.l0 k g (b + n) c (b + j) S1 D1 E1 S2 D2 E2 S O b) r ∧ ∃ D, TrimOf S D b r ∧ Dig D ∧ D.length = n + 1 ∧ dval D = dpart D1 E1 b (n + 1) + g * dpart D2 E2 b (n + 1) := by
  intro d
  induction d with
  | zero =>
    intro j c O hj hl hd hc1 hc2 hv
    obtain rfl : j = n + 1 := by omega
    have hb1 := dval_bd hd
    rw [hl] at hb1
    have hc : c = 0 := by
      have hw := W_pos (n + 1)
      rcases Int.lt_trichotomy c 0 with h | h | h
      · have := Int.mul_le_mul_of_nonneg_left (show c ≤ -1 by omega) (Int.le_of_lt hw); omega
      · exact h
      · have := Int.mul_le_mul_of_nonneg_left (show 1 ≤ c by omega) (Int.le_of_lt hw); omega
    subst hc
    obtain ⟨r, h1, h2⟩ := trim_ev S O b hd (by omega) hb hb2
    refine ⟨r, Ev.step (f := fun k => (trivetref01_trim.f k S O b).bind fun bt => some (bt.1, bt.2.1, bt.2.2)) (fun k => ?_) (Ev.bind h1 (Ev.now _)), O, h2, hd, hl, by simpa using hv⟩
    simp only [trivetref01_Add.l0]
    rw [if_neg (by omega)]
  | succ d ih =>
    intro j c O hj hl hd hc1 hc2 hv
    have e1 := digit_some S1 D1 E1 (b + j) hl1 hE1 hE1' (by omega) (by omega)
    have e2 := digit_some S2 D2 E2 (b + j) hl2 hE2 hE2' (by omega) (by omega)
    have b1 := dig_bd hd1 E1 (b + j)
    have b2 := dig_bd hd2 E2 (b + j)
    have hgb : -16777215 ≤ g * dig D2 E2 (b + j) ∧ g * dig D2 E2 (b + j) ≤ 16777215 := by rcases hg with rfl | rfl <;> omega
    have hv0 : dig D1 E1 (b + j) + g * dig D2 E2 (b + j) + c < 16777216 * 4 := by omega
    obtain ⟨r, h1, h2⟩ := ih (j + 1) ((dig D1 E1 (b + j) + g * dig D2 E2 (b + j) + c) / 16777216) (O ++ [(dig D1 E1 (b + j) + g * dig D2 E2 (b + j) + c) % 16777216]) (by omega) (by simp [hl]) (hd.join (fun x hx => by simp at hx; omega)) (by omega) (by omega)
      (by
        rw [dval_snoc, hl, W_succ]
        simp only [dpart]
        have hq := Int.mul_ediv_add_emod (dig D1 E1 (b + j) + g * dig D2 E2 (b + j) + c) 16777216
        generalize (dig D1 E1 (b + j) + g * dig D2 E2 (b + j) + c) / 16777216 = q at *
        generalize (dig D1 E1 (b + j) + g * dig D2 E2 (b + j) + c) % 16777216 = m at *
        rw [show m = dig D1 E1 (b + j) + g * dig D2 E2 (b + j) + c - 16777216 * q from by omega]
        grind)
    refine ⟨r, ?_, h2⟩
    refine Ev.step (f := fun k => trivetref01_Add.l1 k g (b + n) 0 (b + j) (dig D1 E1 (b + j) + g * dig D2 E2 (b + j) + c) S1 D1 E1 S2 D2 E2 S O b) (fun k => ?_) (add_norm g (b + n) S1 D1 E1 S2 D2 E2 S b (b + j) O r (by omega) (by omega) (by omega) _ (by omega) (by omega) (by rw [show b + ((j : Nat) : Int) + 1 = b + ((j + 1 : Nat) : Int) from by omega]; exact h1))
    simp only [trivetref01_Add.l0]
    rw [if_pos (by omega), e1]; simp only [Option.bind_some]
    rw [e2]; simp only [Option.bind_some]
    rw [w64 (b := g * dig D2 E2 (b + j)) rfl (by omega) (by omega), w64 (b := dig D1 E1 (b + j) + g * dig D2 E2 (b + j)) rfl (by omega) (by omega), w64 (b := dig D1 E1 (b + j) + g * dig D2 E2 (b + j) + c) rfl (by omega) (by omega)]

theorem _root_.Go.Proofs.Ythcklcfdeejkpaa.NumP.Worth.zero_of {S : Int} {D : List Int} {E : Int} {B n : Nat} {x : Int} (h : Worth S D E B n x) (h0 : S = 0) : x = 0 := by
  have := h.sign; rw [h0] at this; exact Int.sign_eq_zero_iff_zero.1 this.symm
theorem _root_.Go.Proofs.Ythcklcfdeejkpaa.NumP.Worth.sgn {S : Int} {D : List Int} {E : Int} {B n : Nat} {x : Int} (h : Worth S D E B n x) (h0 : S ≠ 0) : S = 1 ∨ S = -1 := by
  have hs := h.sign
  rcases Int.lt_trichotomy x 0 with hx | hx | hx
  · rw [Int.sign_eq_neg_one_of_neg hx] at hs; exact .inr hs
  · subst hx; simp at hs; exact absurd hs h0
  · rw [Int.sign_eq_one_of_pos hx] at hs; exact .inl hs

theorem add_tail {S1 : Int} {D1 : List Int} {E1 : Int} {S2 : Int} {D2 : List Int} {E2 : Int} {B n : Nat} {x y : Int} (h1 : Worth S1 D1 E1 B n x) (h2 : Worth S2 D2 E2 B n y) (hn : n ≤ 400000) (hS1 : S1 ≠ 0) (hS2 : S2 ≠ 0) (hge : S1 = S2 ∨ W (E2 + B).toNat * dval D2 ≤ W (E1 + B).toNat * dval D1) :
    ∃ r, Ev (fun k => trivetref01_Add.j0 k false S1 D1 E1 S2 D2 E2) r ∧ Worth r.1 r.2.1 r.2.2 B (n + 1) (x + y) := by
  have l1 := h1.lo; have l2 := h2.lo; have u1 := h1.hi; have u2 := h2.hi; have p1 := h1.place; have p2 := h2.place
  have hb : mn E1 E2 = min E1 E2 := by unfold mn; split <;> omega
  have ht : mx (wrap64 (E1 + D1.length)) (wrap64 (E2 + D2.length)) = max (E1 + D1.length) (E2 + D2.length) := by
    rw [w64 (b := E1 + D1.length) rfl (by omega) (by omega), w64 (b := E2 + D2.length) rfl (by omega) (by omega)]
    unfold mx; split <;> omega
  obtain ⟨m, hm⟩ : ∃ m : Nat, max (E1 + (D1.length : Int)) (E2 + D2.length) = min E1 E2 + m := ⟨(max (E1 + (D1.length : Int)) (E2 + D2.length) - min E1 E2).toNat, by omega⟩
  have q1 := dpart_all D1 E1 (min E1 E2) (m + 1) (by omega) (by omega)
  have q2 := dpart_all D2 E2 (min E1 E2) (m + 1) (by omega) (by omega)
  have r1 := dpart_all D1 E1 (min E1 E2) m (by omega) (by omega)
  have r2 := dpart_all D2 E2 (min E1 E2) m (by omega) (by omega)
  have b1 := dpart_bd h1.digits E1 (min E1 E2) m
  have b2 := dpart_bd h2.digits E2 (min E1 E2) m
  have sc1 : W (E1 + B).toNat * dval D1 = W (min E1 E2 + B).toNat * (W (E1 - min E1 E2).toNat * dval D1) := by rw [← Int.mul_assoc, ← W_add, show (min E1 E2 + (B : Int)).toNat + (E1 - min E1 E2).toNat = (E1 + B).toNat from by omega]
  have sc2 : W (E2 + B).toNat * dval D2 = W (min E1 E2 + B).toNat * (W (E2 - min E1 E2).toNat * dval D2) := by rw [← Int.mul_assoc, ← W_add, show (min E1 E2 + (B : Int)).toNat + (E2 - min E1 E2).toNat = (E2 + B).toNat from by omega]
  have v1 := h1.val
  have v2 := h2.val
  rw [sc1] at v1
  rw [sc2] at v2
  have s1 := h1.sgn hS1
  have s2 := h2.sgn hS2
  have run (g : Int) (hg : g = 1 ∨ g = -1) (hS : S2 = g * S1) (hpos : g = -1 → W (E2 + B).toNat * dval D2 ≤ W (E1 + B).toNat * dval D1) :
      ∃ r, Ev (fun k => trivetref01_Add.j1 k g S1 D1 E1 S2 D2 E2) r ∧ Worth r.1 r.2.1 r.2.2 B (n + 1) (x + y) := by
    have hle : g = -1 → dpart D2 E2 (min E1 E2) m ≤ dpart D1 E1 (min E1 E2) m := by
      intro h
      have := hpos h
      rw [sc1, sc2, ← r1, ← r2] at this
      exact Int.le_of_mul_le_mul_left this (W_pos _)
    rw [← r1] at q1 v1
    rw [← r2] at q2 v2
    have hw : W (m + 1) = 16777216 * W m := W_succ m
    obtain ⟨r, e1, D, e2, e3, e4, e5⟩ := add_loop g S1 D1 E1 S2 D2 E2 S1 (min E1 E2) hg h1.digits h2.digits (by omega) (by omega) (by omega) (by omega) (by omega) (by omega) (by omega) (by omega) m (by omega) (by omega)
      (by rw [q1, q2]; rcases hg with rfl | rfl
          · omega
          · have := hle rfl; omega)
      (by rw [q1, q2]; rcases hg with rfl | rfl <;> omega) (m + 1) 0 0 [] (by omega) rfl (by simp [Dig]) (by omega) (by omega) (by simp [dval, dpart])
    rw [q1, q2] at e5
    refine ⟨r, Ev.step (f := fun k => trivetref01_Add.l0 k g (min E1 E2 + m) 0 (min E1 E2) S1 D1 E1 S2 D2 E2 S1 [] (min E1 E2)) (fun k => ?_) (by simpa using e1), ?_⟩
    · simp only [trivetref01_Add.j1]
      rw [hb, ht, hm]
    · have := e2.worth (B := B) (n := n + 1) s1 (by omega) (by omega) (by omega)
      rw [e5] at this
      rw [show x + y = S1 * (W (min E1 E2 + (B : Int)).toNat * (dpart D1 E1 (min E1 E2) m + g * dpart D2 E2 (min E1 E2) m)) from by
        rw [← v1, ← v2, hS]; grind]
      exact this
  by_cases he : S1 = S2
  · obtain ⟨r, e1, e2⟩ := run 1 (.inl rfl) (by omega) (by omega)
    exact ⟨r, Ev.step (fun k => by simp only [trivetref01_Add.j0]; rw [if_neg (by decide), if_pos he]) e1, e2⟩
  · obtain ⟨r, e1, e2⟩ := run (-1) (.inr rfl) (by omega) (fun _ => hge.elim (fun h => absurd h he) id)
    exact ⟨r, Ev.step (fun k => by simp only [trivetref01_Add.j0]; rw [if_neg (by decide), if_neg he]) e1, e2⟩

theorem add_big {S1 : Int} {D1 : List Int} {E1 : Int} {S2 : Int} {D2 : List Int} {E2 : Int} {B n : Nat} {x y : Int} (h1 : Worth S1 D1 E1 B n x) (h2 : Worth S2 D2 E2 B n y) (hn : n ≤ 400000) (hge : S1 = S2 ∨ W (E2 + B).toNat * dval D2 ≤ W (E1 + B).toNat * dval D1) :
    ∃ r, Ev (fun k => trivetref01_Add.f k S1 D1 E1 S2 D2 E2) r ∧ Worth r.1 r.2.1 r.2.2 B (n + 1) (x + y) := by
  have l1 := h1.lo; have l2 := h2.lo; have u1 := h1.hi; have u2 := h2.hi; have p1 := h1.place; have p2 := h2.place
  by_cases z1 : S1 = 0
  · rw [h1.zero_of z1, Int.zero_add]
    exact ⟨(S2, D2, E2), Ev.step (f := fun _ => some (S2, D2, E2)) (fun k => by simp only [trivetref01_Add.f]; rw [if_pos z1]) (Ev.now _), h2.wide (by omega)⟩
  · by_cases z2 : S2 = 0
    · rw [h2.zero_of z2, Int.add_zero]
      exact ⟨(S1, D1, E1), Ev.step (f := fun _ => some (S1, D1, E1)) (fun k => by simp only [trivetref01_Add.f]; rw [if_neg z1, if_pos z2]) (Ev.now _), h1.wide (by omega)⟩
    · obtain ⟨r, e1, e2⟩ := add_tail h1 h2 hn z1 z2 hge
      by_cases he : S1 = S2
      · exact ⟨r, Ev.step (fun k => by simp only [trivetref01_Add.f]; rw [if_neg z1, if_neg z2, if_pos he]) e1, e2⟩
      · have hs := size_ev S1 D1 E1 S2 D2 E2 h1.digits h2.digits (by omega) (by omega) (by omega) (by omega) (by omega) (by omega) B p1 p2
        have hle := hge.elim (fun h => absurd h he) id
        refine ⟨r, Ev.step (f := fun k => (trivetref01_size.f k S1 D1 E1 S2 D2 E2).bind fun t => trivetref01_Add.j0 k (decide (t < 0)) S1 D1 E1 S2 D2 E2) (fun k => by simp only [trivetref01_Add.f]; rw [if_neg z1, if_neg z2, if_neg he]) (Ev.bind hs ?_), e2⟩
        have : decide ((W (E1 + B).toNat * dval D1 - W (E2 + B).toNat * dval D2).sign < 0) = false := by
          have := Int.sign_nonneg_iff.2 (show 0 ≤ W (E1 + B).toNat * dval D1 - W (E2 + B).toNat * dval D2 by omega)
          simp; omega
        rw [this]; exact e1
/-- Add adds. -/
theorem add_ev {S1 : Int} {D1 : List Int} {E1 : Int} {S2 : Int} {D2 : List Int} {E2 : Int} {B n : Nat} {x y : Int} (h1 : Worth S1 D1 E1 B n x) (h2 : Worth S2 D2 E2 B n y) (hn : n ≤ 400000) :
    ∃ r, Ev (fun k => trivetref01_Add.f k S1 D1 E1 S2 D2 E2) r ∧ Worth r.1 r.2.1 r.2.2 B (n + 1) (x + y) := by
  by_cases hge : S1 = S2 ∨ W (E2 + B).toNat * dval D2 ≤ W (E1 + B).toNat * dval D1
  · exact add_big h1 h2 hn hge
  · have l1 := h1.lo; have l2 := h2.lo; have u1 := h1.hi; have u2 := h2.hi; have p1 := h1.place; have p2 := h2.place
    have hlt : W (E1 + B).toNat * dval D1 < W (E2 + B).toNat * dval D2 := by omega
    by_cases z1 : S1 = 0
    · rw [h1.zero_of z1, Int.zero_add]
      exact ⟨(S2, D2, E2), Ev.step (f := fun _ => some (S2, D2, E2)) (fun k => by simp only [trivetref01_Add.f]; rw [if_pos z1]) (Ev.now _), h2.wide (by omega)⟩
    · by_cases z2 : S2 = 0
      · rw [h2.zero_of z2, Int.add_zero]
        exact ⟨(S1, D1, E1), Ev.step (f := fun _ => some (S1, D1, E1)) (fun k => by simp only [trivetref01_Add.f]; rw [if_neg z1, if_pos z2]) (Ev.now _), h1.wide (by omega)⟩
      · obtain ⟨r, e1, e2⟩ := add_big h2 h1 hn (.inr (Int.le_of_lt hlt))
        have he : S1 ≠ S2 := fun h => hge (.inl h)
        have hs := size_ev S1 D1 E1 S2 D2 E2 h1.digits h2.digits (by omega) (by omega) (by omega) (by omega) (by omega) (by omega) B p1 p2
        refine ⟨r, Ev.step (f := fun k => (trivetref01_size.f k S1 D1 E1 S2 D2 E2).bind fun t => trivetref01_Add.j0 k (decide (t < 0)) S1 D1 E1 S2 D2 E2) (fun k => by simp only [trivetref01_Add.f]; rw [if_neg z1, if_neg z2, if_neg he]) (Ev.bind hs ?_), by rw [Int.add_comm]; exact e2⟩
        rw [Int.sign_eq_neg_one_of_neg (by omega), show decide ((-1 : Int) < 0) = true from rfl]
        refine Ev.step (f := fun k => (trivetref01_Add.f k S2 D2 E2 S1 D1 E1).bind fun bt => some (bt.1, bt.2.1, bt.2.2)) (fun k => by simp only [trivetref01_Add.j0]; rw [if_pos trivial]) (Ev.bind e1 (Ev.now _))
theorem neg_some {S : Int} {D : List Int} {E : Int} {B n : Nat} {x : Int} (h : Worth S D E B n x) : trivetref01_Neg.f S D E = some (-S, D, E) := by
  unfold trivetref01_Neg.f
  have : -1 ≤ S ∧ S ≤ 1 := by
    by_cases h0 : S = 0
    · omega
    · have := h.sgn h0; omega
  rw [w64 (b := -S) rfl (by omega) (by omega)]
theorem sub_ev {S1 : Int} {D1 : List Int} {E1 : Int} {S2 : Int} {D2 : List Int} {E2 : Int} {B n : Nat} {x y : Int} (h1 : Worth S1 D1 E1 B n x) (h2 : Worth S2 D2 E2 B n y) (hn : n ≤ 400000) :
    ∃ r, Ev (fun k => trivetref01_Sub.f k S1 D1 E1 S2 D2 E2) r ∧ Worth r.1 r.2.1 r.2.2 B (n + 1) (x - y) := by
  obtain ⟨r, e1, e2⟩ := add_ev h1 h2.neg hn
  refine ⟨r, ?_, by rw [Int.sub_eq_add_neg]; exact e2⟩
  refine Ev.congr (f := fun k => (trivetref01_Add.f k S1 D1 E1 (-S2) D2 E2).bind fun b => some (b.1, b.2.1, b.2.2)) (fun k => ?_) (Ev.bind e1 (Ev.now _))
  unfold trivetref01_Sub.f
  rw [neg_some h2]; rfl
theorem cmp_ev {S1 : Int} {D1 : List Int} {E1 : Int} {S2 : Int} {D2 : List Int} {E2 : Int} {B n : Nat} {x y : Int} (h1 : Worth S1 D1 E1 B n x) (h2 : Worth S2 D2 E2 B n y) (hn : n ≤ 400000) :
    Ev (fun k => trivetref01_Cmp.f k S1 D1 E1 S2 D2 E2) (x - y).sign := by
  obtain ⟨r, e1, e2⟩ := sub_ev h1 h2 hn
  rw [← e2.sign]
  exact Ev.congr (fun k => by unfold trivetref01_Cmp.f; rfl) (Ev.bind e1 (Ev.now _))
theorem abs_some {S : Int} {D : List Int} {E : Int} {B n : Nat} {x : Int} (h : Worth S D E B n x) : ∃ S', trivetref01_Abs.f S D E = some (S', D, E) ∧ Worth S' D E B n x.natAbs := by
  unfold trivetref01_Abs.f
  have hs := h.sign
  by_cases h0 : S < 0
  · rw [if_pos h0, neg_some h]
    refine ⟨-S, rfl, ?_⟩
    have : x < 0 := by
      rcases Int.lt_trichotomy x 0 with hx | hx | hx
      · exact hx
      · subst hx; simp at hs; omega
      · rw [Int.sign_eq_one_of_pos hx] at hs; omega
    rw [show ((x.natAbs : Nat) : Int) = -x from by omega]; exact h.neg
  · rw [if_neg h0]
    refine ⟨S, rfl, ?_⟩
    have : 0 ≤ x := by
      rcases Int.lt_trichotomy x 0 with hx | hx | hx
      · rw [Int.sign_eq_neg_one_of_neg hx] at hs; omega
      · omega
      · omega
    rw [show ((x.natAbs : Nat) : Int) = x from by omega]; exact h
end Go.Proofs.Ythcklcfdeejkpaa.NumQ
