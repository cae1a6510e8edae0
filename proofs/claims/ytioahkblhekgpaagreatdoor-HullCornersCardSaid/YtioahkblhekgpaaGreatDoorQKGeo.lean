/- What the proof needs of Geo: only what is used is left (wip/tools/prune.py). Conditions stand in each sentence. -/
import Derived.RowKit
set_option linter.unusedVariables false
set_option linter.unusedSimpArgs false
namespace Go.Proofs.YtioahkblhekgpaaGreatDoor.Geo
abbrev Pt := Int × Int
def det (a b c : Pt) : Int := (b.1 - a.1) * (c.2 - a.2) - (b.2 - a.2) * (c.1 - a.1)
def cross (u v : Pt) : Int := u.1 * v.2 - u.2 * v.1
def Pos (v : Pt) : Prop := 0 < v.1 ∨ v.1 = 0 ∧ 0 < v.2
def sub (a b : Pt) : Pt := (a.1 - b.1, a.2 - b.2)
def Ahead (a b : Pt) : Prop := Pos (sub b a)
theorem det_cross (a b c : Pt) : det a b c = cross (sub b a) (sub c a) := rfl
theorem det_mid (a b c : Pt) : det a b c = cross (sub b a) (sub c b) := by simp only [det, cross, sub]; grind
theorem det_rot (a b c : Pt) : det a b c = det b c a := by simp only [det]; grind
theorem det_swap (a b c : Pt) : det a b c = -det b a c := by simp only [det]; grind
theorem det_swap2 (a b c : Pt) : det a b c = -det a c b := by simp only [det]; grind
theorem det_self1 (a c : Pt) : det a a c = 0 := by simp only [det]; grind
theorem det_self2 (a b : Pt) : det a b a = 0 := by simp only [det]; grind
theorem det_self3 (a b : Pt) : det a b b = 0 := by simp only [det]; grind
theorem cross_anti (u v : Pt) : cross u v = -cross v u := by simp only [cross]; grind
theorem half1 (e f g : Pt) : cross e g * f.1 = cross f g * e.1 + cross e f * g.1 := by simp only [cross]; grind
theorem half2 (e f g : Pt) : cross e g * f.2 = cross f g * e.2 + cross e f * g.2 := by simp only [cross]; grind
theorem nn {a b : Int} (ha : 0 ≤ a) (hb : 0 ≤ b) : 0 ≤ a * b := Int.mul_nonneg ha hb
theorem pp {a b : Int} (ha : 0 < a) (hb : 0 < b) : 0 < a * b := Int.mul_pos ha hb
theorem neg_of {a b : Int} (h : a < 0) (hb : 0 < b) : a * b < 0 := Int.mul_neg_of_neg_of_pos h hb
theorem Pos.x {v : Pt} (h : Pos v) : 0 ≤ v.1 := by rcases h with h | h <;> omega
theorem left_trans {e f g : Pt} (he : Pos e) (hf : Pos f) (hg : Pos g) (h1 : 0 ≤ cross e f) (h2 : 0 ≤ cross f g) : 0 ≤ cross e g := by
 have k1 := half1 e f g
 have k2 := half2 e f g
 apply Classical.byContradiction; intro hn
 have hn : cross e g < 0 := by omega
 rcases hf with hf | ⟨hf, hf'⟩
 ·have := neg_of hn hf
  have := nn h2 he.x
  have := nn h1 hg.x
  omega
 ·rw [hf] at k1
  have a1 := nn h2 he.x
  have a2 := nn h1 hg.x
  have a3 := neg_of hn hf'
  rcases he with he | ⟨he, he'⟩
  ·have : cross f g = 0 := by
    rcases Int.lt_or_lt_of_ne (show cross f g ≠ 0 from fun h => by
     have h3 : cross e f * g.1 = 0 := by omega
     rcases hg with hg | ⟨hg, hg'⟩
     ·rcases Int.mul_eq_zero.mp h3 with h4 | h4
      ·rw [h, h4] at k2; omega
      ·omega
     ·rw [h] at k2; have := nn h1 (Int.le_of_lt hg'); omega) with h | h
    ·omega
    ·have := pp h he; omega
   rw [this] at k2
   rcases hg with hg | ⟨hg, hg'⟩
   ·have h3 : cross e f = 0 := by
     rcases Int.mul_eq_zero.mp (show cross e f * g.1 = 0 by omega) with h | h
     ·exact h
     ·omega
    rw [h3] at k2; omega
   ·have := nn h1 (Int.le_of_lt hg'); omega
  ·have b1 := nn h2 (Int.le_of_lt he')
   rcases hg with hg | ⟨hg, hg'⟩
   ·have h3 : cross e f = 0 := by
     rcases Int.mul_eq_zero.mp (show cross e f * g.1 = 0 by omega) with h | h
     ·exact h
     ·omega
    rw [h3] at k2; omega
   ·have := nn h1 (Int.le_of_lt hg'); omega
end Go.Proofs.YtioahkblhekgpaaGreatDoor.Geo
namespace Go.Proofs.YtioahkblhekgpaaGreatDoor.Geo
theorem left_trans1 {e f g : Pt} (he : Pos e) (hf : Pos f) (hg : Pos g) (h1 : 0 < cross e f) (h2 : 0 ≤ cross f g) : 0 < cross e g := by
 have h := left_trans he hf hg (Int.le_of_lt h1) h2
 have k1 := half1 e f g
 have k2 := half2 e f g
 rcases Int.lt_or_eq_of_le h with h | h
 ·exact h
 ·exfalso
  rw [← h] at k1 k2
  have a1 := nn h2 he.x
  have a2 := nn (Int.le_of_lt h1) hg.x
  rcases hg with hg | ⟨hg, hg'⟩
  ·have := pp h1 hg; omega
  ·have b := pp h1 hg'
   rcases he with he | ⟨he, he'⟩
   ·have c : cross f g = 0 := by
     rcases Int.mul_eq_zero.mp (show cross f g * e.1 = 0 by omega) with h | h
     ·exact h
     ·omega
    rw [c] at k2; omega
   ·have := nn h2 (Int.le_of_lt he'); omega
theorem left_trans2 {e f g : Pt} (he : Pos e) (hf : Pos f) (hg : Pos g) (h1 : 0 ≤ cross e f) (h2 : 0 < cross f g) : 0 < cross e g := by
 have h := left_trans he hf hg h1 (Int.le_of_lt h2)
 have k1 := half1 e f g
 have k2 := half2 e f g
 rcases Int.lt_or_eq_of_le h with h | h
 ·exact h
 ·exfalso
  rw [← h] at k1 k2
  have a1 := nn (Int.le_of_lt h2) he.x
  have a2 := nn h1 hg.x
  rcases he with he | ⟨he, he'⟩
  ·have := pp h2 he; omega
  ·have b := pp h2 he'
   rcases hg with hg | ⟨hg, hg'⟩
   ·have c : cross e f = 0 := by
     rcases Int.mul_eq_zero.mp (show cross e f * g.1 = 0 by omega) with h | h
     ·exact h
     ·omega
    rw [c] at k2; omega
   ·have := nn h1 (Int.le_of_lt hg'); omega
theorem Ahead.trans {a b c : Pt} (h1 : Ahead a b) (h2 : Ahead b c) : Ahead a c := by unfold Ahead Pos sub at *; simp only at *; omega
theorem Ahead.irrefl (a : Pt) : ¬ Ahead a a := by unfold Ahead Pos sub; simp only; omega
theorem Ahead.asymm {a b : Pt} (h1 : Ahead a b) : ¬ Ahead b a := by unfold Ahead Pos sub at *; simp only at *; omega
theorem ahead_total (a b : Pt) : Ahead a b ∨ a = b ∨ Ahead b a := by
 unfold Ahead Pos sub; simp only
 rcases a with ⟨a1, a2⟩; rcases b with ⟨b1, b2⟩
 simp only [Prod.mk.injEq]; omega
theorem flat_of {p q : Pt} (h : p ≠ q) {a b c : Pt} (ha : det p q a = 0) (hb : det p q b = 0) (hc : det p q c = 0) : det a b c = 0 := by
 have i1 : det a b c * (q.1 - p.1) = det p q c * (b.1 - a.1) - det p q b * (c.1 - a.1) + det p q a * (c.1 - b.1) := by simp only [det]; grind
 have i2 : det a b c * (q.2 - p.2) = det p q c * (b.2 - a.2) - det p q b * (c.2 - a.2) + det p q a * (c.2 - b.2) := by simp only [det]; grind
 rw [ha, hb, hc] at i1 i2
 simp only [Int.zero_mul, Int.sub_zero, Int.add_zero] at i1 i2
 rcases Int.mul_eq_zero.mp i1 with h1 | h1
 ·exact h1
 ·rcases Int.mul_eq_zero.mp i2 with h2 | h2
  ·exact h2
  ·exfalso; apply h; rcases p with ⟨p1, p2⟩; rcases q with ⟨q1, q2⟩; simp only [Prod.mk.injEq] at *; omega
end Go.Proofs.YtioahkblhekgpaaGreatDoor.Geo
namespace Go.Proofs.YtioahkblhekgpaaGreatDoor.Geo
section
variable (P : Nat → Pt) (e : Bool)
def keep (a b c : Nat) : Bool := decide (0 < det (P a) (P b) (P c)) || (e && decide (det (P a) (P b) (P c) = 0))
def pop : List Nat → Nat → List Nat
 | b :: a :: r, p => if keep P e a b p then b :: a :: r else pop (a :: r) p
 | s, _ => s
def step (s : List Nat) (p : Nat) : List Nat := p :: pop P e s p
def chain (l : List Nat) : List Nat := l.foldl (step P e) []
def Edge (proc : List Nat) (a b : Nat) : Prop := ∀ c ∈ proc, 0 ≤ det (P a) (P b) (P c) ∧ (det (P a) (P b) (P c) = 0 → if e then ¬ (Ahead (P a) (P c) ∧ Ahead (P c) (P b)) else P c = P a ∨ P c = P b ∨ Ahead (P a) (P c) ∧ Ahead (P c) (P b))
def Good (proc : List Nat) : List Nat → Prop
 | b :: a :: r => Ahead (P a) (P b) ∧ Edge P e proc a b ∧ (∀ z ∈ r.head?, keep P e z a b = true) ∧ Good proc (a :: r)
 | [a] => ∀ c ∈ proc, P c = P a ∨ Ahead (P a) (P c)
 | [] => False
variable {P e}
theorem keep_nn {a b c : Nat} (h : keep P e a b c = true) : 0 ≤ det (P a) (P b) (P c) ∧ (e = false → 0 < det (P a) (P b) (P c)) := by
 unfold keep at h; cases e <;> simp at h <;> refine ⟨by omega, fun he => by first | (cases he; done) | omega⟩
theorem keep_not {a b c : Nat} (h : keep P e a b c = false) : det (P a) (P b) (P c) ≤ 0 ∧ (e = true → det (P a) (P b) (P c) < 0) := by
 unfold keep at h; cases e <;> simp at h <;> refine ⟨by omega, fun he => by first | (cases he; done) | omega⟩
theorem keep_of {a b c : Nat} (h1 : 0 ≤ det (P a) (P b) (P c)) (h2 : e = false → 0 < det (P a) (P b) (P c)) : keep P e a b c = true := by
 unfold keep; cases e
 ·simp; exact h2 rfl
 ·simp; omega
theorem keep_trans {z a b p : Nat} (h1 : Ahead (P z) (P a)) (h2 : Ahead (P a) (P b)) (h3 : Ahead (P b) (P p)) (k1 : keep P e z a b = true) (k2 : keep P e a b p = true) : keep P e z a p = true := by
 obtain ⟨a1, a2⟩ := keep_nn k1
 obtain ⟨b1, b2⟩ := keep_nn k2
 rw [det_mid] at a1 a2
 rw [det_cross] at b1 b2
 refine keep_of ?_ fun he => ?_
 ·rw [det_mid]; exact left_trans h1 h2 (h2.trans h3) a1 b1
 ·rw [det_mid]; exact left_trans1 h1 h2 (h2.trans h3) (a2 he) b1
theorem retain {proc : List Nat} {p : Nat} : ∀ (r : List Nat) (b : Nat), Good P e proc (b :: r) → Ahead (P b) (P p) → (∀ a ∈ r.head?, keep P e a b p = true) → Good P e (p :: proc) (b :: r)
 | [], b, h, hb, _ => fun c hc => by
  rcases List.mem_cons.mp hc with rfl | hc
  ·exact .inr hb
  ·exact h c hc
 | a :: r, b, h, hb, hk => by
  obtain ⟨g1, g2, g3, g4⟩ := h
  have k := hk a (by simp)
  refine ⟨g1, fun c hc => ?_, g3, retain r a g4 (g1.trans hb) fun z hz => ?_⟩
  ·rcases List.mem_cons.mp hc with rfl | hc
   ·obtain ⟨k1, k2⟩ := keep_nn k
    refine ⟨k1, fun h0 => ?_⟩
    cases e
    ·have := k2 rfl; omega
    ·simp only [if_true]; exact fun h => hb.asymm h.2
   ·exact g2 c hc
  ·cases r with
   | nil => simp at hz
   | cons y r' =>
    obtain rfl : y = z := by simpa using hz
    exact keep_trans g4.1 g1 hb (g3 y (by simp)) k
theorem pop_spec {proc : List Nat} {p : Nat} : ∀ (r : List Nat) (b : Nat), Good P e proc (b :: r) → (∀ x ∈ b :: r, x ∈ proc) →
 ((∀ c ∈ proc, P c = P b ∨ Ahead (P c) (P b)) ∨ ∃ t ∈ proc, Ahead (P b) (P t) ∧ Edge P e proc b t ∧ keep P e b t p = false) →
 ∃ b' r', pop P e (b :: r) p = b' :: r' ∧ (b' :: r') <:+ (b :: r) ∧ Good P e proc (b' :: r') ∧ (∀ a ∈ r'.head?, keep P e a b' p = true) ∧
  ((∀ c ∈ proc, P c = P b' ∨ Ahead (P c) (P b')) ∨ ∃ t ∈ proc, Ahead (P b') (P t) ∧ Edge P e proc b' t ∧ keep P e b' t p = false)
 | [], b, h, _, ht => ⟨b, [], by rfl, List.suffix_refl _, h, by simp, ht⟩
 | a :: r, b, h, hm, ht => by
  by_cases hk : keep P e a b p = true
  ·exact ⟨b, a :: r, by unfold pop; rw [if_pos hk], List.suffix_refl _, h, (fun x hx => by
    obtain rfl : a = x := by simpa using hx
    exact hk), ht⟩
  ·obtain ⟨g1, g2, g3, g4⟩ := h
   obtain ⟨b', r', h1, h2, h3⟩ := pop_spec r a g4 (fun x hx => hm x (by simp [List.mem_cons.mp hx])) (.inr ⟨b, hm b (by simp), g1, g2, by simpa using hk⟩)
   exact ⟨b', r', by unfold pop; rw [if_neg hk]; exact h1, h2.trans (List.suffix_cons _ _), h3⟩
theorem step_spec {proc : List Nat} {p b : Nat} {r : List Nat} (h : Good P e proc (b :: r)) (hm : ∀ x ∈ b :: r, x ∈ proc) (hl : ∀ c ∈ proc, P c = P b ∨ Ahead (P c) (P b)) (hp : ∀ c ∈ proc, Ahead (P c) (P p)) :
 ∃ b' r', step P e (b :: r) p = p :: b' :: r' ∧ (b' :: r') <:+ (b :: r) ∧ Good P e (p :: proc) (p :: b' :: r') := by
 obtain ⟨b', r', h1, h2, h3, h4, h5⟩ := pop_spec r b h hm (.inl hl)
 have hb' : b' ∈ proc := hm b' (h2.mem (by simp))
 have hbp := hp b' hb'
 refine ⟨b', r', by unfold step; rw [h1], h2, hbp, fun c hc => ?_, h4, retain r' b' h3 hbp h4⟩
 rcases List.mem_cons.mp hc with rfl | hc
 ·rw [det_self3]
  refine ⟨Int.le_refl _, fun _ => ?_⟩
  cases e
  ·exact .inr (.inl rfl)
  ·simp only [if_true]; exact fun h => Ahead.irrefl _ h.2
 ·rcases ahead_total (P b') (P c) with hbc | hbc | hbc
  ·rcases h5 with h5 | ⟨t, t1, t2, t3, t4⟩
   ·rcases h5 c hc with h | h
    ·rw [h] at hbc; exact absurd hbc (Ahead.irrefl _)
    ·exact absurd h hbc.asymm
   ·obtain ⟨k1, k2⟩ := keep_not t4
    have ec := (t3 c hc).1
    rw [det_cross] at k1 k2 ec ⊢
    rw [cross_anti] at k1 k2
    refine ⟨left_trans hbp t2 hbc (by omega) ec, fun h0 => ?_⟩
    cases e
    ·exact .inr (.inr ⟨hbc, hp c hc⟩)
    ·have := left_trans1 hbp t2 hbc (by have := k2 rfl; omega) ec
     omega
  ·rw [← hbc, det_self2]
   refine ⟨Int.le_refl _, fun _ => ?_⟩
   cases e
   ·exact .inl rfl
   ·simp only [if_true]; exact fun h => Ahead.irrefl _ h.1
  ·cases r' with
   | nil =>
    rcases h3 c hc with h | h
    ·rw [h] at hbc; exact absurd hbc (Ahead.irrefl _)
    ·exact absurd h hbc.asymm
   | cons a r'' =>
    obtain ⟨k1, k2⟩ := keep_nn (h4 a (by simp))
    have ec := (h3.2.1 c hc).1
    have hab : Ahead (P a) (P b') := h3.1
    rw [det_mid] at k1 k2 ec
    have e1 : cross (sub (P b') (P c)) (sub (P b') (P a)) = cross (sub (P b') (P a)) (sub (P c) (P b')) := by simp only [cross, sub]; grind
    have e2 : det (P b') (P p) (P c) = cross (sub (P b') (P c)) (sub (P p) (P b')) := by simp only [det, cross, sub]; grind
    rw [e2]
    rw [← e1] at ec
    refine ⟨left_trans hbc hab hbp ec k1, fun h0 => ?_⟩
    cases e
    ·have := left_trans2 hbc hab hbp ec (k2 rfl)
     omega
    ·simp only [if_true]; exact fun h => hbc.asymm h.1
end
end Go.Proofs.YtioahkblhekgpaaGreatDoor.Geo
namespace Go.Proofs.YtioahkblhekgpaaGreatDoor.Geo
section
variable {P : Nat → Pt} {e : Bool}
abbrev Asc (P : Nat → Pt) (l : List Nat) : Prop := l.Pairwise fun a b => Ahead (P a) (P b)
theorem fold_spec : ∀ (l : List Nat) (proc : List Nat) (b : Nat) (r : List Nat), Good P e proc (b :: r) → (∀ x ∈ b :: r, x ∈ proc) → (∀ c ∈ proc, P c = P b ∨ Ahead (P c) (P b)) → (∀ c ∈ proc, ∀ p ∈ l, Ahead (P c) (P p)) → Asc P l →
 ∃ b' r', l.foldl (step P e) (b :: r) = b' :: r' ∧ Good P e (l.reverse ++ proc) (b' :: r') ∧ (∀ x ∈ b' :: r', x ∈ l.reverse ++ proc) ∧ (∀ c ∈ l.reverse ++ proc, P c = P b' ∨ Ahead (P c) (P b')) ∧ (b' :: r').getLast? = (b :: r).getLast? ∧ b' = (b :: l).getLast (by simp)
 | [], proc, b, r, h, hm, hb, _, _ => ⟨b, r, rfl, by simpa using h, by simpa using hm, by simpa using hb, rfl, rfl⟩
 | p :: l, proc, b, r, h, hm, hb, hp, ha => by
  obtain ⟨a1, a2⟩ := List.pairwise_cons.mp ha
  obtain ⟨b', r', s1, s2, s3⟩ := step_spec h hm hb (fun c hc => hp c hc p (by simp))
  have hm' : ∀ x ∈ p :: b' :: r', x ∈ p :: proc := fun x hx => by
   rcases List.mem_cons.mp hx with rfl | hx
   ·simp
   ·exact List.mem_cons_of_mem _ (hm x (s2.mem hx))
  have hb2 : ∀ c ∈ p :: proc, P c = P p ∨ Ahead (P c) (P p) := fun c hc => by
   rcases List.mem_cons.mp hc with rfl | hc
   ·exact .inl rfl
   ·exact .inr (hp c hc p (by simp))
  have hp2 : ∀ c ∈ p :: proc, ∀ q ∈ l, Ahead (P c) (P q) := fun c hc q hq => by
   rcases List.mem_cons.mp hc with rfl | hc
   ·exact a1 q hq
   ·exact hp c hc q (by simp [hq])
  obtain ⟨b2, r2, t1, t2, t3, t4, t5, t6⟩ := fold_spec l (p :: proc) p (b' :: r') s3 hm' hb2 hp2 a2
  have hlast : (p :: b' :: r').getLast? = (b :: r).getLast? := by
   obtain ⟨x, hx⟩ := s2
   rw [← hx]
   simp [List.getLast?_append, List.getLast?_cons]
  refine ⟨b2, r2, by rw [List.foldl_cons, s1, t1], by simpa using t2, by simpa using t3, by simpa using t4, t5.trans hlast, by rw [t6]; simp⟩
theorem chain_spec {u0 : Nat} {l : List Nat} (ha : Asc P (u0 :: l)) : ∃ r, chain P e (u0 :: l) = (u0 :: l).getLast (by simp) :: r ∧ Good P e (u0 :: l).reverse (chain P e (u0 :: l)) ∧ (∀ x ∈ chain P e (u0 :: l), x ∈ u0 :: l) ∧ (chain P e (u0 :: l)).getLast? = some u0 := by
 obtain ⟨a1, a2⟩ := List.pairwise_cons.mp ha
 have h0 : Good P e [u0] [u0] := fun c hc => .inl (by rw [List.mem_singleton.mp hc])
 obtain ⟨b', r', t1, t2, t3, t4, t5, t6⟩ := fold_spec l [u0] u0 [] h0 (fun x hx => hx) (fun c hc => .inl (by rw [List.mem_singleton.mp hc])) (fun c hc p hp => by rw [List.mem_singleton.mp hc]; exact a1 p hp) a2
 have e1 : chain P e (u0 :: l) = b' :: r' := t1
 refine ⟨r', by rw [e1, t6], by rw [e1]; simpa using t2, ?_, by rw [e1, t5]; rfl⟩
 intro x hx
 rw [e1] at hx
 have := t3 x hx
 simp at this ⊢
 exact this.symm
def Adj (R : Nat → Nat → Prop) : List Nat → Prop
 | a :: b :: l => R a b ∧ Adj R (b :: l)
 | _ => True
theorem Adj.tail {R : Nat → Nat → Prop} {a : Nat} {l : List Nat} (h : Adj R (a :: l)) : Adj R l := by
 cases l with
 | nil => trivial
 | cons b l => exact h.2
theorem Adj.append {R : Nat → Nat → Prop} {a : Nat} {y : List Nat} : ∀ {x : List Nat}, Adj R (x ++ [a]) → Adj R (a :: y) → Adj R (x ++ a :: y)
 | [], _, h => h
 | [_], h1, h2 => ⟨h1.1, h2⟩
 | _ :: c :: x, h1, h2 => ⟨h1.1, Adj.append (x := c :: x) h1.2 h2⟩
theorem Adj.mono {R S : Nat → Nat → Prop} : ∀ {l : List Nat}, (∀ a ∈ l, ∀ b ∈ l, R a b → S a b) → Adj R l → Adj S l
 | [], _, _ => trivial
 | [_], _, _ => trivial
 | a :: b :: l, h, h1 => ⟨h a (by simp) b (by simp) h1.1, Adj.mono (fun x hx y hy => h x (by simp [List.mem_cons.mp hx]) y (by simp [List.mem_cons.mp hy])) h1.2⟩
theorem Adj.reverse {R : Nat → Nat → Prop} : ∀ {l : List Nat}, Adj (fun a b => R b a) l → Adj R l.reverse
 | [], _ => trivial
 | [_], _ => trivial
 | a :: b :: l, h => by
  have ih := Adj.reverse h.2
  rw [List.reverse_cons] at ih ⊢
  rw [List.reverse_cons, List.append_assoc]
  exact Adj.append ih ⟨h.1, trivial⟩
def Side (P : Nat → Pt) (e : Bool) (proc : List Nat) (a b : Nat) : Prop := Ahead (P a) (P b) ∧ Edge P e proc a b
theorem good_adj {proc : List Nat} : ∀ (s : List Nat), Good P e proc s → Adj (fun b a => Side P e proc a b) s
 | [], _ => trivial
 | [_], _ => trivial
 | _ :: a :: r, h => ⟨⟨h.1, h.2.1⟩, good_adj (a :: r) h.2.2.2⟩
theorem adj_asc : ∀ (l : List Nat), Adj (fun a b => Ahead (P a) (P b)) l → Asc P l
 | [], _ => List.Pairwise.nil
 | [_], _ => List.pairwise_singleton _ _
 | a :: b :: l, h => by
  have ih := adj_asc (b :: l) h.2
  refine List.pairwise_cons.mpr ⟨fun c hc => ?_, ih⟩
  rcases List.mem_cons.mp hc with rfl | hc
  ·exact h.1
  ·exact h.1.trans ((List.pairwise_cons.mp ih).1 c hc)
theorem low_spec {u0 : Nat} {l : List Nat} (ha : Asc P (u0 :: l)) : ∃ m, (chain P e (u0 :: l)).reverse = u0 :: m ∧ (chain P e (u0 :: l)).reverse.getLast? = (u0 :: l).getLast? ∧ Adj (Side P e (u0 :: l)) (u0 :: m) ∧ Asc P (u0 :: m) ∧ (∀ x ∈ u0 :: m, x ∈ u0 :: l) := by
 obtain ⟨r, h1, h2, h3, h4⟩ := chain_spec (e := e) ha
 have k : Adj (Side P e (u0 :: l)) (chain P e (u0 :: l)).reverse := by
  refine Adj.mono (fun a _ b _ h => ⟨h.1, fun c hc => h.2 c (List.mem_reverse.mpr hc)⟩) (Adj.reverse (good_adj _ h2))
 obtain ⟨m, hm⟩ : ∃ m, (chain P e (u0 :: l)).reverse = u0 :: m := by
  have : (chain P e (u0 :: l)).reverse.head? = some u0 := by rw [List.head?_reverse, h4]
  cases hh : (chain P e (u0 :: l)).reverse with
  | nil => rw [hh] at this; simp at this
  | cons a b => rw [hh] at this; simp at this; exact ⟨b, by rw [this]⟩
 refine ⟨m, hm, by rw [List.getLast?_reverse, h1, List.getLast?_eq_some_getLast (by simp)]; rfl, hm ▸ k, adj_asc _ (Adj.mono (fun a _ b _ h => h.1) (hm ▸ k)), fun x hx => h3 x (List.mem_reverse.mp (hm ▸ hx))⟩
end
end Go.Proofs.YtioahkblhekgpaaGreatDoor.Geo
namespace Go.Proofs.YtioahkblhekgpaaGreatDoor.Geo
section
variable {P : Nat → Pt}
def neg (v : Pt) : Pt := (-v.1, -v.2)
theorem det_neg (a b c : Pt) : det (neg a) (neg b) (neg c) = det a b c := by simp only [det, neg]; grind
theorem ahead_neg (a b : Pt) : Ahead (neg a) (neg b) ↔ Ahead b a := by unfold Ahead Pos sub neg; simp only; omega
theorem neg_inj {a b : Pt} (h : neg a = neg b) : a = b := by
 rcases a with ⟨a1, a2⟩; rcases b with ⟨b1, b2⟩; simp only [neg, Prod.mk.injEq] at *; omega
theorem keep_neg (e : Bool) (a b c : Nat) : keep (fun i => neg (P i)) e a b c = keep P e a b c := by unfold keep; simp only [det_neg]
theorem pop_neg (e : Bool) (p : Nat) : ∀ (s : List Nat), pop (fun i => neg (P i)) e s p = pop P e s p
 | [] => rfl
 | [_] => rfl
 | b :: a :: r => by unfold pop; rw [keep_neg, pop_neg e p (a :: r)]
theorem chain_neg (e : Bool) (l : List Nat) : chain (fun i => neg (P i)) e l = chain P e l := by
 unfold chain
 have : step (fun i => neg (P i)) e = step P e := by funext s p; unfold step; rw [pop_neg]
 rw [this]
def Btw (a c b : Pt) : Prop := Ahead a c ∧ Ahead c b ∨ Ahead b c ∧ Ahead c a
def E (P : Nat → Pt) (u : List Nat) (a b : Nat) : Prop := P a ≠ P b ∧ ∀ c ∈ u, 0 ≤ det (P a) (P b) (P c) ∧ (det (P a) (P b) (P c) = 0 → P c = P a ∨ P c = P b ∨ Btw (P a) (P c) (P b))
def Er (P : Nat → Pt) (u : List Nat) (a b : Nat) : Prop := P a ≠ P b ∧ ∀ c ∈ u, 0 ≤ det (P a) (P b) (P c) ∧ (det (P a) (P b) (P c) = 0 → ¬ Btw (P a) (P c) (P b))
def Eb (P : Nat → Pt) (e : Bool) (u : List Nat) (a b : Nat) : Prop := if e then Er P u a b else E P u a b
theorem ahead_ne {a b : Pt} (h : Ahead a b) : a ≠ b := fun h0 => by rw [h0] at h; exact Ahead.irrefl _ h
theorem side_low {e : Bool} {u : List Nat} {a b : Nat} (h : Side P e u a b) : Eb P e u a b := by
 have hne := ahead_ne h.1
 cases e
 ·refine ⟨hne, fun c hc => ⟨(h.2 c hc).1, fun h0 => ?_⟩⟩
  rcases (h.2 c hc).2 h0 with k | k | k
  ·exact .inl k
  ·exact .inr (.inl k)
  ·exact .inr (.inr (.inl k))
 ·refine ⟨hne, fun c hc => ⟨(h.2 c hc).1, fun h0 hb => ?_⟩⟩
  have := (h.2 c hc).2 h0
  simp only [if_true] at this
  rcases hb with hb | hb
  ·exact this hb
  ·exact (h.1.trans hb.1).asymm hb.2
theorem side_high {e : Bool} {u : List Nat} {a b : Nat} (h : Side (fun i => neg (P i)) e u.reverse a b) : Eb P e u a b := by
 have h1 := (ahead_neg _ _).mp h.1
 have hne := ahead_ne h1
 have h2 : ∀ c ∈ u, _ := fun c hc => h.2 c (List.mem_reverse.mpr hc)
 simp only [det_neg, ahead_neg] at h2
 cases e
 ·refine ⟨hne.symm, fun c hc => ⟨(h2 c hc).1, fun h0 => ?_⟩⟩
  rcases (h2 c hc).2 h0 with k | k | k
  ·exact .inl (neg_inj k)
  ·exact .inr (.inl (neg_inj k))
  ·exact .inr (.inr (.inr ⟨k.2, k.1⟩))
 ·refine ⟨hne.symm, fun c hc => ⟨(h2 c hc).1, fun h0 hb => ?_⟩⟩
  have := (h2 c hc).2 h0
  simp only [if_true] at this
  rcases hb with hb | hb
  ·exact (h1.trans hb.1).asymm hb.2
  ·exact this ⟨hb.2, hb.1⟩
theorem asc_reverse {l : List Nat} (h : Asc P l) : Asc (fun i => neg (P i)) l.reverse := by
 refine List.pairwise_reverse.mpr (h.imp fun {a b} hab => ?_)
 exact (ahead_neg _ _).mpr hab
def ring (P : Nat → Pt) (e : Bool) (u : List Nat) : List Nat := (chain P e u).reverse.dropLast ++ (chain P e u.reverse).reverse.dropLast
theorem drop_last_of {l : List Nat} {a : Nat} (h : l.getLast? = some a) : l = l.dropLast ++ [a] := by
 cases l with
 | nil => simp at h
 | cons b m => rw [List.getLast?_eq_some_getLast (by simp)] at h; injection h with h; rw [← h, List.dropLast_concat_getLast]
theorem ring_spec {e : Bool} {u0 : Nat} {l : List Nat} (ha : Asc P (u0 :: l)) (hl : l ≠ []) : ∃ t, ring P e (u0 :: l) = u0 :: t ∧ Adj (Eb P e (u0 :: l)) (u0 :: t ++ [u0]) ∧ (∀ x ∈ t, x ∈ u0 :: l ∧ Ahead (P u0) (P x)) := by
 obtain ⟨m, l1, l2, l3, l4, l5⟩ := low_spec (e := e) ha
 obtain ⟨ul, hlast⟩ : ∃ ul, (u0 :: l).getLast? = some ul := ⟨_, List.getLast?_eq_some_getLast (by simp)⟩
 have hrev : (u0 :: l).reverse = ul :: (u0 :: l).dropLast.reverse := by
  have := drop_last_of hlast
  rw [this]; simp
 have hb := asc_reverse ha
 rw [hrev] at hb
 obtain ⟨m', r1, r2, r3, r4, r5⟩ := low_spec (e := e) hb
 rw [chain_neg, ← hrev] at r1 r2
 rw [hlast] at l2
 rw [show (u0 :: l).reverse.getLast? = some u0 by simp] at r2
 rw [l1] at l2
 rw [r1] at r2
 have hne : u0 ≠ ul := by
  intro h0
  cases l with
  | nil => exact hl rfl
  | cons y l' =>
   have hm : ul ∈ y :: l' := by
    have : (y :: l').getLast? = some ul := by simpa [List.getLast?_cons] using hlast
    exact List.mem_of_getLast? this
   have := (List.pairwise_cons.mp ha).1 ul hm
   rw [h0] at this
   exact Ahead.irrefl _ this
 have eL := drop_last_of l2
 have eR := drop_last_of r2
 have k1 : Adj (Eb P e (u0 :: l)) ((u0 :: m).dropLast ++ [ul]) := by rw [← eL]; exact Adj.mono (fun a _ b _ h => side_low h) l3
 have k2 : Adj (Eb P e (u0 :: l)) (ul :: m') := Adj.mono (fun a _ b _ h => side_high (by rw [hrev]; exact h)) r3
 cases m with
 | nil => simp at l2; exact absurd l2 hne
 | cons y m2 =>
  refine ⟨(y :: m2).dropLast ++ (ul :: m').dropLast, ?_, ?_, ?_⟩
  ·unfold ring; rw [l1, r1]; rfl
  ·have : u0 :: ((y :: m2).dropLast ++ (ul :: m').dropLast) ++ [u0] = (u0 :: y :: m2).dropLast ++ ul :: m' := by
    rw [eR]; simp [List.dropLast]
   rw [this]
   exact Adj.append k1 k2
  ·intro x hx
   rcases List.mem_append.mp hx with hx | hx
   ·have := (List.dropLast_sublist _).mem hx
    exact ⟨l5 x (List.mem_cons_of_mem _ this), (List.pairwise_cons.mp l4).1 x this⟩
   ·have hx2 := (List.dropLast_sublist _).mem hx
    have hin := r5 x hx2
    rw [← hrev] at hin
    refine ⟨List.mem_reverse.mp hin, ?_⟩
    have := r4
    rw [eR] at this
    exact (ahead_neg _ _).mp ((List.pairwise_append.mp this).2.2 x hx u0 (by simp))
theorem asc_inj {l : List Nat} (h : Asc P l) {a b : Nat} (ha : a ∈ l) (hb : b ∈ l) (he : P a = P b) : a = b := by
 induction h with
 | nil => simp at ha
 | cons h1 _ ih =>
  rcases List.mem_cons.mp ha with h2 | h2 <;> rcases List.mem_cons.mp hb with h3 | h3
  ·rw [h2, h3]
  ·have := h1 b h3; rw [← h2, he] at this; exact absurd this (Ahead.irrefl _)
  ·have := h1 a h2; rw [← h3, he] at this; exact absurd this (Ahead.irrefl _)
  ·exact ih h2 h3
theorem path_eq {R : Nat → Nat → Prop} {z : Nat} (hR : ∀ a b c, R a b → R a c → b = c) : ∀ (s s' : List Nat) (x : Nat), Adj R (x :: s ++ [z]) → Adj R (x :: s' ++ [z]) → z ∉ s → z ∉ s' → s = s'
 | [], [], _, _, _, _, _ => rfl
 | [], y :: s', x, h1, h2, _, n2 => by
  exfalso; exact n2 (by rw [hR x z y h1.1 h2.1]; simp)
 | y :: s, [], x, h1, h2, n1, _ => by
  exfalso; exact n1 (by rw [hR x z y h2.1 h1.1]; simp)
 | y :: s, y' :: s', x, h1, h2, n1, n2 => by
  have : y = y' := hR x y y' h1.1 h2.1
  subst this
  rw [path_eq hR s s' y h1.2 h2.2 (fun h => n1 (by simp [h])) (fun h => n2 (by simp [h]))]
theorem adj_drop {R : Nat → Nat → Prop} : ∀ (x y : List Nat), Adj R (x ++ y) → Adj R y
 | [], _, h => h
 | _ :: x, y, h => adj_drop x y h.tail
theorem path_nodup {R : Nat → Nat → Prop} {z : Nat} (hR : ∀ a b c, R a b → R a c → b = c) : ∀ (s : List Nat), (∃ x, Adj R (x :: s ++ [z])) → z ∉ s → s.Nodup
 | [], _, _ => List.nodup_nil
 | y :: s, ⟨x, h⟩, hz => by
  refine List.nodup_cons.mpr ⟨fun hy => ?_, path_nodup hR s ⟨y, h.2⟩ (fun hm => hz (by simp [hm]))⟩
  obtain ⟨s1, s2, rfl⟩ := List.append_of_mem hy
  have h2 : Adj R (y :: s2 ++ [z]) := adj_drop (y :: s1) _ (by simpa using h.2)
  have := path_eq hR _ _ y h.2 h2 (fun hm => hz (List.mem_cons_of_mem _ hm)) (fun hm => hz (by simp [hm]))
  have := congrArg List.length this
  simp at this
  omega
theorem nodup_le : ∀ (a b : List Nat), a.Nodup → (∀ x ∈ a, x ∈ b) → a.length ≤ b.length
 | [], _, _, _ => Nat.zero_le _
 | x :: a, b, h, hm => by
  obtain ⟨h1, h2⟩ := List.nodup_cons.mp h
  have hx := hm x (by simp)
  have := nodup_le a (b.erase x) h2 (fun y hy => (List.mem_erase_of_ne (fun h0 => h1 (by rw [← h0]; exact hy))).mpr (hm y (by simp [hy])))
  rw [List.length_erase_of_mem hx] at this
  have := List.length_pos_of_mem hx
  simp; omega
end
end Go.Proofs.YtioahkblhekgpaaGreatDoor.Geo
namespace Go.Proofs.YtioahkblhekgpaaGreatDoor.Geo
section
variable {P : Nat → Pt}
def within (x y z : Int) : Prop := x ≤ z ∧ z ≤ y ∨ y ≤ z ∧ z ≤ x
instance (x y z : Int) : Decidable (within x y z) := by unfold within; infer_instance
theorem mul_nn_iff {a b : Int} (ha : 0 < a) : 0 ≤ a * b ↔ 0 ≤ b := by
 constructor
 ·intro h; apply Classical.byContradiction; intro hb; have := Int.mul_neg_of_pos_of_neg ha (show b < 0 by omega); omega
 ·exact fun h => nn (Int.le_of_lt ha) h
theorem mul_z_iff {a b : Int} (ha : 0 < a) : a * b = 0 ↔ b = 0 := by
 constructor
 ·intro h; rcases Int.mul_eq_zero.mp h with h | h <;> omega
 ·intro h; rw [h, Int.mul_zero]
theorem on_asc {a b c : Pt} (hab : Ahead a b) (h0 : det a b c = 0) : (within a.1 b.1 c.1 ∧ within a.2 b.2 c.2) ↔ (c = a ∨ c = b ∨ Btw a c b) := by
 rcases a with ⟨a1, a2⟩; rcases b with ⟨b1, b2⟩; rcases c with ⟨c1, c2⟩
 unfold Btw Ahead Pos sub at *
 unfold det at h0
 unfold within
 simp only [Prod.mk.injEq] at *
 rcases hab with hab | ⟨hab, hab'⟩
 ·have e1 : (b1 - a1) * (c2 - a2) = (b2 - a2) * (c1 - a1) := by omega
  have e2 : (b1 - a1) * (b2 - c2) = (b2 - a2) * (b1 - c1) := by grind
  constructor
  ·rintro ⟨h1, h2⟩
   by_cases g1 : c1 = a1
   ·left; refine ⟨g1, ?_⟩
    have : c2 - a2 = 0 := (mul_z_iff hab).mp (by rw [e1, g1, Int.sub_self, Int.mul_zero])
    omega
   ·by_cases g2 : c1 = b1
    ·right; left; refine ⟨g2, ?_⟩
     have : b2 - c2 = 0 := (mul_z_iff hab).mp (by rw [e2, g2, Int.sub_self, Int.mul_zero])
     omega
    ·omega
  ·intro h
   have hx : a1 ≤ c1 ∧ c1 ≤ b1 := by omega
   refine ⟨.inl hx, ?_⟩
   rcases Int.le_total a2 b2 with k | k
   ·left
    have := (mul_nn_iff hab).mp (by rw [e1]; exact nn (by omega) (by omega))
    have := (mul_nn_iff hab).mp (by rw [e2]; exact nn (by omega) (by omega))
    omega
   ·right
    have h1 : (b1 - a1) * (a2 - c2) = (a2 - b2) * (c1 - a1) := by grind
    have h2 : (b1 - a1) * (c2 - b2) = (a2 - b2) * (b1 - c1) := by grind
    have := (mul_nn_iff hab).mp (by rw [h1]; exact nn (by omega) (by omega))
    have := (mul_nn_iff hab).mp (by rw [h2]; exact nn (by omega) (by omega))
    omega
 ·have e1 : c1 - a1 = 0 := (mul_z_iff hab').mp (by rw [hab] at h0; omega)
  omega
theorem within_comm {x y z : Int} : within x y z ↔ within y x z := by unfold within; omega
theorem on_iff {a b c : Pt} (hab : a ≠ b) (h0 : det a b c = 0) : (within a.1 b.1 c.1 ∧ within a.2 b.2 c.2) ↔ (c = a ∨ c = b ∨ Btw a c b) := by
 rcases ahead_total a b with h | h | h
 ·exact on_asc h h0
 ·exact absurd h hab
 ·have := on_asc (c := c) h (by rw [det_swap]; omega)
  rw [within_comm (x := a.1), within_comm (x := a.2), this]
  unfold Btw
  constructor
  ·rintro (h | h | h)
   ·exact .inr (.inl h)
   ·exact .inl h
   ·exact .inr (.inr h.symm)
  ·rintro (h | h | h)
   ·exact .inr (.inl h)
   ·exact .inl h
   ·exact .inr (.inr h.symm)
theorem opp {f e : Pt} {s t : Int} (hf : Pos f) (he : Pos e) (h1 : s * f.1 = t * e.1) (h2 : s * f.2 = t * e.2) : (0 ≤ s ↔ 0 ≤ t) ∧ (s = 0 ↔ t = 0) := by
 have z1 : t = 0 → s = 0 := fun h => by
  rw [h, Int.zero_mul] at h1 h2
  rcases hf with hf | ⟨_, hf⟩
  ·rcases Int.mul_eq_zero.mp h1 with h | h <;> omega
  ·rcases Int.mul_eq_zero.mp h2 with h | h <;> omega
 have z2 : s = 0 → t = 0 := fun h => by
  rw [h, Int.zero_mul] at h1 h2
  rcases he with he | ⟨_, he⟩
  ·rcases Int.mul_eq_zero.mp h1.symm with h | h <;> omega
  ·rcases Int.mul_eq_zero.mp h2.symm with h | h <;> omega
 refine ⟨⟨fun hs => ?_, fun ht => ?_⟩, ⟨z2, z1⟩⟩
 ·apply Classical.byContradiction; intro hn
  have hn : t < 0 := by omega
  have a1 := nn hs hf.x
  rcases he with he | ⟨he, he'⟩
  ·have := neg_of hn he; omega
  ·have a2 := neg_of hn he'
   rw [he, Int.mul_zero] at h1
   rcases hf with hf | ⟨hf, hf'⟩
   ·rcases Int.mul_eq_zero.mp h1 with h | h
    ·have := z2 h; omega
    ·omega
   ·have := nn hs (Int.le_of_lt hf'); omega
 ·apply Classical.byContradiction; intro hn
  have hn : s < 0 := by omega
  have a1 := nn ht he.x
  rcases hf with hf | ⟨hf, hf'⟩
  ·have := neg_of hn hf; omega
  ·have a2 := neg_of hn hf'
   rw [hf, Int.mul_zero] at h1
   rcases he with he | ⟨he, he'⟩
   ·rcases Int.mul_eq_zero.mp h1.symm with h | h
    ·have := z1 h; omega
    ·omega
   ·have := nn ht (Int.le_of_lt he'); omega
theorem same_side {a b x y c : Pt} (hab : Ahead a b) (hxy : Ahead x y) (hx : det a b x = 0) (hy : det a b y = 0) : (0 ≤ det x y c ↔ 0 ≤ det a b c) ∧ (det x y c = 0 ↔ det a b c = 0) := by
 have h1 : det x y c * (sub b a).1 = det a b c * (sub y x).1 + (det a b x * (c.1 - y.1) - det a b y * (c.1 - x.1)) := by simp only [det, sub]; grind
 have h2 : det x y c * (sub b a).2 = det a b c * (sub y x).2 + (det a b x * (c.2 - y.2) - det a b y * (c.2 - x.2)) := by simp only [det, sub]; grind
 rw [hx, hy, Int.zero_mul, Int.zero_mul, Int.sub_self, Int.add_zero] at h1 h2
 exact opp hab hxy h1 h2
theorem other_side {a b b' c : Pt} (hab : Ahead a b) (hb : Ahead b' a) (h0 : det a b b' = 0) (h1 : 0 ≤ det a b c) (h2 : 0 ≤ det a b' c) : det a b c = 0 := by
 have := (same_side (a := a) (b := b) (x := b') (y := a) (c := c) hab hb h0 (det_self2 a b)).1
 have e := det_swap a b' c
 have h3 := (same_side (a := a) (b := b) (x := b') (y := a) (c := c) hab hb h0 (det_self2 a b))
 by_cases h : 0 ≤ det b' a c
 ·have : det b' a c = 0 := by omega
  exact h3.2.mp this
 ·exact absurd (h3.1.mpr h1) h
def Flat (P : Nat → Pt) (u : List Nat) : Prop := ∀ a ∈ u, ∀ b ∈ u, ∀ c ∈ u, det (P a) (P b) (P c) = 0
theorem off_line {u : List Nat} (h : ¬ Flat P u) {a b : Nat} (hab : P a ≠ P b) : ∃ c ∈ u, det (P a) (P b) (P c) ≠ 0 := by
 apply Classical.byContradiction; intro hn
 apply h
 have : ∀ c ∈ u, det (P a) (P b) (P c) = 0 := fun c hc => Classical.byContradiction fun h => hn ⟨c, hc, h⟩
 exact fun x hx y hy z hz => flat_of hab (this x hx) (this y hy) (this z hz)
theorem Er_unique {u : List Nat} (hn : ¬ Flat P u) {a b b' : Nat} (h : Er P u a b) (h' : Er P u a b') (hb : b ∈ u) (hb' : b' ∈ u) : P b = P b' := by
 have k1 := h.2 b' hb'
 have k2 := h'.2 b hb
 have k3 := det_swap2 (P a) (P b) (P b')
 have z1 : det (P a) (P b) (P b') = 0 := by omega
 have z2 : det (P a) (P b') (P b) = 0 := by omega
 have n1 := k1.2 z1
 have n2 := k2.2 z2
 unfold Btw at n1 n2
 obtain ⟨c, c1, c2⟩ := off_line hn h.1
 apply Classical.byContradiction; intro hne
 rcases ahead_total (P a) (P b) with x | x | x
 ·rcases ahead_total (P a) (P b') with y | y | y
  ·rcases ahead_total (P b) (P b') with z | z | z
   ·exact n2 (.inl ⟨x, z⟩)
   ·exact hne z
   ·exact n1 (.inl ⟨y, z⟩)
  ·exact h'.1 y
  ·exact c2 (other_side x y z1 (h.2 c c1).1 (h'.2 c c1).1)
 ·exact h.1 x
 ·rcases ahead_total (P a) (P b') with y | y | y
  ·have := other_side (a := neg (P a)) (b := neg (P b)) (b' := neg (P b')) (c := neg (P c)) ((ahead_neg _ _).mpr x) ((ahead_neg _ _).mpr y) (by rw [det_neg]; exact z1) (by rw [det_neg]; exact (h.2 c c1).1) (by rw [det_neg]; exact (h'.2 c c1).1)
   rw [det_neg] at this; exact c2 this
  ·exact h'.1 y
  ·rcases ahead_total (P b) (P b') with z | z | z
   ·exact n1 (.inr ⟨z, y⟩)
   ·exact hne z
   ·exact n2 (.inr ⟨z, x⟩)
end
end Go.Proofs.YtioahkblhekgpaaGreatDoor.Geo
namespace Go.Proofs.YtioahkblhekgpaaGreatDoor.Geo
section
variable {P : Nat → Pt}
theorem btw_neg (a c b : Pt) : Btw (neg a) (neg c) (neg b) ↔ Btw a c b := by unfold Btw; simp only [ahead_neg]; exact ⟨fun h => h.elim (fun h => .inr ⟨h.2, h.1⟩) (fun h => .inl ⟨h.2, h.1⟩), fun h => h.elim (fun h => .inr ⟨h.2, h.1⟩) (fun h => .inl ⟨h.2, h.1⟩)⟩
instance (v : Pt) : Decidable (Pos v) := by unfold Pos; infer_instance
instance (a b : Pt) : Decidable (Ahead a b) := by unfold Ahead; infer_instance
instance (a c b : Pt) : Decidable (Btw a c b) := by unfold Btw; infer_instance
def inside (P : Nat → Pt) (a b c : Nat) : Bool := decide (det (P a) (P b) (P c) = 0) && decide (Btw (P a) (P c) (P b))
theorem inside_iff {a b c : Nat} : inside P a b c = true ↔ det (P a) (P b) (P c) = 0 ∧ Btw (P a) (P c) (P b) := by unfold inside; simp
theorem inside_neg (a b c : Nat) : inside (fun i => neg (P i)) a b c = inside P a b c := by unfold inside; simp only [det_neg, btw_neg]
def fill (P : Nat → Pt) (u : List Nat) (a b : Nat) : List Nat := if Ahead (P a) (P b) then u.filter (inside P a b) else (u.filter (inside P a b)).reverse
theorem btw_asc {a b c : Pt} (h : Ahead a b) (hb : Btw a c b) : Ahead a c ∧ Ahead c b := by
 rcases hb with hb | hb
 ·exact hb
 ·exact absurd (hb.1.trans hb.2) h.asymm
theorem adj_none : ∀ (L pre : List Nat), Asc P (pre ++ L) → Adj (fun x y => Ahead (P x) (P y) ∧ ∀ c ∈ pre ++ L, ¬ (Ahead (P x) (P c) ∧ Ahead (P c) (P y))) L
 | [], _, _ => trivial
 | [_], _, _ => trivial
 | a :: b :: L, pre, h => by
  have h2 : Asc P ((pre ++ [a]) ++ b :: L) := by simpa using h
  have ih := adj_none (b :: L) (pre ++ [a]) h2
  obtain ⟨p1, p2, p3⟩ := List.pairwise_append.mp h
  obtain ⟨p4, p5⟩ := List.pairwise_cons.mp p2
  refine ⟨⟨p4 b (by simp), fun c hc ⟨c1, c2⟩ => ?_⟩, by simpa using ih⟩
  rcases List.mem_append.mp hc with hc | hc
  ·exact c1.asymm (p3 c hc a (by simp))
  ·rcases List.mem_cons.mp hc with rfl | hc
   ·exact Ahead.irrefl _ c1
   ·rcases List.mem_cons.mp hc with rfl | hc
    ·exact Ahead.irrefl _ c2
    ·exact c2.asymm ((List.pairwise_cons.mp p5).1 c hc)
theorem fill_low {u : List Nat} (hu : Asc P u) {a b : Nat} (h : E P u a b) (hab : Ahead (P a) (P b)) (ha : a ∈ u) (hb : b ∈ u) : Adj (Er P u) (a :: u.filter (inside P a b) ++ [b]) := by
 have hin : ∀ x ∈ u.filter (inside P a b), x ∈ u ∧ det (P a) (P b) (P x) = 0 ∧ Ahead (P a) (P x) ∧ Ahead (P x) (P b) := fun x hx => by
  obtain ⟨h1, h2⟩ := List.mem_filter.mp hx
  obtain ⟨h3, h4⟩ := inside_iff.mp h2
  exact ⟨h1, h3, btw_asc hab h4⟩
 have hasc : Asc P (a :: u.filter (inside P a b) ++ [b]) := by
  refine List.pairwise_append.mpr ⟨List.pairwise_cons.mpr ⟨fun x hx => (hin x hx).2.2.1, hu.filter _⟩, List.pairwise_singleton _ _, fun x hx y hy => ?_⟩
  rw [List.mem_singleton.mp hy]
  rcases List.mem_cons.mp hx with rfl | hx
  ·exact hab
  ·exact (hin x hx).2.2.2
 have hz : ∀ x ∈ a :: u.filter (inside P a b) ++ [b], det (P a) (P b) (P x) = 0 := fun x hx => by
  rcases List.mem_append.mp hx with hx | hx
  ·rcases List.mem_cons.mp hx with rfl | hx
   ·exact det_self2 _ _
   ·exact (hin x hx).2.1
  ·rw [List.mem_singleton.mp hx]; exact det_self3 _ _
 refine Adj.mono (fun x hx y hy hxy => ?_) (adj_none _ [] hasc)
 have ss := fun c => same_side (c := P c) hab hxy.1 (hz x hx) (hz y hy)
 refine ⟨ahead_ne hxy.1, fun c hc => ⟨(ss c).1.mpr (h.2 c hc).1, fun h0 hb' => ?_⟩⟩
 have hc0 := (ss c).2.mp h0
 refine hxy.2 c ?_ (btw_asc hxy.1 hb')
 rw [List.nil_append]
 rcases (h.2 c hc).2 hc0 with k | k | k
 ·rw [asc_inj hu hc ha k]; simp
 ·rw [asc_inj hu hc hb k]; simp
 ·have := List.mem_filter.mpr ⟨hc, inside_iff.mpr ⟨hc0, k⟩⟩
  simp at this ⊢
  exact .inr (.inl this)
theorem E_neg {u : List Nat} {a b : Nat} : E (fun i => neg (P i)) u.reverse a b ↔ E P u a b := by
 unfold E
 simp only [det_neg, btw_neg, List.mem_reverse]
 have i : ∀ x y : Pt, neg x = neg y ↔ x = y := fun x y => ⟨neg_inj, fun h => by rw [h]⟩
 simp only [i, ne_eq]
theorem Er_neg {u : List Nat} {a b : Nat} : Er (fun i => neg (P i)) u.reverse a b ↔ Er P u a b := by
 unfold Er
 simp only [det_neg, btw_neg, List.mem_reverse]
 have i : ∀ x y : Pt, neg x = neg y ↔ x = y := fun x y => ⟨neg_inj, fun h => by rw [h]⟩
 simp only [i, ne_eq]
theorem fill_adj {u : List Nat} (hu : Asc P u) {a b : Nat} (h : E P u a b) (ha : a ∈ u) (hb : b ∈ u) : Adj (Er P u) (a :: fill P u a b ++ [b]) := by
 unfold fill
 rcases ahead_total (P a) (P b) with k | k | k
 ·rw [if_pos k]; exact fill_low hu h k ha hb
 ·exact absurd k h.1
 ·rw [if_neg k.asymm]
  have := fill_low (asc_reverse hu) (E_neg.mpr h) ((ahead_neg _ _).mpr k) (List.mem_reverse.mpr ha) (List.mem_reverse.mpr hb)
  rw [show inside (fun i => neg (P i)) a b = inside P a b from funext (inside_neg a b), List.filter_reverse] at this
  exact Adj.mono (fun _ _ _ _ h => Er_neg.mp h) this
def spread (P : Nat → Pt) (u : List Nat) : List Nat → List Nat
 | a :: b :: l => (a :: fill P u a b) ++ spread P u (b :: l)
 | l => l
theorem spread_head (u : List Nat) (a : Nat) (l : List Nat) : ∃ t, spread P u (a :: l) = a :: t := by
 cases l with
 | nil => exact ⟨[], rfl⟩
 | cons b l => exact ⟨_, rfl⟩
theorem spread_adj {u : List Nat} (hu : Asc P u) : ∀ (l : List Nat), (∀ x ∈ l, x ∈ u) → Adj (E P u) l → Adj (Er P u) (spread P u l)
 | [], _, _ => trivial
 | [_], _, _ => trivial
 | a :: b :: l, hm, h => by
  have ih := spread_adj hu (b :: l) (fun x hx => hm x (by simp [List.mem_cons.mp hx])) h.2
  obtain ⟨t, ht⟩ := spread_head (P := P) u b l
  rw [spread, ht]
  rw [ht] at ih
  exact Adj.append (x := a :: fill P u a b) (fill_adj hu h.1 (hm a (by simp)) (hm b (by simp))) ih
theorem fill_mem {u : List Nat} {a b x : Nat} (h : x ∈ fill P u a b) : x ∈ u ∧ Btw (P a) (P x) (P b) := by
 unfold fill at h
 have : x ∈ u.filter (inside P a b) := by split at h <;> simpa using h
 obtain ⟨h1, h2⟩ := List.mem_filter.mp this
 exact ⟨h1, (inside_iff.mp h2).2⟩
theorem spread_mem {u : List Nat} : ∀ (l : List Nat), (∀ x ∈ l, x ∈ u) → ∀ y ∈ spread P u l, y ∈ u
 | [], _, y, hy => by simp [spread] at hy
 | [a], hm, y, hy => hm y hy
 | a :: b :: l, hm, y, hy => by
  rw [spread] at hy
  rcases List.mem_append.mp hy with hy | hy
  ·rcases List.mem_cons.mp hy with rfl | hy
   ·exact hm _ (by simp)
   ·exact (fill_mem hy).1
  ·exact spread_mem (b :: l) (fun x hx => hm x (by simp [List.mem_cons.mp hx])) y hy
theorem spread_no {u : List Nat} {z : Nat} (hz : ∀ x ∈ u, ¬ Ahead (P x) (P z)) : ∀ (l : List Nat) (a : Nat), (∀ x ∈ a :: l, x ∈ u) → z ∉ l → z ∉ (spread P u (a :: l)).tail
 | [], a, _, _ => by simp [spread]
 | b :: l, a, hm, hn => by
  have ih := spread_no hz l b (fun x hx => hm x (by simp [List.mem_cons.mp hx])) (fun h => hn (by simp [h]))
  obtain ⟨t, ht⟩ := spread_head (P := P) u b l
  rw [ht] at ih
  rw [spread, ht]
  intro h
  rcases List.mem_append.mp (show z ∈ fill P u a b ++ b :: t from h) with h | h
  ·rcases (fill_mem h).2 with k | k
   ·exact hz a (hm a (by simp)) k.1
   ·exact hz b (hm b (by simp)) k.1
  ·rcases List.mem_cons.mp h with h | h
   ·exact hn (by simp [h])
   ·exact ih h
theorem spread_snoc (u : List Nat) (z : Nat) : ∀ (l : List Nat) (a : Nat), ∃ t, spread P u (a :: l ++ [z]) = a :: t ++ [z] ∧ spread P u (a :: l) = a :: (spread P u (a :: l)).tail ∧ ∃ b s, (a :: l).getLast? = some b ∧ a :: t = (spread P u (a :: l)) ++ s ∧ s = fill P u b z
 | [], a => ⟨fill P u a z, by simp [spread], by simp [spread], a, _, rfl, by simp [spread], rfl⟩
 | b :: l, a => by
  obtain ⟨t, h1, h2, c, s, h3, h4, h5⟩ := spread_snoc u z l b
  refine ⟨fill P u a b ++ b :: t, ?_, ?_, c, s, by simpa [List.getLast?_cons] using h3, ?_, h5⟩
  ·have : spread P u (a :: (b :: l) ++ [z]) = (a :: fill P u a b) ++ spread P u (b :: l ++ [z]) := by simp [spread]
   rw [this, h1]; simp
  ·rw [spread]; rfl
  ·rw [spread, List.append_assoc, ← h4]; rfl
theorem ring_rim {u0 : Nat} {l t : List Nat} (ha : Asc P (u0 :: l)) (hn : ¬ Flat P (u0 :: l)) (ht : ∀ x ∈ t, x ∈ u0 :: l) (h0 : u0 ∉ t) (hA : Adj (E P (u0 :: l)) (u0 :: t ++ [u0])) : ring P true (u0 :: l) ++ [u0] = spread P (u0 :: l) (u0 :: t ++ [u0]) := by
 have hl : l ≠ [] := fun h => hn (by
  subst h
  intro a ha b hb c hc
  rw [List.mem_singleton.mp ha, List.mem_singleton.mp hb, List.mem_singleton.mp hc]
  exact det_self1 _ _)
 obtain ⟨s, r1, r2, r3⟩ := ring_spec (e := true) ha hl
 have hmin : ∀ x ∈ u0 :: l, ¬ Ahead (P x) (P u0) := fun x hx h => by
  rcases List.mem_cons.mp hx with rfl | hx
  ·exact Ahead.irrefl _ h
  ·exact h.asymm ((List.pairwise_cons.mp ha).1 x hx)
 have hmem : ∀ x ∈ u0 :: t ++ [u0], x ∈ u0 :: l := fun x hx => by
  rcases List.mem_append.mp hx with hx | hx
  ·rcases List.mem_cons.mp hx with rfl | hx
   ·simp
   ·exact ht x hx
  ·rw [List.mem_singleton.mp hx]; simp
 obtain ⟨t', e1, -, b, s', -, e2, e3⟩ := spread_snoc (P := P) (u0 :: l) u0 t u0
 have hAdj := spread_adj ha _ hmem hA
 have hsm := spread_mem (P := P) _ hmem
 rw [e1] at hAdj hsm ⊢
 rw [r1]
 have n1 : u0 ∉ s := fun h => Ahead.irrefl _ (r3 u0 h).2
 have n2 : u0 ∉ t' := by
  have k1 := spread_no (P := P) hmin t u0 (fun x hx => hmem x (List.mem_append_left _ hx)) h0
  obtain ⟨t2, ht2⟩ := spread_head (P := P) (u0 :: l) u0 t
  rw [ht2] at k1 e2
  have : t' = t2 ++ s' := by simpa using e2
  rw [this]
  intro h
  rcases List.mem_append.mp h with h | h
  ·exact k1 h
  ·rw [e3] at h
   rcases (fill_mem h).2 with k | k
   ·exact Ahead.irrefl _ k.2
   ·exact Ahead.irrefl _ k.1
 have hR : ∀ a b c, (Er P (u0 :: l) a b ∧ b ∈ u0 :: l) → (Er P (u0 :: l) a c ∧ c ∈ u0 :: l) → b = c := fun a b c h1 h2 => asc_inj ha h1.2 h2.2 (Er_unique hn h1.1 h2.1 h1.2 h2.2)
 have m1 : ∀ x ∈ u0 :: s ++ [u0], x ∈ u0 :: l := fun x hx => by
  rcases List.mem_append.mp hx with hx | hx
  ·rcases List.mem_cons.mp hx with rfl | hx
   ·simp
   ·exact (r3 x hx).1
  ·rw [List.mem_singleton.mp hx]; simp
 have A1 : Adj (fun a b => Er P (u0 :: l) a b ∧ b ∈ u0 :: l) (u0 :: s ++ [u0]) := Adj.mono (fun a _ b hb h => ⟨h, m1 b hb⟩) r2
 have A2 : Adj (fun a b => Er P (u0 :: l) a b ∧ b ∈ u0 :: l) (u0 :: t' ++ [u0]) := Adj.mono (fun a _ b hb h => ⟨h, hsm b hb⟩) hAdj
 rw [path_eq hR s t' u0 A1 A2 n1 n2]
end
end Go.Proofs.YtioahkblhekgpaaGreatDoor.Geo
namespace Go.Proofs.YtioahkblhekgpaaGreatDoor.Geo
section
variable {P : Nat → Pt}
def Lt (P : Nat → Pt) (i j : Nat) : Prop := Ahead (P i) (P j) ∨ P i = P j ∧ i < j
instance (i j : Nat) : Decidable (Lt P i j) := by unfold Lt; infer_instance
theorem Lt.trans {i j k : Nat} (h1 : Lt P i j) (h2 : Lt P j k) : Lt P i k := by
 rcases h1 with h1 | ⟨h1, h1'⟩ <;> rcases h2 with h2 | ⟨h2, h2'⟩
 ·exact .inl (h1.trans h2)
 ·exact .inl (h2 ▸ h1)
 ·exact .inl (h1 ▸ h2)
 ·exact .inr ⟨h1.trans h2, Nat.lt_trans h1' h2'⟩
theorem Lt.irrefl (i : Nat) : ¬ Lt P i i := fun h => by
 rcases h with h | h
 ·exact Ahead.irrefl _ h
 ·omega
theorem lt_total (i j : Nat) : Lt P i j ∨ i = j ∨ Lt P j i := by
 rcases ahead_total (P i) (P j) with h | h | h
 ·exact .inl (.inl h)
 ·rcases Nat.lt_trichotomy i j with k | k | k
  ·exact .inl (.inr ⟨h, k⟩)
  ·exact .inr (.inl k)
  ·exact .inr (.inr (.inr ⟨h.symm, k⟩))
 ·exact .inr (.inr (.inl h))
theorem sorted_eq : ∀ {a b : List Nat}, a.Pairwise (Lt P) → b.Pairwise (Lt P) → (∀ x, x ∈ a ↔ x ∈ b) → a = b
 | [], [], _, _, _ => rfl
 | [], y :: b, _, _, h => absurd ((h y).mpr (by simp)) (by simp)
 | x :: a, [], _, _, h => absurd ((h x).mp (by simp)) (by simp)
 | x :: a, y :: b, ha, hb, h => by
  obtain ⟨a1, a2⟩ := List.pairwise_cons.mp ha
  obtain ⟨b1, b2⟩ := List.pairwise_cons.mp hb
  have hxy : x = y := by
   rcases List.mem_cons.mp ((h x).mp (by simp)) with h1 | h1
   ·exact h1
   ·rcases List.mem_cons.mp ((h y).mpr (by simp)) with h2 | h2
    ·exact h2.symm
    ·exact absurd ((a1 y h2).trans (b1 x h1)) (Lt.irrefl _)
  subst hxy
  rw [sorted_eq a2 b2 fun z => ?_]
  have k := h z
  simp only [List.mem_cons] at k
  constructor
  ·intro hz
   rcases k.mp (.inr hz) with h1 | h1
   ·rw [h1] at hz; exact absurd (a1 x hz) (Lt.irrefl _)
   ·exact h1
  ·intro hz
   rcases k.mpr (.inr hz) with h1 | h1
   ·rw [h1] at hz; exact absurd (b1 x hz) (Lt.irrefl _)
   ·exact h1
def Sorted (P : Nat → Pt) (n : Nat) (o : List Nat) : Prop := o.Pairwise (Lt P) ∧ ∀ x, x ∈ o ↔ x < n
theorem Sorted.eq {n : Nat} {a b : List Nat} (ha : Sorted P n a) (hb : Sorted P n b) : a = b := sorted_eq ha.1 hb.1 fun x => (ha.2 x).trans (hb.2 x).symm
theorem lt_nodup {a : List Nat} (h : a.Pairwise (Lt P)) : a.Nodup := h.imp fun {x y} hxy he => by rw [he] at hxy; exact Lt.irrefl _ hxy
theorem Sorted.length {n : Nat} {o : List Nat} (h : Sorted P n o) : o.length = n := by
 have h1 := nodup_le o (List.range n) (lt_nodup h.1) (fun x hx => List.mem_range.mpr ((h.2 x).mp hx))
 have h2 := nodup_le (List.range n) o List.nodup_range (fun x hx => (h.2 x).mpr (List.mem_range.mp hx))
 rw [List.length_range] at h1 h2
 omega
def runs (P : Nat → Pt) : Nat → List Nat → List Nat
 | _, [] => []
 | p, x :: l => if P x = P p then runs P x l else x :: runs P x l
def compact (P : Nat → Pt) : List Nat → List Nat
 | [] => []
 | x :: l => x :: runs P x l
def First (P : Nat → Pt) (i : Nat) : Prop := ∀ k, k < i → P k ≠ P i
theorem runs_spec {n : Nat} {p : Nat → Bool} (hpp : ∀ i, i < n → (p i = true ↔ First P i)) : ∀ (l pre : List Nat) (a : Nat), Sorted P n (pre ++ a :: l) → runs P a l = l.filter p
 | [], _, _, _ => rfl
 | x :: l, pre, a, h => by
  have ih := runs_spec hpp l (pre ++ [a]) x (by simpa using h)
  have hx : x < n := (h.2 x).mp (by simp)
  obtain ⟨q1, q2, q3⟩ := List.pairwise_append.mp h.1
  obtain ⟨q4, q5⟩ := List.pairwise_cons.mp q2
  obtain ⟨q6, q7⟩ := List.pairwise_cons.mp q5
  have hax := q4 x (by simp)
  unfold runs
  by_cases hP : P x = P a
  ·rw [if_pos hP, ih, List.filter_cons_of_neg]
   rw [hpp x hx]
   intro hF
   rcases hax with k | k
   ·rw [hP] at k; exact Ahead.irrefl _ k
   ·exact hF a k.2 hP.symm
  ·rw [if_neg hP, ih, List.filter_cons_of_pos]
   rw [hpp x hx]
   intro k hk he
   have hkn : k < n := Nat.lt_trans hk hx
   have hax' : Ahead (P a) (P x) := by
    rcases hax with h | h
    ·exact h
    ·exact absurd h.1.symm hP
   have hka : ¬ Lt P x k := fun h0 => by
    rcases h0 with h0 | h0
    ·rw [he] at h0; exact Ahead.irrefl _ h0
    ·omega
   rcases List.mem_append.mp ((h.2 k).mpr hkn) with hm | hm
   ·have := q3 k hm a (by simp)
    rcases this with h1 | h1
    ·rw [he] at h1; exact h1.asymm hax'
    ·exact hP (he.symm.trans h1.1)
   ·rcases List.mem_cons.mp hm with rfl | hm
    ·exact hP he.symm
    ·rcases List.mem_cons.mp hm with rfl | hm
     ·omega
     ·exact hka (q6 k hm)
theorem compact_spec {n : Nat} {p : Nat → Bool} (hpp : ∀ i, i < n → (p i = true ↔ First P i)) {o : List Nat} (h : Sorted P n o) : compact P o = o.filter p := by
 cases o with
 | nil => rfl
 | cons a l =>
  show a :: runs P a l = _
  rw [runs_spec hpp l [] a h, List.filter_cons_of_pos]
  rw [hpp a ((h.2 a).mp (by simp))]
  intro k hk he
  rcases List.mem_cons.mp ((h.2 k).mpr (Nat.lt_trans hk ((h.2 a).mp (by simp)))) with h1 | h1
  ·omega
  ·rcases (List.pairwise_cons.mp h.1).1 k h1 with h2 | h2
   ·rw [he] at h2; exact Ahead.irrefl _ h2
   ·omega
theorem unlike_asc {n : Nat} {p : Nat → Bool} (hpp : ∀ i, i < n → (p i = true ↔ First P i)) {o : List Nat} (h : Sorted P n o) : Asc P (o.filter p) := by
 have h1 := h.1.filter p
 have hm : ∀ x ∈ o.filter p, x < n ∧ First P x := fun x hx => by
  obtain ⟨a, b⟩ := List.mem_filter.mp hx
  have := (h.2 x).mp a
  exact ⟨this, (hpp x this).mp b⟩
 refine (List.Pairwise.and_mem.mp h1).imp fun {a b} ⟨ha, hb, hab⟩ => ?_
 rcases hab with k | k
 ·exact k
 ·exact absurd k.1 ((hm b hb).2 a k.2)
theorem first_exists (n : Nat) : ∀ i, i < n → ∃ k, k ≤ i ∧ P k = P i ∧ First P k := by
 intro i
 induction i using Nat.strongRecOn with
 | _ i ih =>
  intro hi
  by_cases hF : First P i
  ·exact ⟨i, Nat.le_refl _, rfl, hF⟩
  ·unfold First at hF
   obtain ⟨k, hk⟩ : ∃ k, k < i ∧ P k = P i := Classical.byContradiction fun hn => hF fun k hk he => hn ⟨k, hk, he⟩
   obtain ⟨m, m1, m2, m3⟩ := ih k hk.1 (Nat.lt_trans hk.1 hi)
   exact ⟨m, by omega, m2.trans hk.2, m3⟩
theorem unlike_all {n : Nat} {p : Nat → Bool} (hpp : ∀ i, i < n → (p i = true ↔ First P i)) {o : List Nat} (h : Sorted P n o) {i : Nat} (hi : i < n) : ∃ k ∈ o.filter p, P k = P i := by
 obtain ⟨k, k1, k2, k3⟩ := first_exists (P := P) n i hi
 exact ⟨k, List.mem_filter.mpr ⟨(h.2 k).mpr (by omega), (hpp k (by omega)).mpr k3⟩, k2⟩
end
end Go.Proofs.YtioahkblhekgpaaGreatDoor.Geo
namespace Go.Proofs.YtioahkblhekgpaaGreatDoor.Geo
section
variable {P : Nat → Pt}
def AllFlat (P : Nat → Pt) (n : Nat) : Prop := ∀ a, a < n → ∀ b, b < n → ∀ c, c < n → det (P a) (P b) (P c) = 0
theorem allflat_down {n : Nat} : AllFlat P n ↔ ∀ i, i < n → ∀ k, k < i → ∀ j, j < k → det (P i) (P k) (P j) = 0 := by
 constructor
 ·exact fun h i hi k hk j hj => h i hi k (by omega) j (by omega)
 ·intro h
  have up : ∀ a b c, a < n → b < a → c < b → det (P a) (P b) (P c) = 0 := fun a b c h1 h2 h3 => h a h1 b h2 c h3
  intro a ha b hb c hc
  have s1 := det_swap (P a) (P b) (P c)
  have s2 := det_swap2 (P a) (P b) (P c)
  have s3 := det_rot (P a) (P b) (P c)
  have s4 := det_rot (P b) (P c) (P a)
  have s5 := det_swap (P b) (P c) (P a)
  rcases Nat.lt_trichotomy a b with x | x | x
  ·rcases Nat.lt_trichotomy b c with y | y | y
   ·have := up c b a hc y x; omega
   ·rw [y]; exact det_self3 _ _
   ·rcases Nat.lt_trichotomy a c with z | z | z
    ·have := up b c a hb y z; omega
    ·rw [z]; exact det_self2 _ _
    ·have := up b a c hb x z; omega
  ·rw [x]; exact det_self1 _ _
  ·rcases Nat.lt_trichotomy b c with y | y | y
   ·rcases Nat.lt_trichotomy a c with z | z | z
    ·have := up c a b hc z x; omega
    ·rw [z]; exact det_self2 _ _
    ·have := up a c b ha z y; omega
   ·rw [y]; exact det_self3 _ _
   ·exact up a b c ha x y
theorem allflat_unlike {n : Nat} {u : List Nat} (hu : ∀ x ∈ u, x < n) (hall : ∀ i, i < n → ∃ k ∈ u, P k = P i) : AllFlat P n ↔ Flat P u := by
 constructor
 ·exact fun h a ha b hb c hc => h a (hu a ha) b (hu b hb) c (hu c hc)
 ·intro h a ha b hb c hc
  obtain ⟨a', a1, a2⟩ := hall a ha
  obtain ⟨b', b1, b2⟩ := hall b hb
  obtain ⟨c', c1, c2⟩ := hall c hc
  rw [← a2, ← b2, ← c2]; exact h a' a1 b' b1 c' c1
theorem flat_three {a b : Nat} {r : List Nat} (hab : P a ≠ P b) : Flat P (a :: b :: r) ↔ ∀ c ∈ r, det (P a) (P b) (P c) = 0 := by
 constructor
 ·exact fun h c hc => h a (by simp) b (by simp) c (by simp [hc])
 ·intro h
  have : ∀ c ∈ a :: b :: r, det (P a) (P b) (P c) = 0 := fun c hc => by
   rcases List.mem_cons.mp hc with rfl | hc
   ·exact det_self2 _ _
   ·rcases List.mem_cons.mp hc with rfl | hc
    ·exact det_self3 _ _
    ·exact h c hc
  exact fun x hx y hy z hz => flat_of hab (this x hx) (this y hy) (this z hz)
theorem flat_few {u : List Nat} (h : u.length < 3) : Flat P u := by
 match u, h with
 | [], _ => intro a ha; simp at ha
 | [a], _ => intro x hx y hy z hz; rw [List.mem_singleton.mp hx, List.mem_singleton.mp hy, List.mem_singleton.mp hz]; exact det_self1 _ _
 | [a, b], _ =>
  intro x hx y hy z hz
  simp only [List.mem_cons, List.not_mem_nil, or_false] at hx hy hz
  rcases hx with rfl | rfl <;> rcases hy with rfl | rfl <;> rcases hz with rfl | rfl <;> first | exact det_self1 _ _ | exact det_self2 _ _ | exact det_self3 _ _
 | _ :: _ :: _ :: _, h => simp at h; omega
end
end Go.Proofs.YtioahkblhekgpaaGreatDoor.Geo
