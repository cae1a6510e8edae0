/- What the proof needs of Geo: only what is used is left (wip/tools/prune.py). Conditions stand in each sentence. -/
import Derived.RowKit
set_option linter.unusedVariables false
set_option linter.unusedSimpArgs false
namespace Go.Proofs.YtioahkblhekgpaaGreatDoor.Geo
abbrev Pt := Int × Int
def det (a b c : Pt) : Int := (b.1 - a.1) * (c.2 - a.2) - (b.2 - a.2) * (c.1 - a.1)
def Pos (v : Pt) : Prop := 0 < v.1 ∨ v.1 = 0 ∧ 0 < v.2
def sub (a b : Pt) : Pt := (a.1 - b.1, a.2 - b.2)
def Ahead (a b : Pt) : Prop := Pos (sub b a)
theorem det_rot (a b c : Pt) : det a b c = det b c a := by simp only [det]; grind
theorem det_swap (a b c : Pt) : det a b c = -det b a c := by simp only [det]; grind
theorem det_swap2 (a b c : Pt) : det a b c = -det a c b := by simp only [det]; grind
theorem det_self1 (a c : Pt) : det a a c = 0 := by simp only [det]; grind
theorem det_self2 (a b : Pt) : det a b a = 0 := by simp only [det]; grind
theorem det_self3 (a b : Pt) : det a b b = 0 := by simp only [det]; grind
end Go.Proofs.YtioahkblhekgpaaGreatDoor.Geo
namespace Go.Proofs.YtioahkblhekgpaaGreatDoor.Geo
theorem Ahead.trans {a b c : Pt} (h1 : Ahead a b) (h2 : Ahead b c) : Ahead a c := by unfold Ahead Pos sub at *; simp only at *; omega
theorem Ahead.irrefl (a : Pt) : ¬ Ahead a a := by unfold Ahead Pos sub; simp only; omega
theorem Ahead.asymm {a b : Pt} (h1 : Ahead a b) : ¬ Ahead b a := by unfold Ahead Pos sub at *; simp only at *; omega
theorem ahead_total (a b : Pt) : Ahead a b ∨ a = b ∨ Ahead b a := by
  unfold Ahead Pos sub; simp only
  rcases a with ⟨a1, a2⟩; rcases b with ⟨b1, b2⟩
  simp only [Prod.mk.injEq]; omega
theorem flat_of {p q : Pt} (h : p ≠ q) {a b c : Pt} (ha : det p q a = 0) (hb : det p q b = 0) (hc : det p q c = 0) : det a b c = 0 := by
  have i1 : det a b c * (q.1 - p.1) = det p q c * (b.1 - a.1) - det p q b * (c.1 - a.1) + det p q a * (c.1 - b.1) := by simp only [det]; grind
  have i2 : det a b c * (q.2 - p.2) = det p q c * (b.2 - a.2) - det p q b * (c.2 - a.2) + det p q a * (c.2 - b.2) := by simp only [det]; grind
  rw [ha, hb, hc] at i1 i2
  simp only [Int.zero_mul, Int.sub_zero, Int.add_zero] at i1 i2
  rcases Int.mul_eq_zero.mp i1 with h1 | h1
  · exact h1
  · rcases Int.mul_eq_zero.mp i2 with h2 | h2
    · exact h2
    · exfalso; apply h; rcases p with ⟨p1, p2⟩; rcases q with ⟨q1, q2⟩; simp only [Prod.mk.injEq] at *; omega
end Go.Proofs.YtioahkblhekgpaaGreatDoor.Geo
namespace Go.Proofs.YtioahkblhekgpaaGreatDoor.Geo
end Go.Proofs.YtioahkblhekgpaaGreatDoor.Geo
namespace Go.Proofs.YtioahkblhekgpaaGreatDoor.Geo
section
variable {P : Nat → Pt} {e : Bool}
abbrev Asc (P : Nat → Pt) (l : List Nat) : Prop := l.Pairwise fun a b => Ahead (P a) (P b)
end
end Go.Proofs.YtioahkblhekgpaaGreatDoor.Geo
namespace Go.Proofs.YtioahkblhekgpaaGreatDoor.Geo
section
variable {P : Nat → Pt}
theorem ahead_ne {a b : Pt} (h : Ahead a b) : a ≠ b := fun h0 => by rw [h0] at h; exact Ahead.irrefl _ h
theorem nodup_le : ∀ (a b : List Nat), a.Nodup → (∀ x ∈ a, x ∈ b) → a.length ≤ b.length
  | [], _, _, _ => Nat.zero_le _
  | x :: a, b, h, hm => by
    obtain ⟨h1, h2⟩ := List.nodup_cons.mp h
    have hx := hm x (by simp)
    have := nodup_le a (b.erase x) h2 (fun y hy => (List.mem_erase_of_ne (fun h0 => h1 (by rw [← h0]; exact hy))).mpr (hm y (by simp [hy])))
    rw [List.length_erase_of_mem hx] at this
    have := List.length_pos_of_mem hx
    simp; omega
end
end Go.Proofs.YtioahkblhekgpaaGreatDoor.Geo
namespace Go.Proofs.YtioahkblhekgpaaGreatDoor.Geo
section
variable {P : Nat → Pt}
def Flat (P : Nat → Pt) (u : List Nat) : Prop := ∀ a ∈ u, ∀ b ∈ u, ∀ c ∈ u, det (P a) (P b) (P c) = 0
end
end Go.Proofs.YtioahkblhekgpaaGreatDoor.Geo
namespace Go.Proofs.YtioahkblhekgpaaGreatDoor.Geo
section
variable {P : Nat → Pt}
instance (v : Pt) : Decidable (Pos v) := by unfold Pos; infer_instance
instance (a b : Pt) : Decidable (Ahead a b) := by unfold Ahead; infer_instance
end
end Go.Proofs.YtioahkblhekgpaaGreatDoor.Geo
namespace Go.Proofs.YtioahkblhekgpaaGreatDoor.Geo
section
variable {P : Nat → Pt}
def Lt (P : Nat → Pt) (i j : Nat) : Prop := Ahead (P i) (P j) ∨ P i = P j ∧ i < j
instance (i j : Nat) : Decidable (Lt P i j) := by unfold Lt; infer_instance
theorem Lt.trans {i j k : Nat} (h1 : Lt P i j) (h2 : Lt P j k) : Lt P i k := by
  rcases h1 with h1 | ⟨h1, h1'⟩ <;> rcases h2 with h2 | ⟨h2, h2'⟩
  · exact .inl (h1.trans h2)
  · exact .inl (h2 ▸ h1)
  · exact .inl (h1 ▸ h2)
  · exact .inr ⟨h1.trans h2, Nat.lt_trans h1' h2'⟩
theorem Lt.irrefl (i : Nat) : ¬ Lt P i i := fun h => by
  rcases h with h | h
  · exact Ahead.irrefl _ h
  · omega
theorem lt_total (i j : Nat) : Lt P i j ∨ i = j ∨ Lt P j i := by
  rcases ahead_total (P i) (P j) with h | h | h
  · exact .inl (.inl h)
  · rcases Nat.lt_trichotomy i j with k | k | k
    · exact .inl (.inr ⟨h, k⟩)
    · exact .inr (.inl k)
    · exact .inr (.inr (.inr ⟨h.symm, k⟩))
  · exact .inr (.inr (.inl h))
theorem sorted_eq : ∀ {a b : List Nat}, a.Pairwise (Lt P) → b.Pairwise (Lt P) → (∀ x, x ∈ a ↔ x ∈ b) → a = b
  | [], [], _, _, _ => rfl
  | [], y :: b, _, _, h => absurd ((h y).mpr (by simp)) (by simp)
  | x :: a, [], _, _, h => absurd ((h x).mp (by simp)) (by simp)
  | x :: a, y :: b, ha, hb, h => by
    obtain ⟨a1, a2⟩ := List.pairwise_cons.mp ha
    obtain ⟨b1, b2⟩ := List.pairwise_cons.mp hb
    have hxy : x = y := by
      rcases List.mem_cons.mp ((h x).mp (by simp)) with h1 | h1
      · exact h1
      · rcases List.mem_cons.mp ((h y).mpr (by simp)) with h2 | h2
        · exact h2.symm
        · exact absurd ((a1 y h2).trans (b1 x h1)) (Lt.irrefl _)
    subst hxy
    rw [sorted_eq a2 b2 fun z => ?_]
    have k := h z
    simp only [List.mem_cons] at k
    constructor
    · intro hz
      rcases k.mp (.inr hz) with h1 | h1
      · rw [h1] at hz; exact absurd (a1 x hz) (Lt.irrefl _)
      · exact h1
    · intro hz
      rcases k.mpr (.inr hz) with h1 | h1
      · rw [h1] at hz; exact absurd (b1 x hz) (Lt.irrefl _)
      · exact h1
def Sorted (P : Nat → Pt) (n : Nat) (o : List Nat) : Prop := o.Pairwise (Lt P) ∧ ∀ x, x ∈ o ↔ x < n
theorem Sorted.eq {n : Nat} {a b : List Nat} (ha : Sorted P n a) (hb : Sorted P n b) : a = b := sorted_eq ha.1 hb.1 fun x => (ha.2 x).trans (hb.2 x).symm
theorem lt_nodup {a : List Nat} (h : a.Pairwise (Lt P)) : a.Nodup := h.imp fun {x y} hxy he => by rw [he] at hxy; exact Lt.irrefl _ hxy
theorem Sorted.length {n : Nat} {o : List Nat} (h : Sorted P n o) : o.length = n := by
  have h1 := nodup_le o (List.range n) (lt_nodup h.1) (fun x hx => List.mem_range.mpr ((h.2 x).mp hx))
  have h2 := nodup_le (List.range n) o List.nodup_range (fun x hx => (h.2 x).mpr (List.mem_range.mp hx))
  rw [List.length_range] at h1 h2
  omega
def runs (P : Nat → Pt) : Nat → List Nat → List Nat
  | _, [] => []
  | p, x :: l => if P x = P p then runs P x l else x :: runs P x l
def compact (P : Nat → Pt) : List Nat → List Nat
  | [] => []
  | x :: l => x :: runs P x l
def First (P : Nat → Pt) (i : Nat) : Prop := ∀ k, k < i → P k ≠ P i
theorem runs_spec {n : Nat} {p : Nat → Bool} (hpp : ∀ i, i < n → (p i = true ↔ First P i)) : ∀ (l pre : List Nat) (a : Nat), Sorted P n (pre ++ a :: l) → runs P a l = l.filter p
  | [], _, _, _ => rfl
  | x :: l, pre, a, h => by
    have ih := runs_spec hpp l (pre ++ [a]) x (by simpa using h)
    have hx : x < n := (h.2 x).mp (by simp)
    obtain ⟨q1, q2, q3⟩ := List.pairwise_append.mp h.1
    obtain ⟨q4, q5⟩ := List.pairwise_cons.mp q2
    obtain ⟨q6, q7⟩ := List.pairwise_cons.mp q5
    have hax := q4 x (by simp)
    unfold runs
    by_cases hP : P x = P a
    · rw [if_pos hP, ih, List.filter_cons_of_neg]
      rw [hpp x hx]
      intro hF
      rcases hax with k | k
      · rw [hP] at k; exact Ahead.irrefl _ k
      · exact hF a k.2 hP.symm
    · rw [if_neg hP, ih, List.filter_cons_of_pos]
      rw [hpp x hx]
      intro k hk he
      have hkn : k < n := Nat.lt_trans hk hx
      have hax' : Ahead (P a) (P x) := by
        rcases hax with h | h
        · exact h
        · exact absurd h.1.symm hP
      have hka : ¬ Lt P x k := fun h0 => by
        rcases h0 with h0 | h0
        · rw [he] at h0; exact Ahead.irrefl _ h0
        · omega
      rcases List.mem_append.mp ((h.2 k).mpr hkn) with hm | hm
      · have := q3 k hm a (by simp)
        rcases this with h1 | h1
        · rw [he] at h1; exact h1.asymm hax'
        · exact hP (he.symm.trans h1.1)
      · rcases List.mem_cons.mp hm with rfl | hm
        · exact hP he.symm
        · rcases List.mem_cons.mp hm with rfl | hm
          · omega
          · exact hka (q6 k hm)
theorem compact_spec {n : Nat} {p : Nat → Bool} (hpp : ∀ i, i < n → (p i = true ↔ First P i)) {o : List Nat} (h : Sorted P n o) : compact P o = o.filter p := by
  cases o with
  | nil => rfl
  | cons a l =>
    show a :: runs P a l = _
    rw [runs_spec hpp l [] a h, List.filter_cons_of_pos]
    rw [hpp a ((h.2 a).mp (by simp))]
    intro k hk he
    rcases List.mem_cons.mp ((h.2 k).mpr (Nat.lt_trans hk ((h.2 a).mp (by simp)))) with h1 | h1
    · omega
    · rcases (List.pairwise_cons.mp h.1).1 k h1 with h2 | h2
      · rw [he] at h2; exact Ahead.irrefl _ h2
      · omega
theorem unlike_asc {n : Nat} {p : Nat → Bool} (hpp : ∀ i, i < n → (p i = true ↔ First P i)) {o : List Nat} (h : Sorted P n o) : Asc P (o.filter p) := by
  have h1 := h.1.filter p
  have hm : ∀ x ∈ o.filter p, x < n ∧ First P x := fun x hx => by
    obtain ⟨a, b⟩ := List.mem_filter.mp hx
    have := (h.2 x).mp a
    exact ⟨this, (hpp x this).mp b⟩
  refine (List.Pairwise.and_mem.mp h1).imp fun {a b} ⟨ha, hb, hab⟩ => ?_
  rcases hab with k | k
  · exact k
  · exact absurd k.1 ((hm b hb).2 a k.2)
theorem first_exists (n : Nat) : ∀ i, i < n → ∃ k, k ≤ i ∧ P k = P i ∧ First P k := by
  intro i
  induction i using Nat.strongRecOn with
  | _ i ih =>
    intro hi
    by_cases hF : First P i
    · exact ⟨i, Nat.le_refl _, rfl, hF⟩
    · unfold First at hF
      obtain ⟨k, hk⟩ : ∃ k, k < i ∧ P k = P i := Classical.byContradiction fun hn => hF fun k hk he => hn ⟨k, hk, he⟩
      obtain ⟨m, m1, m2, m3⟩ := ih k hk.1 (Nat.lt_trans hk.1 hi)
      exact ⟨m, by omega, m2.trans hk.2, m3⟩
theorem unlike_all {n : Nat} {p : Nat → Bool} (hpp : ∀ i, i < n → (p i = true ↔ First P i)) {o : List Nat} (h : Sorted P n o) {i : Nat} (hi : i < n) : ∃ k ∈ o.filter p, P k = P i := by
  obtain ⟨k, k1, k2, k3⟩ := first_exists (P := P) n i hi
  exact ⟨k, List.mem_filter.mpr ⟨(h.2 k).mpr (by omega), (hpp k (by omega)).mpr k3⟩, k2⟩
end
end Go.Proofs.YtioahkblhekgpaaGreatDoor.Geo
namespace Go.Proofs.YtioahkblhekgpaaGreatDoor.Geo
section
variable {P : Nat → Pt}
def AllFlat (P : Nat → Pt) (n : Nat) : Prop := ∀ a, a < n → ∀ b, b < n → ∀ c, c < n → det (P a) (P b) (P c) = 0
theorem allflat_down {n : Nat} : AllFlat P n ↔ ∀ i, i < n → ∀ k, k < i → ∀ j, j < k → det (P i) (P k) (P j) = 0 := by
  constructor
  · exact fun h i hi k hk j hj => h i hi k (by omega) j (by omega)
  · intro h
    have up : ∀ a b c, a < n → b < a → c < b → det (P a) (P b) (P c) = 0 := fun a b c h1 h2 h3 => h a h1 b h2 c h3
    intro a ha b hb c hc
    have s1 := det_swap (P a) (P b) (P c)
    have s2 := det_swap2 (P a) (P b) (P c)
    have s3 := det_rot (P a) (P b) (P c)
    have s4 := det_rot (P b) (P c) (P a)
    have s5 := det_swap (P b) (P c) (P a)
    rcases Nat.lt_trichotomy a b with x | x | x
    · rcases Nat.lt_trichotomy b c with y | y | y
      · have := up c b a hc y x; omega
      · rw [y]; exact det_self3 _ _
      · rcases Nat.lt_trichotomy a c with z | z | z
        · have := up b c a hb y z; omega
        · rw [z]; exact det_self2 _ _
        · have := up b a c hb x z; omega
    · rw [x]; exact det_self1 _ _
    · rcases Nat.lt_trichotomy b c with y | y | y
      · rcases Nat.lt_trichotomy a c with z | z | z
        · have := up c a b hc z x; omega
        · rw [z]; exact det_self2 _ _
        · have := up a c b ha z y; omega
      · rw [y]; exact det_self3 _ _
      · exact up a b c ha x y
theorem allflat_unlike {n : Nat} {u : List Nat} (hu : ∀ x ∈ u, x < n) (hall : ∀ i, i < n → ∃ k ∈ u, P k = P i) : AllFlat P n ↔ Flat P u := by
  constructor
  · exact fun h a ha b hb c hc => h a (hu a ha) b (hu b hb) c (hu c hc)
  · intro h a ha b hb c hc
    obtain ⟨a', a1, a2⟩ := hall a ha
    obtain ⟨b', b1, b2⟩ := hall b hb
    obtain ⟨c', c1, c2⟩ := hall c hc
    rw [← a2, ← b2, ← c2]; exact h a' a1 b' b1 c' c1
theorem flat_three {a b : Nat} {r : List Nat} (hab : P a ≠ P b) : Flat P (a :: b :: r) ↔ ∀ c ∈ r, det (P a) (P b) (P c) = 0 := by
  constructor
  · exact fun h c hc => h a (by simp) b (by simp) c (by simp [hc])
  · intro h
    have : ∀ c ∈ a :: b :: r, det (P a) (P b) (P c) = 0 := fun c hc => by
      rcases List.mem_cons.mp hc with rfl | hc
      · exact det_self2 _ _
      · rcases List.mem_cons.mp hc with rfl | hc
        · exact det_self3 _ _
        · exact h c hc
    exact fun x hx y hy z hz => flat_of hab (this x hx) (this y hy) (this z hz)
theorem flat_few {u : List Nat} (h : u.length < 3) : Flat P u := by
  match u, h with
  | [], _ => intro a ha; simp at ha
  | [a], _ => intro x hx y hy z hz; rw [List.mem_singleton.mp hx, List.mem_singleton.mp hy, List.mem_singleton.mp hz]; exact det_self1 _ _
  | [a, b], _ =>
    intro x hx y hy z hz
    simp only [List.mem_cons, List.not_mem_nil, or_false] at hx hy hz
    rcases hx with rfl | rfl <;> rcases hy with rfl | rfl <;> rcases hz with rfl | rfl <;> first | exact det_self1 _ _ | exact det_self2 _ _ | exact det_self3 _ _
  | _ :: _ :: _ :: _, h => simp at h; omega
end
end Go.Proofs.YtioahkblhekgpaaGreatDoor.Geo
