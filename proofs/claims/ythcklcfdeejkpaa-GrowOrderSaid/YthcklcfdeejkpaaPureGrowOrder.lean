/- GrowOrder, the pure law: the row of a seed that grow.Order makes is the one that trivetref23.Order makes, both times; for every n (as the law guards it) and every seed of 64 bits. -/
import Derived.Test.YthcklcfdeejkpaaPG2
namespace Go.Proofs.Ythcklcfdeejkpaa.Pure
open Go.RowKit Go.Proofs.Ythcklcfdeejkpaa.PG Go.Proofs.YthcklcfdeejkpaaW.PrintWords Go.Proofs.YthcklcfdeejkpaaW.PrintLast

theorem ints_from (l : List Int) (hl : l.length ≤ 1048576) (d : Nat) : ∀ i : Int, 0 ≤ i → i ≤ l.length → (l.length : Int) - i = d → Ev (fun k => trivetref07_Ints.l0 k l l i) true := by
  induction d with
  | zero =>
    intro i h0 h1 hd
    exact Ev.step (f := fun _ => some true) (fun k => by simp only [trivetref07_Ints.l0]; rw [if_neg (by omega)]) (Ev.now _)
  | succ d ih =>
    intro i h0 h1 hd
    refine Ev.step (f := fun k => trivetref07_Ints.l0 k l l (i + 1)) (fun k => ?_) (ih (i + 1) (by omega) (by omega) (by omega))
    simp only [trivetref07_Ints.l0]
    rw [if_pos (by omega), if_pos h0, if_pos (by omega), if_pos trivial, show wrap64 (i + 1) = i + 1 from by unfold wrap64; omega]
theorem ints_same (l : List Int) (hl : l.length ≤ 1048576) : Ev (fun k => trivetref07_Ints.f k l l) true :=
  Ev.congr (f := fun k => trivetref07_Ints.l0 k l l 0) (fun k => by unfold trivetref07_Ints.f; rw [if_pos rfl]) (ints_from l hl l.length 0 (by omega) (by omega) (by omega))

theorem shuf_length : ∀ (i : Nat) (s : Int) (l : List Int), (shuf i s l).length = l.length
  | 0, _, _ => rfl
  | i + 1, s, l => by rw [shuf, shuf_length]; simp [swapL]
theorem growRow_length (n s : Int) (h : 0 ≤ n) (h2 : n ≤ 1048576) : (growRow n s).length = n.toNat := by
  unfold growRow; rw [if_neg (by omega), shuf_length]; simp
theorem growRow_le (n s : Int) : (growRow n s).length ≤ 1048576 := by
  by_cases h : n < 0 ∨ n > 1048576
  · unfold growRow; rw [if_pos h]; simp
  · rw [growRow_length n s (by omega) (by omega)]; omega

theorem down (n : Nat) (hn : n ≤ 1048576) : ∀ (i : Nat) (s : Int) (l : List Int), l.length = n → (i < n ∨ i = 0) → Ev (fun k => trivetref23_Order.l1 k l s (i : Int)) (shuf i s l)
  | 0, s, l, hl, _ => Ev.step (f := fun _ => some l) (fun k => by simp only [trivetref23_Order.l1]; rw [if_neg (by omega)]) (Ev.now _)
  | i + 1, s, l, hl, hi => by
    have hb := pick_bd s ((i : Int) + 1 + 1) (by omega) (by omega)
    have hw : IntKind.u64.wrap (wrap64 ((((i + 1 : Nat) : Int)) + 1)) = (i : Int) + 1 + 1 := by
      rw [show wrap64 ((((i + 1 : Nat) : Int)) + 1) = (i : Int) + 1 + 1 from by unfold wrap64; omega]
      simp only [IntKind.wrap]; simp [IntKind.signed, IntKind.bits]; omega
    have hl' := lcg_bd s
    have hq : IntKind.u64.wrap (Int.tdiv (IntKind.u64.wrap ((IntKind.u64.wrap (s * 6364136223846793005)) + 1442695040888963407)) 8589934592) = lcg s / 8589934592 := by
      show IntKind.u64.wrap (Int.tdiv (lcg s) 8589934592) = _
      generalize lcg s = y at *
      rw [Int.tdiv_eq_ediv_of_nonneg (by omega)]
      simp only [IntKind.wrap]; simp [IntKind.signed, IntKind.bits]; omega
    have hp : wrap64 (Int.tmod (IntKind.u64.wrap (Int.tdiv (IntKind.u64.wrap ((IntKind.u64.wrap (s * 6364136223846793005)) + 1442695040888963407)) 8589934592)) (IntKind.u64.wrap (wrap64 ((((i + 1 : Nat) : Int)) + 1)))) = pick s ((i : Int) + 1 + 1) := by
      rw [hq, hw]; rfl
    refine Ev.step (f := fun k => trivetref23_Order.l1 k (swapL l (i + 1) (pick s ((i : Int) + 1 + 1)).toNat) (lcg s) (i : Int)) (fun k => ?_) (down n hn i (lcg s) _ (by simp [swapL, hl]) (by omega))
    simp only [trivetref23_Order.l1]
    rw [hp, hw]
    rw [if_pos (by omega), if_neg (by omega), if_pos (by omega), if_pos (by omega), if_pos hb.1, if_pos (by omega), show wrap64 ((((i + 1 : Nat) : Int)) - 1) = (i : Int) from by unfold wrap64; omega]
    have e1 : ((((i + 1 : Nat) : Int))).toNat = i + 1 := by omega
    simp only [swapL, e1, rd]
    rw [show ((pick s ((i : Int) + 1 + 1)).toNat : Int).toNat = (pick s ((i : Int) + 1 + 1)).toNat from by omega]
    rfl

theorem up (n : Nat) (s : Int) (hn : n ≤ 1048576) (d : Nat) : ∀ j : Nat, j ≤ n → n - j = d →
    Ev (fun k => trivetref23_Order.l0 k (n : Int) s ((List.range j).map fun (i : Nat) => (i : Int)) (j : Int)) (growRow n s) := by
  induction d with
  | zero =>
    intro j hj hd
    obtain rfl : j = n := by omega
    have hg : growRow j s = shuf (j - 1) s ((List.range j).map fun (i : Nat) => (i : Int)) := by unfold growRow; rw [if_neg (by omega)]; simp
    rw [hg]
    by_cases h0 : j = 0
    · subst h0
      refine Ev.step (f := fun k => trivetref23_Order.l1 k [] s (-1)) (fun k => ?_) (Ev.step (f := fun _ => some []) (fun k => by simp only [trivetref23_Order.l1]; rw [if_neg (by omega)]) (Ev.now _))
      simp only [trivetref23_Order.l0]
      rw [if_neg (by omega), show wrap64 ((0 : Nat) - 1 : Int) = -1 from by unfold wrap64; omega]
      rfl
    · refine Ev.step (f := fun k => trivetref23_Order.l1 k ((List.range j).map fun (i : Nat) => (i : Int)) s (((j - 1 : Nat)) : Int)) (fun k => ?_) (down j hn (j - 1) s _ (by simp) (by omega))
      simp only [trivetref23_Order.l0]
      rw [if_neg (by omega), show wrap64 ((j : Int) - 1) = ((j - 1 : Nat) : Int) from by unfold wrap64; omega]
  | succ d ih =>
    intro j hj hd
    refine Ev.step (f := fun k => trivetref23_Order.l0 k (n : Int) s ((List.range (j + 1)).map fun (i : Nat) => (i : Int)) ((j + 1 : Nat) : Int)) (fun k => ?_) (ih (j + 1) (by omega) (by omega))
    simp only [trivetref23_Order.l0]
    rw [if_pos (by omega), if_pos (by simp; omega), show wrap64 ((j : Int) + 1) = ((j + 1 : Nat) : Int) from by unfold wrap64; omega, List.range_succ]
    simp

theorem ref_order (n s : Int) : Ev (fun k => trivetref23_Order.f k n s) (growRow n s) := by
  by_cases h : n < 0
  · refine Ev.congr (f := fun k => trivetref23_Order.j0 k n s true) (fun k => by unfold trivetref23_Order.f; rw [if_pos h]) ?_
    refine Ev.step (f := fun _ => some []) (fun k => by simp only [trivetref23_Order.j0]; rw [if_pos trivial]) ?_
    have : growRow n s = [] := by unfold growRow; rw [if_pos (.inl h)]
    rw [this]; exact Ev.now _
  · refine Ev.congr (f := fun k => trivetref23_Order.j0 k n s (decide (n > 1048576))) (fun k => by unfold trivetref23_Order.f; rw [if_neg h]) ?_
    by_cases h2 : n > 1048576
    · refine Ev.step (f := fun _ => some []) (fun k => by simp only [trivetref23_Order.j0]; rw [if_pos (by simpa using h2)]) ?_
      have : growRow n s = [] := by unfold growRow; rw [if_pos (.inr h2)]
      rw [this]; exact Ev.now _
    · obtain ⟨m, rfl⟩ := Int.eq_ofNat_of_zero_le (show 0 ≤ n by omega)
      refine Ev.step (f := fun k => trivetref23_Order.l0 k (m : Int) s [] 0) (fun k => by simp only [trivetref23_Order.j0]; rw [if_neg (by simpa using h2)]) ?_
      exact up m s (by omega) m 0 (by omega) (by omega)

theorem spoil (n s : Int) (r : List Int) (x : Int) (b : Bool) (hb : Ev (fun k => trivetlaw23_GrowOrder.l0 k n s r (wrap64 (x + 1))) b) (d : Nat) : ∀ (l : List Int) (i : Int), l.length ≤ 1048576 → 0 ≤ i → i ≤ l.length → (l.length : Int) - i = d →
    Ev (fun k => trivetlaw23_GrowOrder.l1 k n s r x l i) b := by
  induction d with
  | zero =>
    intro l i hl h0 h1 hd
    exact Ev.step (f := fun k => trivetlaw23_GrowOrder.l0 k n s r (wrap64 (x + 1))) (fun k => by simp only [trivetlaw23_GrowOrder.l1]; rw [if_neg (by omega)]) hb
  | succ d ih =>
    intro l i hl h0 h1 hd
    refine Ev.step (f := fun k => trivetlaw23_GrowOrder.l1 k n s r x (l.set i.toNat (-7)) (i + 1)) (fun k => ?_) (ih _ (i + 1) (by simpa using hl) (by omega) (by simp; omega) (by simp; omega))
    simp only [trivetlaw23_GrowOrder.l1]
    rw [if_pos (by omega), if_pos h0, show wrap64 (i + 1) = i + 1 from by unfold wrap64; omega]

theorem GrowOrder : trivetlaw23_GrowOrder.Pure := by
  intro n s _ hs
  have hs' : 0 ≤ s ∧ s ≤ 18446744073709551615 := by simpa [Lit.wf, IntKind.min, IntKind.max, IntKind.signed, IntKind.bits] using hs
  refine Ev.rounds (r := true) ?_
  have hgo : grow_Order.f n s = some (growRow n s) := by unfold grow_Order.f; rw [if_pos hs'.1, if_pos (by omega)]
  have round (x : Int) (hx : x < 2) (hb : Ev (fun k => trivetlaw23_GrowOrder.l0 k n s (growRow n s) (wrap64 (x + 1))) true) : Ev (fun k => trivetlaw23_GrowOrder.l0 k n s (growRow n s) x) true := by
    refine Ev.step (f := fun k => (trivetref07_Ints.f k (growRow n s) (growRow n s)).bind fun t => if t = true then trivetlaw23_GrowOrder.l1 k n s (growRow n s) x (growRow n s) 0 else some false) (fun k => ?_) ?_
    · simp only [trivetlaw23_GrowOrder.l0]
      rw [if_pos hx, hgo]; rfl
    · refine Ev.bind (ints_same _ (growRow_le n s)) ?_
      refine Ev.congr (f := fun k => trivetlaw23_GrowOrder.l1 k n s (growRow n s) x (growRow n s) 0) (fun k => by rw [if_pos rfl]) ?_
      exact spoil n s _ x true hb _ _ 0 (growRow_le n s) (by omega) (by omega) (Int.sub_zero _)
  have main : Ev (fun k => trivetlaw23_GrowOrder.l0 k n s (growRow n s) 0) true :=
    round 0 (by omega) (by
      rw [show wrap64 (0 + 1) = 1 from by unfold wrap64; omega]
      refine round 1 (by omega) (by
        rw [show wrap64 (1 + 1) = 2 from by unfold wrap64; omega]
        exact Ev.step (f := fun _ => some true) (fun k => by simp only [trivetlaw23_GrowOrder.l0]; rw [if_neg (by omega)]) (Ev.now _)))
  have all (b : Bool) : Ev (fun k => trivetlaw23_GrowOrder.j0 k n s b) true := by
    cases b with
    | true => exact Ev.step (f := fun _ => some true) (fun k => by simp only [trivetlaw23_GrowOrder.j0]; rw [if_pos trivial]) (Ev.now _)
    | false => exact Ev.step (f := fun k => (trivetref23_Order.f k n s).bind fun t => trivetlaw23_GrowOrder.l0 k n s t 0) (fun k => by simp only [trivetlaw23_GrowOrder.j0]; rw [if_neg (by decide)]) (Ev.bind (ref_order n s) main)
  by_cases h : n > 5000
  · exact Ev.congr (fun k => by unfold trivetlaw23_GrowOrder.f; rw [if_pos h]) (all _)
  · exact Ev.congr (fun k => by unfold trivetlaw23_GrowOrder.f; rw [if_neg h]) (all _)

end Go.Proofs.Ythcklcfdeejkpaa.Pure
