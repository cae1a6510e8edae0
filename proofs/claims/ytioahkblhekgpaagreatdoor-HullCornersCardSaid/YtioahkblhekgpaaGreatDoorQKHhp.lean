/- What the proof needs of Hcp, Hhp: only what is used is left (wip/tools/prune.py). Conditions stand in each sentence. -/
import Derived.Deep.RegionHeld3
import Derived.Deep.QuietTactic
import Derived.BigQuiet
import Derived.Test.YtioahkblhekgpaaGreatDoorQKHlb
import Derived.Test.YtioahkblhekgpaaGreatDoorQKGeo
set_option linter.unusedVariables false
set_option linter.unusedSimpArgs false
namespace Go.Proofs.YtioahkblhekgpaaGreatDoor.E
end Go.Proofs.YtioahkblhekgpaaGreatDoor.E
namespace Go.Proofs.YtioahkblhekgpaaGreatDoor.FltP
end Go.Proofs.YtioahkblhekgpaaGreatDoor.FltP
namespace Go.Proofs.YtioahkblhekgpaaGreatDoor.O
end Go.Proofs.YtioahkblhekgpaaGreatDoor.O
namespace Go.Proofs.YtioahkblhekgpaaGreatDoor.R
end Go.Proofs.YtioahkblhekgpaaGreatDoor.R
namespace Go.Proofs.YtioahkblhekgpaaGreatDoorW.PrintLast
end Go.Proofs.YtioahkblhekgpaaGreatDoorW.PrintLast
namespace Go.Proofs.YtioahkblhekgpaaGreatDoorW.PrintMore
end Go.Proofs.YtioahkblhekgpaaGreatDoorW.PrintMore
namespace Go.Proofs.YtioahkblhekgpaaGreatDoorW.PrintWords
end Go.Proofs.YtioahkblhekgpaaGreatDoorW.PrintWords
namespace Go.Proofs.YtioahkblhekgpaaGreatDoor.Adm
open Go.RowKit Go.Proofs.YtioahkblhekgpaaGreatDoor.FltP Go.Proofs.YtioahkblhekgpaaGreatDoor.R Go.Proofs.YtioahkblhekgpaaGreatDoor.E Go.Proofs.YtioahkblhekgpaaGreatDoor.O Go.Proofs.YtioahkblhekgpaaGreatDoorW.PrintWords Go.Proofs.YtioahkblhekgpaaGreatDoorW.PrintLast Go.Proofs.YtioahkblhekgpaaGreatDoorW.PrintMore
end Go.Proofs.YtioahkblhekgpaaGreatDoor.Adm
namespace Go.Proofs.YtioahkblhekgpaaGreatDoor.Geo
def Ep (Q : Pt → Prop) (x y : Pt) : Prop := Q x ∧ Q y ∧ x ≠ y ∧ ∀ c, Q c → 0 ≤ det x y c ∧ (det x y c = 0 → c = x ∨ c = y ∨ Btw x c y)
def AdjP (R : Pt → Pt → Prop) : List Pt → Prop
 | a :: b :: l => R a b ∧ AdjP R (b :: l)
 | _ => True
theorem AdjP.map {R : Nat → Nat → Prop} {T : Pt → Pt → Prop} {P : Nat → Pt} : ∀ {l : List Nat}, (∀ a ∈ l, ∀ b ∈ l, R a b → T (P a) (P b)) → Adj R l → AdjP T (l.map P)
 | [], _, _ => trivial
 | [_], _, _ => trivial
 | a :: b :: l, h, k => ⟨h a (by simp) b (by simp) k.1, AdjP.map (l := b :: l) (fun x hx y hy => h x (List.mem_cons_of_mem _ hx) y (List.mem_cons_of_mem _ hy)) k.2⟩
theorem Ep_unique {Q : Pt → Prop} {a b b' : Pt} (h : Ep Q a b) (h' : Ep Q a b') : b = b' := by
 have k1 := h.2.2.2 b' h'.2.1
 have k2 := h'.2.2.2 b h.2.1
 have k3 := det_swap2 a b b'
 have z1 : det a b b' = 0 := by omega
 have z2 : det a b' b = 0 := by omega
 rcases k1.2 z1 with h1 | h1 | h1
 ·exact absurd h1.symm h'.2.2.1
 ·exact h1.symm
 ·rcases k2.2 z2 with h2 | h2 | h2
  ·exact absurd h2.symm h.2.2.1
  ·exact h2
  ·exfalso
   rcases h1 with ⟨x1, x2⟩ | ⟨x1, x2⟩ <;> rcases h2 with ⟨y1, y2⟩ | ⟨y1, y2⟩
   ·exact x2.asymm y2
   ·exact (x1.trans x2).asymm y2
   ·exact (y1.trans y2).asymm x2
   ·exact x1.asymm y1
theorem pathP_eq {R : Pt → Pt → Prop} {z : Pt} (hR : ∀ a b c, R a b → R a c → b = c) : ∀ (s s' : List Pt) (x : Pt), AdjP R (x :: s ++ [z]) → AdjP R (x :: s' ++ [z]) → z ∉ s → z ∉ s' → s = s'
 | [], [], _, _, _, _, _ => rfl
 | [], y :: s', x, h1, h2, _, n2 => by
  exfalso; exact n2 (by rw [hR x z y h1.1 h2.1]; simp)
 | y :: s, [], x, h1, h2, n1, _ => by
  exfalso; exact n1 (by rw [hR x z y h2.1 h1.1]; simp)
 | y :: s, y' :: s', x, h1, h2, n1, n2 => by
  have : y = y' := hR x y y' h1.1 h2.1
  subst this
  rw [pathP_eq hR s s' y h1.2 h2.2 (fun h => n1 (by simp [h])) (fun h => n2 (by simp [h]))]
def Ring (Q : Pt → Prop) (h : List Pt) : Prop := ∃ x t, h = x :: t ∧ Q x ∧ (∀ q, Q q → q = x ∨ Ahead x q) ∧ AdjP (Ep Q) (x :: t ++ [x]) ∧ x ∉ t
def Corners (Q : Pt → Prop) (h : List Pt) : Prop := ((∀ q, ¬ Q q) ∧ h = []) ∨ (∃ x, Q x ∧ (∀ q, Q q → q = x) ∧ h = [x]) ∨ Ring Q h
theorem least_eq {Q : Pt → Prop} {x y : Pt} (hx : Q x) (hy : Q y) (h : ∀ q, Q q → q = x ∨ Ahead x q) (k : ∀ q, Q q → q = y ∨ Ahead y q) : x = y := by
 rcases h y hy with e | e
 ·exact e.symm
 ·rcases k x hx with f | f
  ·exact f
  ·exact absurd f (fun f => e.asymm f)
end Go.Proofs.YtioahkblhekgpaaGreatDoor.Geo
namespace Go.Proofs.YtioahkblhekgpaaGreatDoor.Adm
open Go.RowKit Go.Proofs.YtioahkblhekgpaaGreatDoor.FltP Go.Proofs.YtioahkblhekgpaaGreatDoor.R Go.Proofs.YtioahkblhekgpaaGreatDoor.E Go.Proofs.YtioahkblhekgpaaGreatDoor.O Go.Proofs.YtioahkblhekgpaaGreatDoorW.PrintWords Go.Proofs.YtioahkblhekgpaaGreatDoorW.PrintLast Go.Proofs.YtioahkblhekgpaaGreatDoorW.PrintMore
def hp (l : List S) : List Geo.Pt := (hullAll l false).map (PT l)
theorem map_getD {α : Type} (f : Nat → α) (d : α) {L : List Nat} {j : Nat} (h : j < L.length) : (L.map f).getD j d = f (L.getD j 0) := by
 rw [List.getD_eq_getElem?_getD, List.getD_eq_getElem?_getD, List.getElem?_map, List.getElem?_eq_getElem h]; rfl
def Q (l : List S) (q : Geo.Pt) : Prop := ∃ i, i < l.length ∧ PT l i = q
theorem ep_of {l : List S} {u : List Nat} (hall : ∀ i, i < l.length → ∃ k ∈ u, PT l k = PT l i) (hu : ∀ y ∈ u, y < l.length) {a b : Nat} (ha : a ∈ u) (hb : b ∈ u) (h : Geo.E (PT l) u a b) : Geo.Ep (Q l) (PT l a) (PT l b) := by
 refine ⟨⟨a, hu a ha, rfl⟩, ⟨b, hu b hb, rfl⟩, h.1, fun c hc => ?_⟩
 obtain ⟨i, hi, rfl⟩ := hc
 obtain ⟨k, hk, e⟩ := hall i hi
 rw [← e]
 exact h.2 k hk
theorem hp_corners {l : List S} (h0 : (allF l).2 = 0) : Geo.Corners (Q l) (hp l) := by
 have ho := orderN_sorted l
 have hu := unl_lt l
 have ha := Geo.unlike_asc (P := PT l) fst_iff ho
 have hall : ∀ i, i < l.length → ∃ k ∈ unlAll l, PT l k = PT l i := fun i hi => by rw [unlAll_eq h0]; exact Geo.unlike_all fst_iff ho hi
 rw [← unlAll_eq h0] at ha
 have hep := fun {a b} (x : a ∈ unlAll l) (y : b ∈ unlAll l) h => ep_of (u := unlAll l) hall hu (a := a) (b := b) x y h
 have hh : hp l = (hullAll l false).map (PT l) := rfl
 have hflat := flat_iff h0
 rw [Geo.allflat_unlike hu hall] at hflat
 unfold hullAll at hh
 rw [if_neg (by omega)] at hh
 generalize unlAll l = u at *
 match u, ha with
 | [], _ =>
  rw [if_pos (by simp)] at hh
  refine .inl ⟨fun q hq => ?_, hh⟩
  obtain ⟨i, hi, -⟩ := hq
  obtain ⟨k, hk, -⟩ := hall i hi
  simp at hk
 | [a], _ =>
  rw [if_pos (by simp)] at hh
  refine .inr (.inl ⟨PT l a, ⟨a, hu a (by simp), rfl⟩, fun q hq => ?_, hh⟩)
  obtain ⟨i, hi, rfl⟩ := hq
  obtain ⟨k, hk, e⟩ := hall i hi
  rw [← e, List.mem_singleton.mp hk]
 | a :: b :: r, ha => 
  have hleast : ∀ q, Q l q → q = PT l a ∨ Geo.Ahead (PT l a) q := fun q hq => by
   obtain ⟨i, hi, rfl⟩ := hq
   obtain ⟨k, hk, e⟩ := hall i hi
   rw [← e]
   rcases List.mem_cons.mp hk with rfl | hk
   ·exact .inl rfl
   ·exact .inr ((List.pairwise_cons.mp ha).1 k hk)
  have hfl : Geo.Flat (PT l) (a :: b :: r) → ∀ z, (a :: b :: r).getLast? = some z → Geo.Ring (Q l) [PT l a, PT l z] := fun hf z hz => by
   have hzm : z ∈ a :: b :: r := List.mem_of_getLast? hz
   have hzr : z ∈ b :: r := by
    have : (b :: r).getLast? = some z := by simpa [List.getLast?_cons] using hz
    exact List.mem_of_getLast? this
   have haz := (List.pairwise_cons.mp ha).1 z hzr
   have hlast : ∀ c ∈ a :: b :: r, c = z ∨ Geo.Ahead (PT l c) (PT l z) := fun c hc => by
    have e := Geo.drop_last_of hz
    rw [e] at hc ha
    rcases List.mem_append.mp hc with h | h
    ·exact .inr ((List.pairwise_append.mp ha).2.2 c h z (by simp))
    ·exact .inl (List.mem_singleton.mp h)
   have hbt : ∀ c ∈ a :: b :: r, PT l c = PT l a ∨ PT l c = PT l z ∨ (Geo.Ahead (PT l a) (PT l c) ∧ Geo.Ahead (PT l c) (PT l z)) := fun c hc => by
    rcases List.mem_cons.mp hc with rfl | h
    ·exact .inl rfl
    ·rcases hlast c hc with rfl | h2
     ·exact .inr (.inl rfl)
     ·exact .inr (.inr ⟨(List.pairwise_cons.mp ha).1 c h, h2⟩)
   have hne := Geo.ahead_ne haz
   refine ⟨PT l a, [PT l z], rfl, ⟨a, hu a (by simp), rfl⟩, hleast, ⟨?_, ?_, trivial⟩, fun h => hne (List.mem_singleton.mp h)⟩
   ·refine hep (by simp) hzm ⟨hne, fun c hc => ⟨by rw [hf a (by simp) z hzm c hc]; exact Int.le_refl _, fun _ => ?_⟩⟩
    rcases hbt c hc with h | h | h
    ·exact .inl h
    ·exact .inr (.inl h)
    ·exact .inr (.inr (.inl h))
   ·refine hep hzm (by simp) ⟨fun h => hne h.symm, fun c hc => ⟨by rw [hf z hzm a (by simp) c hc]; exact Int.le_refl _, fun _ => ?_⟩⟩
    rcases hbt c hc with h | h | h
    ·exact .inr (.inl h)
    ·exact .inl h
    ·exact .inr (.inr (.inr h))
  refine .inr (.inr ?_)
  by_cases h3 : (a :: b :: r).length < 3
  ·rw [if_pos h3] at hh
   have hr : r = [] := List.eq_nil_of_length_eq_zero (by simp at h3; omega)
   subst hr
   rw [hh]
   exact hfl (Geo.flat_few h3) b rfl
  ·rw [if_neg h3] at hh
   by_cases hf : flatAll l = true
   ·rw [if_pos hf, if_neg (by decide)] at hh
    rw [hh]
    obtain ⟨z, hz⟩ : ∃ z, (a :: b :: r).getLast? = some z := ⟨_, List.getLast?_eq_some_getLast (by simp)⟩
    have e : (a :: b :: r).getD ((a :: b :: r).length - 1) 0 = z := by
     rw [List.getLast?_eq_getElem?] at hz
     rw [List.getD_eq_getElem?_getD, hz]; rfl
    rw [e]
    exact hfl (hflat.mp hf) z hz
   ·rw [if_neg hf] at hh
    obtain ⟨t, e1, e2, e3⟩ := Geo.ring_spec (P := PT l) (e := false) ha (by simp)
    rw [e1] at hh
    rw [hh]
    have hm : ∀ x ∈ a :: t ++ [a], x ∈ a :: b :: r := fun x hx => by
     rcases List.mem_append.mp hx with hx | hx
     ·rcases List.mem_cons.mp hx with rfl | hx
      ·simp
      ·exact (e3 x hx).1
     ·rw [List.mem_singleton.mp hx]; simp
    refine ⟨PT l a, t.map (PT l), rfl, ⟨a, hu a (by simp), rfl⟩, hleast, ?_, fun h => ?_⟩
    ·have := Geo.AdjP.map (T := Geo.Ep (Q l)) (P := PT l) (fun x hx y hy h => hep (hm x hx) (hm y hy) h) e2
     simpa using this
    ·obtain ⟨x, hx, e⟩ := List.mem_map.mp h
     exact Geo.ahead_ne (e3 x hx).2 e.symm
end Go.Proofs.YtioahkblhekgpaaGreatDoor.Adm
namespace Go.Proofs.YtioahkblhekgpaaGreatDoor.Geo
theorem wrap_getD {α : Type} (x : α) (t : List α) (d : α) {j : Nat} (hj : j < (x :: t).length) : (x :: t ++ [x]).getD j d = (x :: t).getD j d ∧ (x :: t ++ [x]).getD (j + 1) d = (x :: t).getD ((j + 1) % (x :: t).length) d := by
 refine ⟨?_, ?_⟩
 ·rw [List.getD_eq_getElem?_getD, List.getD_eq_getElem?_getD, List.getElem?_append_left hj]
 ·rcases Nat.lt_or_ge (j + 1) (x :: t).length with h | h
  ·rw [Nat.mod_eq_of_lt h, List.getD_eq_getElem?_getD, List.getD_eq_getElem?_getD, List.getElem?_append_left h]
  ·have e : j + 1 = (x :: t).length := by omega
   rw [e, Nat.mod_self, List.getD_eq_getElem?_getD, List.getElem?_append_right (Nat.le_refl _), Nat.sub_self]
   rfl
theorem adjP_at {R : Pt → Pt → Prop} : ∀ {l : List Pt} {j : Nat}, AdjP R l → j + 1 < l.length → R (l.getD j (0, 0)) (l.getD (j + 1) (0, 0))
 | [], _, _, h => absurd h (by simp)
 | [_], _, _, h => absurd h (by simp)
 | _ :: _ :: _, 0, h, _ => h.1
 | _ :: b :: l, j + 1, h, k => adjP_at (l := b :: l) (j := j) h.2 (by simpa using k)
theorem adjP_drop {R : Pt → Pt → Prop} : ∀ (x y : List Pt), AdjP R (x ++ y) → AdjP R y
 | [], _, h => h
 | [_], [], _ => trivial
 | [_], _ :: _, h => h.2
 | _ :: b :: x, y, h => adjP_drop (b :: x) y h.2
theorem pathP_nodup {R : Pt → Pt → Prop} {z : Pt} (hR : ∀ a b c, R a b → R a c → b = c) : ∀ (s : List Pt), (∃ x, AdjP R (x :: s ++ [z])) → z ∉ s → s.Nodup
 | [], _, _ => List.nodup_nil
 | y :: s, ⟨x, h⟩, hz => by
  refine List.nodup_cons.mpr ⟨fun hy => ?_, pathP_nodup hR s ⟨y, h.2⟩ (fun hm => hz (by simp [hm]))⟩
  obtain ⟨s1, s2, rfl⟩ := List.append_of_mem hy
  have h2 : AdjP R (y :: s2 ++ [z]) := adjP_drop (y :: s1) _ (by simpa using h.2)
  have := pathP_eq hR _ _ y h.2 h2 (fun hm => hz (List.mem_cons_of_mem _ hm)) (fun hm => hz (by simp [hm]))
  have := congrArg List.length this
  simp at this
  omega
theorem Ring.nodup {Q : Pt → Prop} {h : List Pt} (r : Ring Q h) : h.Nodup := by
 obtain ⟨x, t, rfl, -, -, ha, hn⟩ := r
 exact List.nodup_cons.mpr ⟨hn, pathP_nodup (R := Ep Q) (fun a b c => Ep_unique) t ⟨x, ha⟩ hn⟩
theorem Ring.at {Q : Pt → Prop} {h : List Pt} (r : Ring Q h) {j : Nat} (hj : j < h.length) : Ep Q (h.getD j (0, 0)) (h.getD ((j + 1) % h.length) (0, 0)) := by
 obtain ⟨x, t, rfl, -, -, ha, -⟩ := r
 obtain ⟨e1, e2⟩ := wrap_getD x t ((0, 0) : Pt) hj
 rw [← e1, ← e2]
 exact adjP_at ha (by simp at hj ⊢; omega)
theorem Ring.len {Q : Pt → Prop} {h : List Pt} (r : Ring Q h) : 2 ≤ h.length := by
 obtain ⟨x, t, rfl, -, -, ha, -⟩ := r
 cases t with
 | nil => exact absurd rfl ha.1.2.2.1
 | cons y t => simp
end Go.Proofs.YtioahkblhekgpaaGreatDoor.Geo
namespace Go.Proofs.YtioahkblhekgpaaGreatDoor.Adm
open Go.RowKit Go.Proofs.YtioahkblhekgpaaGreatDoor.FltP Go.Proofs.YtioahkblhekgpaaGreatDoor.R Go.Proofs.YtioahkblhekgpaaGreatDoor.E Go.Proofs.YtioahkblhekgpaaGreatDoor.O Go.Proofs.YtioahkblhekgpaaGreatDoorW.PrintWords Go.Proofs.YtioahkblhekgpaaGreatDoorW.PrintLast Go.Proofs.YtioahkblhekgpaaGreatDoorW.PrintMore
theorem hp_len (l : List S) : (hp l).length = (hullAll l false).length := List.length_map ..
theorem hp_ring {l : List S} (h0 : (allF l).2 = 0) (h2 : 2 ≤ (hullAll l false).length) : Geo.Ring (Q l) (hp l) := by
 rcases hp_corners h0 with ⟨-, e⟩ | ⟨x, -, -, e⟩ | r
 ·have := congrArg List.length e; rw [hp_len] at this; simp only [List.length_nil, List.length_cons] at this; omega
 ·have := congrArg List.length e; rw [hp_len] at this; simp only [List.length_nil, List.length_cons] at this; omega
 ·exact r
theorem rim_spread {l : List S} (h0 : (allF l).2 = 0) (h3 : 2 < (hullAll l false).length) : ∃ u0 t, hullAll l false = u0 :: t ∧ hullAll l true ++ [u0] = Geo.spread (PT l) (unlAll l) (u0 :: t ++ [u0]) ∧ (hullAll l true).Nodup ∧ u0 ∈ hullAll l true := by
 have ho := orderN_sorted l
 have ha := Geo.unlike_asc (P := PT l) fst_iff ho
 rw [← unlAll_eq h0] at ha
 have hall : ∀ i, i < l.length → ∃ k ∈ unlAll l, PT l k = PT l i := fun i hi => by rw [unlAll_eq h0]; exact Geo.unlike_all fst_iff ho hi
 have hu := unl_lt l
 have hflat := flat_iff h0
 rw [Geo.allflat_unlike hu hall] at hflat
 have hs : ¬ (unlAll l).length < 3 := fun h => by unfold hullAll at h3; rw [if_neg (by omega), if_pos h] at h3; omega
 have hf : ¬ flatAll l = true := fun h => by unfold hullAll at h3; rw [if_neg (by omega), if_neg hs, if_pos h, if_neg (by decide)] at h3; simp at h3
 have e1 : ∀ ed, hullAll l ed = Geo.ring (PT l) ed (unlAll l) := fun ed => by unfold hullAll; rw [if_neg (by omega), if_neg hs, if_neg hf]
 have hnf : ¬ Geo.Flat (PT l) (unlAll l) := fun h => hf (hflat.mpr h)
 rw [e1, e1]
 generalize unlAll l = u at *
 match u, ha, hs with
 | [], _, hs => exact absurd (by simp) hs
 | [a], _, hs => exact absurd (by simp) hs
 | a :: b :: r, ha, hs =>
  obtain ⟨t, r1, r2, r3⟩ := Geo.ring_spec (P := PT l) (e := false) ha (by simp)
  obtain ⟨s, s1, s2, s3⟩ := Geo.ring_spec (P := PT l) (e := true) ha (by simp)
  have n1 : a ∉ s := fun h => Geo.Ahead.irrefl _ (s3 a h).2
  refine ⟨a, t, r1, ?_, ?_, by rw [s1]; simp⟩
  ·exact Geo.ring_rim ha hnf (fun x hx => (r3 x hx).1) (fun h => Geo.Ahead.irrefl _ (r3 a h).2) r2
  ·rw [s1]
   have m1 : ∀ x ∈ a :: s ++ [a], x ∈ a :: b :: r := fun x hx => by
    rcases List.mem_append.mp hx with hx | hx
    ·rcases List.mem_cons.mp hx with rfl | hx
     ·simp
     ·exact (s3 x hx).1
    ·rw [List.mem_singleton.mp hx]; simp
   have hR : ∀ x y z, (Geo.Er (PT l) (a :: b :: r) x y ∧ y ∈ a :: b :: r) → (Geo.Er (PT l) (a :: b :: r) x z ∧ z ∈ a :: b :: r) → y = z := fun x y z h1 h2 => Geo.asc_inj ha h1.2 h2.2 (Geo.Er_unique hnf h1.1 h2.1 h1.2 h2.2)
   have A1 : Geo.Adj (fun x y => Geo.Er (PT l) (a :: b :: r) x y ∧ y ∈ a :: b :: r) (a :: s ++ [a]) := Geo.Adj.mono (fun x _ y hy h => ⟨h, m1 y hy⟩) s2
   exact List.nodup_cons.mpr ⟨n1, Geo.path_nodup hR s ⟨a, A1⟩ n1⟩
theorem asc_nodup {P : Nat → Geo.Pt} {u : List Nat} (h : Geo.Asc P u) : u.Nodup := h.imp fun {a b} hab he => by rw [he] at hab; exact Geo.Ahead.irrefl _ hab
end Go.Proofs.YtioahkblhekgpaaGreatDoor.Adm
