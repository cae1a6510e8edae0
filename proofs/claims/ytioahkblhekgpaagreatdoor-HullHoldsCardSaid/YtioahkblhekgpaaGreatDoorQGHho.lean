/- What the proof needs of Hcp, Hhp, Hho: only what is used is left (wip/tools/prune.py). Conditions stand in each sentence. -/
import Derived.Laws.MakeOwn
import Derived.Test.YtioahkblhekgpaaGreatDoorQGHct
import Derived.Test.YtioahkblhekgpaaGreatDoorQGGeo
set_option linter.unusedVariables false
set_option linter.unusedSimpArgs false
namespace Go.Proofs.YtioahkblhekgpaaGreatDoor.E
end Go.Proofs.YtioahkblhekgpaaGreatDoor.E
namespace Go.Proofs.YtioahkblhekgpaaGreatDoor.FltP
end Go.Proofs.YtioahkblhekgpaaGreatDoor.FltP
namespace Go.Proofs.YtioahkblhekgpaaGreatDoor.O
end Go.Proofs.YtioahkblhekgpaaGreatDoor.O
namespace Go.Proofs.YtioahkblhekgpaaGreatDoor.R
end Go.Proofs.YtioahkblhekgpaaGreatDoor.R
namespace Go.Proofs.YtioahkblhekgpaaGreatDoorW.PrintLast
end Go.Proofs.YtioahkblhekgpaaGreatDoorW.PrintLast
namespace Go.Proofs.YtioahkblhekgpaaGreatDoorW.PrintMore
end Go.Proofs.YtioahkblhekgpaaGreatDoorW.PrintMore
namespace Go.Proofs.YtioahkblhekgpaaGreatDoorW.PrintWords
end Go.Proofs.YtioahkblhekgpaaGreatDoorW.PrintWords
namespace Go.Proofs.YtioahkblhekgpaaGreatDoor.Adm
open Go.RowKit Go.Proofs.YtioahkblhekgpaaGreatDoor.FltP Go.Proofs.YtioahkblhekgpaaGreatDoor.R Go.Proofs.YtioahkblhekgpaaGreatDoor.E Go.Proofs.YtioahkblhekgpaaGreatDoor.O Go.Proofs.YtioahkblhekgpaaGreatDoorW.PrintWords Go.Proofs.YtioahkblhekgpaaGreatDoorW.PrintLast Go.Proofs.YtioahkblhekgpaaGreatDoorW.PrintMore
end Go.Proofs.YtioahkblhekgpaaGreatDoor.Adm
namespace Go.Proofs.YtioahkblhekgpaaGreatDoor.Geo
def Ep (Q : Pt → Prop) (x y : Pt) : Prop := Q x ∧ Q y ∧ x ≠ y ∧ ∀ c, Q c → 0 ≤ det x y c ∧ (det x y c = 0 → c = x ∨ c = y ∨ Btw x c y)
def AdjP (R : Pt → Pt → Prop) : List Pt → Prop
  | a :: b :: l => R a b ∧ AdjP R (b :: l)
  | _ => True
theorem AdjP.map {R : Nat → Nat → Prop} {T : Pt → Pt → Prop} {P : Nat → Pt} : ∀ {l : List Nat}, (∀ a ∈ l, ∀ b ∈ l, R a b → T (P a) (P b)) → Adj R l → AdjP T (l.map P)
  | [], _, _ => trivial
  | [_], _, _ => trivial
  | a :: b :: l, h, k => ⟨h a (by simp) b (by simp) k.1, AdjP.map (l := b :: l) (fun x hx y hy => h x (List.mem_cons_of_mem _ hx) y (List.mem_cons_of_mem _ hy)) k.2⟩
theorem Ep_unique {Q : Pt → Prop} {a b b' : Pt} (h : Ep Q a b) (h' : Ep Q a b') : b = b' := by
  have k1 := h.2.2.2 b' h'.2.1
  have k2 := h'.2.2.2 b h.2.1
  have k3 := det_swap2 a b b'
  have z1 : det a b b' = 0 := by omega
  have z2 : det a b' b = 0 := by omega
  rcases k1.2 z1 with h1 | h1 | h1
  · exact absurd h1.symm h'.2.2.1
  · exact h1.symm
  · rcases k2.2 z2 with h2 | h2 | h2
    · exact absurd h2.symm h.2.2.1
    · exact h2
    · exfalso
      rcases h1 with ⟨x1, x2⟩ | ⟨x1, x2⟩ <;> rcases h2 with ⟨y1, y2⟩ | ⟨y1, y2⟩
      · exact x2.asymm y2
      · exact (x1.trans x2).asymm y2
      · exact (y1.trans y2).asymm x2
      · exact x1.asymm y1
theorem pathP_eq {R : Pt → Pt → Prop} {z : Pt} (hR : ∀ a b c, R a b → R a c → b = c) : ∀ (s s' : List Pt) (x : Pt), AdjP R (x :: s ++ [z]) → AdjP R (x :: s' ++ [z]) → z ∉ s → z ∉ s' → s = s'
  | [], [], _, _, _, _, _ => rfl
  | [], y :: s', x, h1, h2, _, n2 => by
    exfalso; exact n2 (by rw [hR x z y h1.1 h2.1]; simp)
  | y :: s, [], x, h1, h2, n1, _ => by
    exfalso; exact n1 (by rw [hR x z y h2.1 h1.1]; simp)
  | y :: s, y' :: s', x, h1, h2, n1, n2 => by
    have : y = y' := hR x y y' h1.1 h2.1
    subst this
    rw [pathP_eq hR s s' y h1.2 h2.2 (fun h => n1 (by simp [h])) (fun h => n2 (by simp [h]))]
def Ring (Q : Pt → Prop) (h : List Pt) : Prop := ∃ x t, h = x :: t ∧ Q x ∧ (∀ q, Q q → q = x ∨ Ahead x q) ∧ AdjP (Ep Q) (x :: t ++ [x]) ∧ x ∉ t
def Corners (Q : Pt → Prop) (h : List Pt) : Prop := ((∀ q, ¬ Q q) ∧ h = []) ∨ (∃ x, Q x ∧ (∀ q, Q q → q = x) ∧ h = [x]) ∨ Ring Q h
end Go.Proofs.YtioahkblhekgpaaGreatDoor.Geo
namespace Go.Proofs.YtioahkblhekgpaaGreatDoor.Adm
open Go.RowKit Go.Proofs.YtioahkblhekgpaaGreatDoor.FltP Go.Proofs.YtioahkblhekgpaaGreatDoor.R Go.Proofs.YtioahkblhekgpaaGreatDoor.E Go.Proofs.YtioahkblhekgpaaGreatDoor.O Go.Proofs.YtioahkblhekgpaaGreatDoorW.PrintWords Go.Proofs.YtioahkblhekgpaaGreatDoorW.PrintLast Go.Proofs.YtioahkblhekgpaaGreatDoorW.PrintMore
theorem eqP_fin {x y : S} (x0 : Fini x.f0) (x1 : Fini x.f1) (y0 : Fini y.f0) (y1 : Fini y.f1) : eqP x y = decide (pt x = pt y) := by
  unfold eqP eqF pt
  rw [eq_fin x0 y0, eq_fin x1 y1, Bool.eq_iff_iff, Bool.and_eq_true, decide_eq_true_iff, decide_eq_true_iff, decide_eq_true_iff, Prod.mk.injEq]
def hp (l : List S) : List Geo.Pt := (hullAll l false).map (PT l)
theorem map_getD {α : Type} (f : Nat → α) (d : α) {L : List Nat} {j : Nat} (h : j < L.length) : (L.map f).getD j d = f (L.getD j 0) := by
  rw [List.getD_eq_getElem?_getD, List.getD_eq_getElem?_getD, List.getElem?_map, List.getElem?_eq_getElem h]; rfl
def Q (l : List S) (q : Geo.Pt) : Prop := ∃ i, i < l.length ∧ PT l i = q
theorem ep_of {l : List S} {u : List Nat} (hall : ∀ i, i < l.length → ∃ k ∈ u, PT l k = PT l i) (hu : ∀ y ∈ u, y < l.length) {a b : Nat} (ha : a ∈ u) (hb : b ∈ u) (h : Geo.E (PT l) u a b) : Geo.Ep (Q l) (PT l a) (PT l b) := by
  refine ⟨⟨a, hu a ha, rfl⟩, ⟨b, hu b hb, rfl⟩, h.1, fun c hc => ?_⟩
  obtain ⟨i, hi, rfl⟩ := hc
  obtain ⟨k, hk, e⟩ := hall i hi
  rw [← e]
  exact h.2 k hk
theorem hp_corners {l : List S} (h0 : (allF l).2 = 0) : Geo.Corners (Q l) (hp l) := by
  have ho := orderN_sorted l
  have hu := unl_lt l
  have ha := Geo.unlike_asc (P := PT l) fst_iff ho
  have hall : ∀ i, i < l.length → ∃ k ∈ unlAll l, PT l k = PT l i := fun i hi => by rw [unlAll_eq h0]; exact Geo.unlike_all fst_iff ho hi
  rw [← unlAll_eq h0] at ha
  have hep := fun {a b} (x : a ∈ unlAll l) (y : b ∈ unlAll l) h => ep_of (u := unlAll l) hall hu (a := a) (b := b) x y h
  have hh : hp l = (hullAll l false).map (PT l) := rfl
  have hflat := flat_iff h0
  rw [Geo.allflat_unlike hu hall] at hflat
  unfold hullAll at hh
  rw [if_neg (by omega)] at hh
  generalize unlAll l = u at *
  match u, ha with
  | [], _ =>
    rw [if_pos (by simp)] at hh
    refine .inl ⟨fun q hq => ?_, hh⟩
    obtain ⟨i, hi, -⟩ := hq
    obtain ⟨k, hk, -⟩ := hall i hi
    simp at hk
  | [a], _ =>
    rw [if_pos (by simp)] at hh
    refine .inr (.inl ⟨PT l a, ⟨a, hu a (by simp), rfl⟩, fun q hq => ?_, hh⟩)
    obtain ⟨i, hi, rfl⟩ := hq
    obtain ⟨k, hk, e⟩ := hall i hi
    rw [← e, List.mem_singleton.mp hk]
  | a :: b :: r, ha => 
    have hleast : ∀ q, Q l q → q = PT l a ∨ Geo.Ahead (PT l a) q := fun q hq => by
      obtain ⟨i, hi, rfl⟩ := hq
      obtain ⟨k, hk, e⟩ := hall i hi
      rw [← e]
      rcases List.mem_cons.mp hk with rfl | hk
      · exact .inl rfl
      · exact .inr ((List.pairwise_cons.mp ha).1 k hk)
    have hfl : Geo.Flat (PT l) (a :: b :: r) → ∀ z, (a :: b :: r).getLast? = some z → Geo.Ring (Q l) [PT l a, PT l z] := fun hf z hz => by
      have hzm : z ∈ a :: b :: r := List.mem_of_getLast? hz
      have hzr : z ∈ b :: r := by
        have : (b :: r).getLast? = some z := by simpa [List.getLast?_cons] using hz
        exact List.mem_of_getLast? this
      have haz := (List.pairwise_cons.mp ha).1 z hzr
      have hlast : ∀ c ∈ a :: b :: r, c = z ∨ Geo.Ahead (PT l c) (PT l z) := fun c hc => by
        have e := Geo.drop_last_of hz
        rw [e] at hc ha
        rcases List.mem_append.mp hc with h | h
        · exact .inr ((List.pairwise_append.mp ha).2.2 c h z (by simp))
        · exact .inl (List.mem_singleton.mp h)
      have hbt : ∀ c ∈ a :: b :: r, PT l c = PT l a ∨ PT l c = PT l z ∨ (Geo.Ahead (PT l a) (PT l c) ∧ Geo.Ahead (PT l c) (PT l z)) := fun c hc => by
        rcases List.mem_cons.mp hc with rfl | h
        · exact .inl rfl
        · rcases hlast c hc with rfl | h2
          · exact .inr (.inl rfl)
          · exact .inr (.inr ⟨(List.pairwise_cons.mp ha).1 c h, h2⟩)
      have hne := Geo.ahead_ne haz
      refine ⟨PT l a, [PT l z], rfl, ⟨a, hu a (by simp), rfl⟩, hleast, ⟨?_, ?_, trivial⟩, fun h => hne (List.mem_singleton.mp h)⟩
      · refine hep (by simp) hzm ⟨hne, fun c hc => ⟨by rw [hf a (by simp) z hzm c hc]; exact Int.le_refl _, fun _ => ?_⟩⟩
        rcases hbt c hc with h | h | h
        · exact .inl h
        · exact .inr (.inl h)
        · exact .inr (.inr (.inl h))
      · refine hep hzm (by simp) ⟨fun h => hne h.symm, fun c hc => ⟨by rw [hf z hzm a (by simp) c hc]; exact Int.le_refl _, fun _ => ?_⟩⟩
        rcases hbt c hc with h | h | h
        · exact .inr (.inl h)
        · exact .inl h
        · exact .inr (.inr (.inr h))
    refine .inr (.inr ?_)
    by_cases h3 : (a :: b :: r).length < 3
    · rw [if_pos h3] at hh
      have hr : r = [] := List.eq_nil_of_length_eq_zero (by simp at h3; omega)
      subst hr
      rw [hh]
      exact hfl (Geo.flat_few h3) b rfl
    · rw [if_neg h3] at hh
      by_cases hf : flatAll l = true
      · rw [if_pos hf, if_neg (by decide)] at hh
        rw [hh]
        obtain ⟨z, hz⟩ : ∃ z, (a :: b :: r).getLast? = some z := ⟨_, List.getLast?_eq_some_getLast (by simp)⟩
        have e : (a :: b :: r).getD ((a :: b :: r).length - 1) 0 = z := by
          rw [List.getLast?_eq_getElem?] at hz
          rw [List.getD_eq_getElem?_getD, hz]; rfl
        rw [e]
        exact hfl (hflat.mp hf) z hz
      · rw [if_neg hf] at hh
        obtain ⟨t, e1, e2, e3⟩ := Geo.ring_spec (P := PT l) (e := false) ha (by simp)
        rw [e1] at hh
        rw [hh]
        have hm : ∀ x ∈ a :: t ++ [a], x ∈ a :: b :: r := fun x hx => by
          rcases List.mem_append.mp hx with hx | hx
          · rcases List.mem_cons.mp hx with rfl | hx
            · simp
            · exact (e3 x hx).1
          · rw [List.mem_singleton.mp hx]; simp
        refine ⟨PT l a, t.map (PT l), rfl, ⟨a, hu a (by simp), rfl⟩, hleast, ?_, fun h => ?_⟩
        · have := Geo.AdjP.map (T := Geo.Ep (Q l)) (P := PT l) (fun x hx y hy h => hep (hm x hx) (hm y hy) h) e2
          simpa using this
        · obtain ⟨x, hx, e⟩ := List.mem_map.mp h
          exact Geo.ahead_ne (e3 x hx).2 e.symm
end Go.Proofs.YtioahkblhekgpaaGreatDoor.Adm
namespace Go.Proofs.YtioahkblhekgpaaGreatDoor.Geo
theorem wrap_getD {α : Type} (x : α) (t : List α) (d : α) {j : Nat} (hj : j < (x :: t).length) : (x :: t ++ [x]).getD j d = (x :: t).getD j d ∧ (x :: t ++ [x]).getD (j + 1) d = (x :: t).getD ((j + 1) % (x :: t).length) d := by
  refine ⟨?_, ?_⟩
  · rw [List.getD_eq_getElem?_getD, List.getD_eq_getElem?_getD, List.getElem?_append_left hj]
  · rcases Nat.lt_or_ge (j + 1) (x :: t).length with h | h
    · rw [Nat.mod_eq_of_lt h, List.getD_eq_getElem?_getD, List.getD_eq_getElem?_getD, List.getElem?_append_left h]
    · have e : j + 1 = (x :: t).length := by omega
      rw [e, Nat.mod_self, List.getD_eq_getElem?_getD, List.getElem?_append_right (Nat.le_refl _), Nat.sub_self]
      rfl
theorem adjP_at {R : Pt → Pt → Prop} : ∀ {l : List Pt} {j : Nat}, AdjP R l → j + 1 < l.length → R (l.getD j (0, 0)) (l.getD (j + 1) (0, 0))
  | [], _, _, h => absurd h (by simp)
  | [_], _, _, h => absurd h (by simp)
  | _ :: _ :: _, 0, h, _ => h.1
  | _ :: b :: l, j + 1, h, k => adjP_at (l := b :: l) (j := j) h.2 (by simpa using k)
theorem adjP_drop {R : Pt → Pt → Prop} : ∀ (x y : List Pt), AdjP R (x ++ y) → AdjP R y
  | [], _, h => h
  | [_], [], _ => trivial
  | [_], _ :: _, h => h.2
  | _ :: b :: x, y, h => adjP_drop (b :: x) y h.2
theorem pathP_nodup {R : Pt → Pt → Prop} {z : Pt} (hR : ∀ a b c, R a b → R a c → b = c) : ∀ (s : List Pt), (∃ x, AdjP R (x :: s ++ [z])) → z ∉ s → s.Nodup
  | [], _, _ => List.nodup_nil
  | y :: s, ⟨x, h⟩, hz => by
    refine List.nodup_cons.mpr ⟨fun hy => ?_, pathP_nodup hR s ⟨y, h.2⟩ (fun hm => hz (by simp [hm]))⟩
    obtain ⟨s1, s2, rfl⟩ := List.append_of_mem hy
    have h2 : AdjP R (y :: s2 ++ [z]) := adjP_drop (y :: s1) _ (by simpa using h.2)
    have := pathP_eq hR _ _ y h.2 h2 (fun hm => hz (List.mem_cons_of_mem _ hm)) (fun hm => hz (by simp [hm]))
    have := congrArg List.length this
    simp at this
    omega
theorem Ring.nodup {Q : Pt → Prop} {h : List Pt} (r : Ring Q h) : h.Nodup := by
  obtain ⟨x, t, rfl, -, -, ha, hn⟩ := r
  exact List.nodup_cons.mpr ⟨hn, pathP_nodup (R := Ep Q) (fun a b c => Ep_unique) t ⟨x, ha⟩ hn⟩
theorem Ring.at {Q : Pt → Prop} {h : List Pt} (r : Ring Q h) {j : Nat} (hj : j < h.length) : Ep Q (h.getD j (0, 0)) (h.getD ((j + 1) % h.length) (0, 0)) := by
  obtain ⟨x, t, rfl, -, -, ha, -⟩ := r
  obtain ⟨e1, e2⟩ := wrap_getD x t ((0, 0) : Pt) hj
  rw [← e1, ← e2]
  exact adjP_at ha (by simp at hj ⊢; omega)
theorem Ring.len {Q : Pt → Prop} {h : List Pt} (r : Ring Q h) : 2 ≤ h.length := by
  obtain ⟨x, t, rfl, -, -, ha, -⟩ := r
  cases t with
  | nil => exact absurd rfl ha.1.2.2.1
  | cons y t => simp
theorem Ring.turn {Q : Pt → Prop} {h : List Pt} (r : Ring Q h) (h3 : 2 < h.length) {j : Nat} (hj : j < h.length) : 0 < det (h.getD j (0, 0)) (h.getD ((j + 1) % h.length) (0, 0)) (h.getD ((j + 2) % h.length) (0, 0)) := by
  have k1 : (j + 1) % h.length < h.length := Nat.mod_lt _ (by omega)
  have k2 : (j + 2) % h.length < h.length := Nat.mod_lt _ (by omega)
  have e1 := r.at hj
  have e2 := r.at k1
  rw [show ((j + 1) % h.length + 1) % h.length = (j + 2) % h.length by rw [Nat.mod_add_mod]] at e2
  have hne : h.getD j (0, 0) ≠ h.getD ((j + 2) % h.length) (0, 0) := fun e => by
    rw [List.getD_eq_getElem?_getD, List.getD_eq_getElem?_getD, List.getElem?_eq_getElem hj, List.getElem?_eq_getElem k2] at e
    have := (List.getElem_inj r.nodup).mp (show h[j] = h[(j + 2) % h.length] from e)
    rcases Nat.lt_or_ge (j + 2) h.length with q | q
    · rw [Nat.mod_eq_of_lt q] at this; omega
    · rw [Nat.mod_eq_sub_mod q, Nat.mod_eq_of_lt (by omega)] at this; omega
  generalize h.getD j (0, 0) = a at *
  generalize h.getD ((j + 1) % h.length) (0, 0) = b at *
  generalize h.getD ((j + 2) % h.length) (0, 0) = c at *
  obtain ⟨n1, n2⟩ := e1.2.2.2 c e2.2.1
  obtain ⟨m1, m2⟩ := e2.2.2.2 a e1.1
  rcases Int.lt_or_eq_of_le n1 with q | q
  · exact q
  · exfalso
    rcases n2 q.symm with k | k | k
    · exact hne k.symm
    · exact e2.2.2.1 k.symm
    · rcases m2 (by rw [← det_rot]; exact q.symm) with k' | k' | k'
      · exact e1.2.2.1 k'
      · exact hne k'
      · rcases k with ⟨x1, x2⟩ | ⟨x1, x2⟩ <;> rcases k' with ⟨y1, y2⟩ | ⟨y1, y2⟩
        · exact (x1.trans x2).asymm y1
        · exact x1.asymm y1
        · exact x2.asymm y2
        · exact (x1.trans x2).asymm y2
theorem spread_iff {P : Nat → Pt} {u : List Nat} {y : Nat} : ∀ (L : List Nat), y ∈ spread P u L ↔ y ∈ L ∨ ∃ j, j + 1 < L.length ∧ y ∈ fill P u (L.getD j 0) (L.getD (j + 1) 0)
  | [] => by simp [spread]
  | [a] => by simp [spread]
  | a :: b :: l => by
    rw [spread, List.mem_append, List.mem_cons, spread_iff (b :: l), List.mem_cons (a := y) (b := a)]
    constructor
    · rintro ((h | h) | (h | ⟨j, h1, h2⟩))
      · exact .inl (.inl h)
      · exact .inr ⟨0, by simp, h⟩
      · exact .inl (.inr h)
      · exact .inr ⟨j + 1, by simpa using h1, h2⟩
    · rintro ((h | h) | ⟨j, h1, h2⟩)
      · exact .inl (.inl h)
      · exact .inr (.inl h)
      · cases j with
        | zero => exact .inl (.inr h2)
        | succ j => exact .inr (.inr ⟨j, by simpa using h1, h2⟩)
theorem fill_iff {P : Nat → Pt} {u : List Nat} {a b x : Nat} : x ∈ fill P u a b ↔ x ∈ u ∧ det (P a) (P b) (P x) = 0 ∧ Btw (P a) (P x) (P b) := by
  rw [← inside_iff, ← List.mem_filter]
  unfold fill
  split <;> simp
end Go.Proofs.YtioahkblhekgpaaGreatDoor.Geo
namespace Go.Proofs.YtioahkblhekgpaaGreatDoor.Adm
open Go.RowKit Go.Proofs.YtioahkblhekgpaaGreatDoor.FltP Go.Proofs.YtioahkblhekgpaaGreatDoor.R Go.Proofs.YtioahkblhekgpaaGreatDoor.E Go.Proofs.YtioahkblhekgpaaGreatDoor.O Go.Proofs.YtioahkblhekgpaaGreatDoorW.PrintWords Go.Proofs.YtioahkblhekgpaaGreatDoorW.PrintLast Go.Proofs.YtioahkblhekgpaaGreatDoorW.PrintMore
theorem nxt_at {l : List S} {h : List Nat} {j : Nat} (hj : j < h.length) : pt (at_ l (nxt h j)) = (h.map (PT l)).getD ((j + 1) % (h.map (PT l)).length) (0, 0) := by
  unfold nxt
  rw [List.length_map, map_getD (PT l) (0, 0) (Nat.mod_lt _ (by omega))]
  rfl
theorem hit_iff {l : List S} {p : S} {h : List Nat} {j : Nat} (hj : j < h.length) : hit l p h j = true ↔ (h.map (PT l)).getD j (0, 0) = pt p := by
  unfold hit
  rw [decide_eq_true_iff, map_getD (PT l) (0, 0) hj]
  rfl
theorem onE_iff {l : List S} {p : S} {h : List Nat} {j : Nat} (hj : j < h.length) : onE l p h j = true ↔ Geo.det ((h.map (PT l)).getD j (0, 0)) ((h.map (PT l)).getD ((j + 1) % (h.map (PT l)).length) (0, 0)) (pt p) = 0 ∧ Geo.within ((h.map (PT l)).getD j (0, 0)).1 ((h.map (PT l)).getD ((j + 1) % (h.map (PT l)).length) (0, 0)).1 (pt p).1 ∧ Geo.within ((h.map (PT l)).getD j (0, 0)).2 ((h.map (PT l)).getD ((j + 1) % (h.map (PT l)).length) (0, 0)).2 (pt p).2 := by
  unfold onE onS sgnS
  rw [← nxt_at hj, map_getD (PT l) (0, 0) hj, Bool.and_eq_true, Bool.and_eq_true, decide_eq_true_iff, decide_eq_true_iff, decide_eq_true_iff, Int.sign_eq_zero_iff_zero]
  rfl
theorem lfE_iff {l : List S} {p : S} {h : List Nat} {j : Nat} (hj : j < h.length) : lfE l p h j = true ↔ 0 < Geo.det ((h.map (PT l)).getD j (0, 0)) ((h.map (PT l)).getD ((j + 1) % (h.map (PT l)).length) (0, 0)) (pt p) := by
  unfold lfE sgnS
  rw [← nxt_at hj, map_getD (PT l) (0, 0) hj, decide_eq_true_iff, Int.sign_eq_one_iff_pos]
  rfl
theorem any_iff {f : Nat → Bool} {n : Nat} : (List.range n).any f = true ↔ ∃ j, j < n ∧ f j = true := by simp
theorem all_iff {f : Nat → Bool} {n : Nat} : (List.range n).all f = true ↔ ∀ j, j < n → f j = true := by simp
theorem kind_cases (l : List S) (p : S) (h : List Nat) :
    (inKind l p h = 3 ∧ ∃ j, j < h.length ∧ hit l p h j = true) ∨
    (inKind l p h = 2 ∧ (∀ j, j < h.length → hit l p h j = false) ∧ ∃ j, j < h.length ∧ onE l p h j = true) ∨
    (inKind l p h = 1 ∧ 2 < h.length ∧ ∀ j, j < h.length → lfE l p h j = true) ∨
    (inKind l p h = 4 ∧ (∀ j, j < h.length → hit l p h j = false) ∧ (∀ j, j < h.length → onE l p h j = false) ∧ ¬ (2 < h.length ∧ ∀ j, j < h.length → lfE l p h j = true)) := by
  have no : ∀ {f : Nat → Bool}, ¬ ((List.range h.length).any f = true) → ∀ j, j < h.length → f j = false := fun {f} hn j hj => by
    cases hf : f j with
    | false => rfl
    | true => exact absurd (any_iff.mpr ⟨j, hj, hf⟩) hn
  unfold inKind
  by_cases h1 : (List.range h.length).any (hit l p h) = true
  · rw [if_pos h1]; exact .inl ⟨rfl, any_iff.mp h1⟩
  · rw [if_neg h1]
    by_cases h2 : (List.range h.length).any (onE l p h) = true
    · rw [if_pos h2]; exact .inr (.inl ⟨rfl, no h1, any_iff.mp h2⟩)
    · rw [if_neg h2]
      by_cases h3 : 2 < h.length ∧ (List.range h.length).all (lfE l p h) = true
      · rw [if_pos h3]; exact .inr (.inr (.inl ⟨rfl, h3.1, all_iff.mp h3.2⟩))
      · rw [if_neg h3]; exact .inr (.inr (.inr ⟨rfl, no h1, no h2, fun h => h3 ⟨h.1, all_iff.mpr h.2⟩⟩))
theorem kind_pt {l : List S} {p q : S} (h : List Nat) (e : pt p = pt q) : inKind l p h = inKind l q h := by
  have e0 : fval p.f0 = fval q.f0 := congrArg Prod.fst e
  have e1 : fval p.f1 = fval q.f1 := congrArg Prod.snd e
  unfold inKind hit onE lfE onS sgnS
  rw [e, e0, e1]
theorem hp_len (l : List S) : (hp l).length = (hullAll l false).length := List.length_map ..
theorem hp_ring {l : List S} (h0 : (allF l).2 = 0) (h2 : 2 ≤ (hullAll l false).length) : Geo.Ring (Q l) (hp l) := by
  rcases hp_corners h0 with ⟨-, e⟩ | ⟨x, -, -, e⟩ | r
  · have := congrArg List.length e; rw [hp_len] at this; simp only [List.length_nil, List.length_cons] at this; omega
  · have := congrArg List.length e; rw [hp_len] at this; simp only [List.length_nil, List.length_cons] at this; omega
  · exact r
theorem kind_in {l : List S} (h0 : (allF l).2 = 0) {i : Nat} (hi : i < l.length) : inKind l (at_ l i) (hullAll l false) = 1 ∨ inKind l (at_ l i) (hullAll l false) = 2 ∨ inKind l (at_ l i) (hullAll l false) = 3 := by
  rcases kind_cases l (at_ l i) (hullAll l false) with h | h | h | ⟨-, n1, n2, n3⟩
  · exact .inr (.inr h.1)
  · exact .inr (.inl h.1)
  · exact .inl h.1
  · exfalso
    have hq : Q l (pt (at_ l i)) := ⟨i, hi, rfl⟩
    have hm : ∀ j, j < (hullAll l false).length → (hp l).getD j (0, 0) ≠ pt (at_ l i) := fun j hj e => by
      have := n1 j hj
      rw [(hit_iff hj).mpr e] at this
      cases this
    rcases hp_corners h0 with ⟨k, -⟩ | ⟨x, -, k, e⟩ | r
    · exact k _ hq
    · refine hm 0 (by rw [← hp_len, e]; simp) ?_
      rw [e, k _ hq]; rfl
    · have h2 := r.len
      rw [hp_len] at h2
      have key : ∀ j, j < (hullAll l false).length → 0 < Geo.det ((hp l).getD j (0, 0)) ((hp l).getD ((j + 1) % (hp l).length) (0, 0)) (pt (at_ l i)) := fun j hj => by
        have e := r.at (j := j) (by rw [hp_len]; exact hj)
        obtain ⟨d1, d2⟩ := e.2.2.2 _ hq
        rcases Int.lt_or_eq_of_le d1 with d | d
        · exact d
        · exfalso
          have w := (Geo.on_iff e.2.2.1 d.symm).mpr (d2 d.symm)
          have := n2 j hj
          rw [(onE_iff hj).mpr ⟨d.symm, w⟩] at this
          cases this
      rcases Nat.lt_or_ge 2 (hullAll l false).length with h3 | h3
      · exact n3 ⟨h3, fun j hj => (lfE_iff hj).mpr (key j hj)⟩
      · have hlen : (hullAll l false).length = 2 := by omega
        have k0 := key 0 (by omega)
        have k1 := key 1 (by omega)
        rw [hp_len, hlen] at k0 k1
        have := Geo.det_swap ((hp l).getD 0 (0, 0)) ((hp l).getD 1 (0, 0)) (pt (at_ l i))
        simp only [Nat.zero_add, Nat.reduceAdd, Nat.reduceMod] at k0 k1
        omega
theorem kind_corner {l : List S} {j : Nat} (hj : j < (hullAll l false).length) : inKind l (at_ l ((hullAll l false).getD j 0)) (hullAll l false) = 3 := by
  have hh : hit l (at_ l ((hullAll l false).getD j 0)) (hullAll l false) j = true := by unfold hit; exact decide_eq_true rfl
  unfold inKind
  rw [if_pos (any_iff.mpr ⟨j, hj, hh⟩)]
theorem corner_turn {l : List S} (h0 : (allF l).2 = 0) (h3 : 2 < (hullAll l false).length) {j : Nat} (hj : j < (hullAll l false).length) : sgnS (at_ l ((hullAll l false).getD j 0)) (at_ l ((hullAll l false).getD ((j + 1) % (hullAll l false).length) 0)) (at_ l ((hullAll l false).getD ((j + 2) % (hullAll l false).length) 0)) = 1 := by
  have r := (hp_ring h0 (by omega)).turn (j := j) (by rw [hp_len]; exact h3) (by rw [hp_len]; exact hj)
  rw [hp_len] at r
  unfold hp at r
  rw [map_getD (PT l) (0, 0) hj, map_getD (PT l) (0, 0) (Nat.mod_lt _ (by omega)), map_getD (PT l) (0, 0) (Nat.mod_lt _ (by omega))] at r
  unfold sgnS
  exact Int.sign_eq_one_of_pos r
theorem rim_spread {l : List S} (h0 : (allF l).2 = 0) (h3 : 2 < (hullAll l false).length) : ∃ u0 t, hullAll l false = u0 :: t ∧ hullAll l true ++ [u0] = Geo.spread (PT l) (unlAll l) (u0 :: t ++ [u0]) ∧ (hullAll l true).Nodup ∧ u0 ∈ hullAll l true := by
  have ho := orderN_sorted l
  have ha := Geo.unlike_asc (P := PT l) fst_iff ho
  rw [← unlAll_eq h0] at ha
  have hall : ∀ i, i < l.length → ∃ k ∈ unlAll l, PT l k = PT l i := fun i hi => by rw [unlAll_eq h0]; exact Geo.unlike_all fst_iff ho hi
  have hu := unl_lt l
  have hflat := flat_iff h0
  rw [Geo.allflat_unlike hu hall] at hflat
  have hs : ¬ (unlAll l).length < 3 := fun h => by unfold hullAll at h3; rw [if_neg (by omega), if_pos h] at h3; omega
  have hf : ¬ flatAll l = true := fun h => by unfold hullAll at h3; rw [if_neg (by omega), if_neg hs, if_pos h, if_neg (by decide)] at h3; simp at h3
  have e1 : ∀ ed, hullAll l ed = Geo.ring (PT l) ed (unlAll l) := fun ed => by unfold hullAll; rw [if_neg (by omega), if_neg hs, if_neg hf]
  have hnf : ¬ Geo.Flat (PT l) (unlAll l) := fun h => hf (hflat.mpr h)
  rw [e1, e1]
  generalize unlAll l = u at *
  match u, ha, hs with
  | [], _, hs => exact absurd (by simp) hs
  | [a], _, hs => exact absurd (by simp) hs
  | a :: b :: r, ha, hs =>
    obtain ⟨t, r1, r2, r3⟩ := Geo.ring_spec (P := PT l) (e := false) ha (by simp)
    obtain ⟨s, s1, s2, s3⟩ := Geo.ring_spec (P := PT l) (e := true) ha (by simp)
    have n1 : a ∉ s := fun h => Geo.Ahead.irrefl _ (s3 a h).2
    refine ⟨a, t, r1, ?_, ?_, by rw [s1]; simp⟩
    · exact Geo.ring_rim ha hnf (fun x hx => (r3 x hx).1) (fun h => Geo.Ahead.irrefl _ (r3 a h).2) r2
    · rw [s1]
      have m1 : ∀ x ∈ a :: s ++ [a], x ∈ a :: b :: r := fun x hx => by
        rcases List.mem_append.mp hx with hx | hx
        · rcases List.mem_cons.mp hx with rfl | hx
          · simp
          · exact (s3 x hx).1
        · rw [List.mem_singleton.mp hx]; simp
      have hR : ∀ x y z, (Geo.Er (PT l) (a :: b :: r) x y ∧ y ∈ a :: b :: r) → (Geo.Er (PT l) (a :: b :: r) x z ∧ z ∈ a :: b :: r) → y = z := fun x y z h1 h2 => Geo.asc_inj ha h1.2 h2.2 (Geo.Er_unique hnf h1.1 h2.1 h1.2 h2.2)
      have A1 : Geo.Adj (fun x y => Geo.Er (PT l) (a :: b :: r) x y ∧ y ∈ a :: b :: r) (a :: s ++ [a]) := Geo.Adj.mono (fun x _ y hy h => ⟨h, m1 y hy⟩) s2
      exact List.nodup_cons.mpr ⟨n1, Geo.path_nodup hR s ⟨a, A1⟩ n1⟩
theorem rim_iff {l : List S} (h0 : (allF l).2 = 0) (h3 : 2 < (hullAll l false).length) {y : Nat} : y ∈ hullAll l true ↔ y ∈ hullAll l false ∨ ∃ j, j < (hullAll l false).length ∧ y ∈ unlAll l ∧ Geo.det ((hp l).getD j (0, 0)) ((hp l).getD ((j + 1) % (hp l).length) (0, 0)) (PT l y) = 0 ∧ Geo.Btw ((hp l).getD j (0, 0)) (PT l y) ((hp l).getD ((j + 1) % (hp l).length) (0, 0)) := by
  obtain ⟨u0, t, e, hsp, -, h00⟩ := rim_spread h0 h3
  have key : y ∈ hullAll l true ↔ y ∈ hullAll l true ++ [u0] := by
    rw [List.mem_append, List.mem_singleton]
    constructor
    · exact .inl
    · rintro (h | rfl)
      · exact h
      · exact h00
  rw [key, hsp, Geo.spread_iff]
  have hidx : ∀ j, j < (hullAll l false).length → PT l ((u0 :: t ++ [u0]).getD j 0) = (hp l).getD j (0, 0) ∧ PT l ((u0 :: t ++ [u0]).getD (j + 1) 0) = (hp l).getD ((j + 1) % (hp l).length) (0, 0) := fun j hj => by
    have hj' := hj
    rw [e] at hj'
    obtain ⟨w1, w2⟩ := Geo.wrap_getD u0 t 0 hj'
    rw [w1, w2, hp_len, ← e]
    unfold hp
    rw [map_getD (PT l) (0, 0) hj, map_getD (PT l) (0, 0) (Nat.mod_lt _ (by omega))]
    exact ⟨rfl, rfl⟩
  constructor
  · rintro (h | ⟨j, j1, j2⟩)
    · left
      rw [e]
      rcases List.mem_append.mp h with h | h
      · exact h
      · rw [List.mem_singleton.mp h]; simp
    · right
      have hj : j < (hullAll l false).length := by rw [e]; simp at j1 ⊢; omega
      obtain ⟨i1, i2⟩ := hidx j hj
      rw [Geo.fill_iff, i1, i2] at j2
      exact ⟨j, hj, j2⟩
  · rintro (h | ⟨j, hj, j2⟩)
    · rw [e] at h
      exact .inl (List.mem_append_left _ h)
    · right
      obtain ⟨i1, i2⟩ := hidx j hj
      refine ⟨j, by rw [e] at hj; simp at hj ⊢; omega, ?_⟩
      rw [Geo.fill_iff, i1, i2]
      exact j2
theorem asc_nodup {P : Nat → Geo.Pt} {u : List Nat} (h : Geo.Asc P u) : u.Nodup := h.imp fun {a b} hab he => by rw [he] at hab; exact Geo.Ahead.irrefl _ hab
theorem rim_nodup {l : List S} (h0 : (allF l).2 = 0) : (hullAll l true).Nodup := by
  rcases Nat.lt_or_ge 2 (hullAll l false).length with h3 | h3
  · obtain ⟨_, _, _, _, h, _⟩ := rim_spread h0 h3; exact h
  · have ha := Geo.unlike_asc (P := PT l) fst_iff (orderN_sorted l)
    rw [← unlAll_eq h0] at ha
    have hn := asc_nodup ha
    by_cases hs : (unlAll l).length < 3
    · unfold hullAll; rw [if_neg (by omega), if_pos hs]; exact hn
    · by_cases hf : flatAll l = true
      · unfold hullAll; rw [if_neg (by omega), if_neg hs, if_pos hf, if_pos rfl]; exact hn
      · exfalso
        have hall : ∀ i, i < l.length → ∃ k ∈ unlAll l, PT l k = PT l i := fun i hi => by rw [unlAll_eq h0]; exact Geo.unlike_all fst_iff (orderN_sorted l) hi
        have hflat := flat_iff h0
        rw [Geo.allflat_unlike (unl_lt l) hall] at hflat
        have hnf : ¬ Geo.Flat (PT l) (unlAll l) := fun h => hf (hflat.mpr h)
        have h2 : hullAll l false = Geo.ring (PT l) false (unlAll l) := by unfold hullAll; rw [if_neg (by omega), if_neg hs, if_neg hf]
        apply hnf
        have hcor := hp_corners h0
        have hor : ∃ p q : Geo.Pt, p ≠ q ∧ ∀ c, Q l c → Geo.det p q c = 0 := by
          rcases hcor with ⟨k, -⟩ | ⟨x, -, k, -⟩ | r
          · exfalso
            have : 0 < (unlAll l).length := by omega
            exact k _ ⟨_, unl_lt l _ (List.getElem_mem this), rfl⟩
          · exfalso
            match hu : unlAll l, hs, ha with
            | [], hs, _ => simp at hs
            | [_], hs, _ => simp at hs
            | a :: b :: r, _, ha =>
              have e1 := k _ ⟨a, unl_lt l a (by rw [hu]; simp), rfl⟩
              have e2 := k _ ⟨b, unl_lt l b (by rw [hu]; simp), rfl⟩
              exact Geo.ahead_ne ((List.pairwise_cons.mp ha).1 b (by simp)) (e1.trans e2.symm)
          · have h2 := r.len
            have hl := hp_len l
            have hlen : (hp l).length = 2 := by omega
            have k0 := r.at (j := 0) (by omega)
            have k1 := r.at (j := 1) (by omega)
            rw [hlen] at k0 k1
            simp only [Nat.zero_add, Nat.reduceAdd, Nat.reduceMod] at k0 k1
            refine ⟨_, _, k0.2.2.1, fun c hc => ?_⟩
            have a1 := (k0.2.2.2 c hc).1
            have a2 := (k1.2.2.2 c hc).1
            have := Geo.det_swap ((hp l).getD 0 (0, 0)) ((hp l).getD 1 (0, 0)) c
            omega
        obtain ⟨p, q, hpq, hz⟩ := hor
        exact fun a ha b hb c hc => Geo.flat_of hpq (hz _ ⟨a, unl_lt l a ha, rfl⟩) (hz _ ⟨b, unl_lt l b hb, rfl⟩) (hz _ ⟨c, unl_lt l c hc, rfl⟩)
theorem rim_kind {l : List S} (h0 : (allF l).2 = 0) {y : Nat} (hy : y ∈ hullAll l true) : inKind l (at_ l y) (hullAll l false) ≠ 1 := by
  intro h1
  rcases kind_cases l (at_ l y) (hullAll l false) with h | h | ⟨-, h3, hl⟩ | h
  · omega
  · omega
  · rcases (rim_iff h0 h3).mp hy with h | ⟨j, hj, -, hd, -⟩
    · obtain ⟨j, hj, e⟩ := List.mem_iff_getElem.mp h
      have := kind_corner (l := l) hj
      rw [List.getD_eq_getElem?_getD, List.getElem?_eq_getElem hj] at this
      rw [show (some (hullAll l false)[j]).getD 0 = y from e, h1] at this
      omega
    · have := (lfE_iff hj).mp (hl j hj)
      rw [show (List.map (PT l) (hullAll l false)) = hp l from rfl, show pt (at_ l y) = PT l y from rfl, hd] at this
      omega
  · omega
theorem rim_twin {l : List S} (h0 : (allF l).2 = 0) (h3 : 2 < (hullAll l false).length) {i : Nat} (hi : i < l.length) : (∃ y ∈ hullAll l true, PT l y = PT l i) ↔ inKind l (at_ l i) (hullAll l false) ≠ 1 := by
  constructor
  · rintro ⟨y, hy, e⟩
    rw [kind_pt (p := at_ l i) (q := at_ l y) _ e.symm]
    exact rim_kind h0 hy
  · intro hk
    have corner : ∀ j, j < (hullAll l false).length → (hp l).getD j (0, 0) = PT l i → ∃ y ∈ hullAll l true, PT l y = PT l i := fun j hj e => by
      refine ⟨(hullAll l false).getD j 0, (rim_iff h0 h3).mpr (.inl ?_), ?_⟩
      · rw [List.getD_eq_getElem?_getD, List.getElem?_eq_getElem hj]; exact List.getElem_mem _
      · rw [← e]; unfold hp; rw [map_getD (PT l) (0, 0) hj]
    rcases kind_cases l (at_ l i) (hullAll l false) with ⟨-, j, hj, h⟩ | ⟨-, -, j, hj, h⟩ | h | ⟨h, -⟩
    · exact corner j hj ((hit_iff hj).mp h)
    · obtain ⟨d, w⟩ := (onE_iff hj).mp h
      have r := (hp_ring h0 (by omega)).at (j := j) (by rw [hp_len]; exact hj)
      rcases (Geo.on_iff r.2.2.1 d).mp w with k | k | k
      · exact corner j hj k.symm
      · exact corner _ (by rw [← hp_len]; exact Nat.mod_lt _ (by rw [hp_len]; omega)) k.symm
      · obtain ⟨y, hy, e⟩ : ∃ k ∈ unlAll l, PT l k = PT l i := by rw [unlAll_eq h0]; exact Geo.unlike_all fst_iff (orderN_sorted l) hi
        refine ⟨y, (rim_iff h0 h3).mpr (.inr ⟨j, hj, hy, ?_, ?_⟩), e⟩
        · rw [e]; exact d
        · rw [e]; exact k
    · exact absurd h.1 hk
    · rcases kind_in h0 hi with k | k | k <;> omega
end Go.Proofs.YtioahkblhekgpaaGreatDoor.Adm
namespace Go.Proofs.YtioahkblhekgpaaGreatDoor.Adm
open Go.RowKit Go.Proofs.YtioahkblhekgpaaGreatDoor.FltP Go.Proofs.YtioahkblhekgpaaGreatDoor.R Go.Proofs.YtioahkblhekgpaaGreatDoor.E Go.Proofs.YtioahkblhekgpaaGreatDoor.O Go.Proofs.YtioahkblhekgpaaGreatDoorW.PrintWords Go.Proofs.YtioahkblhekgpaaGreatDoorW.PrintLast Go.Proofs.YtioahkblhekgpaaGreatDoorW.PrintMore
attribute [local go_sem high] eqPt
def genA (n : Nat) (f : Nat → Value) : Array Value := ((List.range n).map f).toArray
theorem genA_get {n : Nat} {f : Nat → Value} {i : Nat} (h : i < n) : (genA n f)[i]? = some (f i) := by
  unfold genA
  rw [List.getElem?_toArray, List.getElem?_map, List.getElem?_range h]; rfl
theorem genA_set {n : Nat} {f g : Nat → Value} {i : Nat} {v : Value} (hi : g i = v) (hj : ∀ j, j ≠ i → g j = f j) : (genA n f).setIfInBounds i v = genA n g := by
  apply Array.ext_getElem?
  intro j
  rw [Array.getElem?_setIfInBounds]
  unfold genA
  rw [List.getElem?_toArray, List.getElem?_toArray, List.getElem?_map, List.getElem?_map]
  by_cases h : i = j
  · subst h
    rw [if_pos rfl]
    by_cases hn : i < n
    · rw [if_pos (by simpa using hn), List.getElem?_range hn, Option.map_some, hi]
    · rw [if_neg (by simpa using hn), List.getElem?_eq_none (by simp; omega)]; rfl
  · rw [if_neg h]
    by_cases hn : j < n
    · rw [List.getElem?_range hn, Option.map_some, Option.map_some, hj j (fun e => h e.symm)]
    · rw [List.getElem?_eq_none (by simp; omega)]; rfl
theorem genA_made (z : Value) (n : Nat) : madeCells #[z] n = genA n (fun _ => z) := by
  apply Array.ext_getElem?
  intro j
  unfold madeCells genA
  by_cases hn : j < n
  · simp [hn, Nat.mod_one]
  · simp [hn]
theorem make_run {t e : TypeId} {z : Value} {b : Nat} (ht : Tryz.prog.underlying t = some (.slice e)) (hi : (Tryz.prog.info? e).map (fun i => (i.zero, i.size, i.bytes)) = some (some z, 1, b)) (hz : z.cells = #[z]) (hb : b ≤ 16) (n : Nat) (hn : n ≤ 1048576) (W : World) :
    (Instr.makeSlice t (.int .i64 (n : Int)) (.int .i64 (n : Int))).run Tryz.prog W = .ok (.slice (some ⟨W.heap.size, 0, none⟩) n n) (W.alloc (.cells (genA n (fun _ => z)) e)) := by
  obtain ⟨i0, hi, hz0, hz1, hz2⟩ := info_parts hi
  have hr := run_make (P := Tryz.prog) W t e i0 _ ht hi hz0 .i64 .i64 (n : Int) (n : Int) (by omega) (by omega) (by rw [hz2]; have h4 : (b : Int) * (n : Int) ≤ 16 * 1048576 := Int.mul_le_mul (by omega) (by omega) (by omega) (by omega); exact Int.le_trans h4 (by decide)) (by omega)
  rw [hz1, Int.toNat_natCast, Nat.mul_one, hz, genA_made] at hr
  exact hr
theorem info_u8 : (Tryz.prog.info? 5).map (fun i => (i.zero, i.size, i.bytes)) = some (some (.int .u8 0), 1, 1) := by kernel_rfl
theorem info_bool : (Tryz.prog.info? 4).map (fun i => (i.zero, i.size, i.bytes)) = some (some (.bool false), 1, 1) := by kernel_rfl
theorem make_u8 (n : Nat) (hn : n ≤ 1048576) (W : World) : (Instr.makeSlice 47 (.int .i64 (n : Int)) (.int .i64 (n : Int))).run Tryz.prog W = .ok (.slice (some ⟨W.heap.size, 0, none⟩) n n) (W.alloc (.cells (genA n (fun _ => .int .u8 0)) 5)) :=
  make_run Tryz.underlying47 info_u8 rfl (by decide) n hn W
theorem make_bool (n : Nat) (hn : n ≤ 1048576) (W : World) : (Instr.makeSlice 48 (.int .i64 (n : Int)) (.int .i64 (n : Int))).run Tryz.prog W = .ok (.slice (some ⟨W.heap.size, 0, none⟩) n n) (W.alloc (.cells (genA n (fun _ => .bool false)) 4)) :=
  make_run Tryz.underlying48 info_bool rfl (by decide) n hn W
def kindsUpto (l : List S) (k : Nat) (j : Nat) : Value := .int .u8 (if j < k then inKind l (at_ l j) (hullAll l false) else 0)
def onUpto (r : List Nat) (k : Nat) (j : Nat) : Value := .bool (decide (j ∈ r.take k))
def twF (l : List S) (r : List Nat) (i k : Nat) : Bool := (List.range k).any fun j => eqP (at_ l (r.getD j 0)) (at_ l i)
theorem twF_succ (l : List S) (r : List Nat) (i k : Nat) : twF l r i (k + 1) = (twF l r i k || (eqF (rd_T32 l ((r.getD k 0 : Nat) : Int)).f0 (rd_T32 l (i : Int)).f0 && eqF (rd_T32 l ((r.getD k 0 : Nat) : Int)).f1 (rd_T32 l (i : Int)).f1)) := any_succ _ _
theorem twF_all {l : List S} (h0 : (allF l).2 = 0) (h3 : 2 < (hullAll l false).length) {i : Nat} (hi : i < l.length) : (twF l (hullAll l true) i (hullAll l true).length != (inKind l (at_ l i) (hullAll l false) != 1)) = false := by
  have hgp : ∀ x ∈ l, gp x = true := ((allF_ok l).mp h0).2
  have e : twF l (hullAll l true) i (hullAll l true).length = true ↔ inKind l (at_ l i) (hullAll l false) ≠ 1 := by
    rw [← rim_twin h0 h3 hi]
    unfold twF
    rw [any_iff]
    have gi := gp_good (hgp _ (rd_at hi))
    constructor
    · rintro ⟨j, hj, h⟩
      have hm := getD_lt (hull_lt (l := l) (ed := true)) hj
      have gj := gp_good (hgp _ (rd_at hm))
      rw [eqP_fin (show Fini (at_ l _).f0 from gj.1.1) gj.2.1 (show Fini (at_ l _).f0 from gi.1.1) gi.2.1, decide_eq_true_iff] at h
      refine ⟨_, ?_, h⟩
      rw [List.getD_eq_getElem?_getD, List.getElem?_eq_getElem hj]
      exact List.getElem_mem _
    · rintro ⟨y, hy, h⟩
      obtain ⟨j, hj, rfl⟩ := List.mem_iff_getElem.mp hy
      have hm := hull_lt (l := l) (ed := true) _ hy
      have gj := gp_good (hgp _ (rd_at hm))
      refine ⟨j, hj, ?_⟩
      rw [List.getD_eq_getElem?_getD, List.getElem?_eq_getElem hj]
      show eqP (at_ l (hullAll l true)[j]) (at_ l i) = true
      rw [eqP_fin (show Fini (at_ l _).f0 from gj.1.1) gj.2.1 (show Fini (at_ l _).f0 from gi.1.1) gi.2.1, decide_eq_true_iff]
      exact h
  rw [bne_eq_false_iff_eq, Bool.eq_iff_iff, e, bne_iff_ne]
theorem on_not {r : List Nat} (hr : r.Nodup) {k : Nat} (hk : k < r.length) : decide (r.getD k 0 ∈ r.take k) = false := by
  rw [decide_eq_false_iff_not]
  intro h
  rw [List.getD_eq_getElem?_getD, List.getElem?_eq_getElem hk] at h
  obtain ⟨j, hj, e⟩ := List.mem_iff_getElem.mp h
  rw [List.getElem_take] at e
  have := (List.getElem_inj hr).mp (show r[j]'(by simp at hj; omega) = r[k] from e)
  simp at hj
  omega
theorem on_step {r : List Nat} {k : Nat} (hk : k < r.length) : onUpto r (k + 1) (r.getD k 0) = .bool true ∧ ∀ j, j ≠ r.getD k 0 → onUpto r (k + 1) j = onUpto r k j := by
  have e : r.take (k + 1) = r.take k ++ [r.getD k 0] := by
    rw [List.take_add_one, List.getElem?_eq_getElem hk, List.getD_eq_getElem?_getD, List.getElem?_eq_getElem hk]; rfl
  unfold onUpto
  rw [e]
  refine ⟨by simp, fun j hj => ?_⟩
  congr 1
  rw [Bool.eq_iff_iff, decide_eq_true_iff, decide_eq_true_iff, List.mem_append, List.mem_singleton]
  exact ⟨fun h => h.elim id (fun h => absurd h hj), .inl⟩
set_option maxRecDepth 100000 in
set_option maxHeartbeats 4000000 in
theorem holds_long (A : Option Addr) (c : Nat) (l : List S) (w : World) (h1 : 80 < l.length) :
    Calls Tryz.prog 10 #[.slice A l.length c] w fun e w' => e = .returned (.bool true) ∧ Below w.heap.size w w' := by
  have d1 : decide ((80 : Int) < (l.length : Int)) = true := by simp; omega
  have d2 : decide (80 < l.length) = true := by simp; omega
  go_enter Tryz.func10, Tryz.ntmps10
  go_wp2_with (go_at_call 31; (with_reducible refine (awake_call _).mono ?_); rintro u w1 ⟨rfl, hb1⟩)
  go_ret
  exact ⟨rfl, hb1⟩
set_option maxRecDepth 100000 in
set_option maxHeartbeats 4000000 in
theorem holds_bad (A : Option Addr) (c : Nat) (l : List S) (w : World) (hl : Kd.C k32 w A l.length l) (hc : l.length ≤ c) (hw : Wd l) (h1 : l.length ≤ 80) (h0 : (allF l).2 ≠ 0) :
    Calls Tryz.prog 10 #[.slice A l.length c] w fun e w' => e = .returned (.bool true) ∧ Below w.heap.size w w' := by
  have hh := hull_calls A c l
  have hr := rim_calls A c l
  have HC := Aside0.mk hc
  have e1 : ((allF l).2 != 0) = true := bne_iff_ne.mpr h0
  have e2 : ((allF l).2 == 0) = false := beq_eq_false_iff_ne.mpr h0
  have d1 : decide ((80 : Int) < (l.length : Int)) = false := by simp; omega
  have d2 : decide (80 < l.length) = false := by simp; omega
  clear hc h0
  go_enter Tryz.func10, Tryz.ntmps10
  go_wp2_with (first
    | (go_at_call 31; (with_reducible refine (awake_call _).mono ?_); rintro u w1 ⟨rfl, hb1⟩)
    | (go_at_call 32; (with_reducible refine (hh _ (Kd.C_below hl hb1) HC.out hw).mono ?_); rintro u w2 ⟨v2, rfl, hR2, hb2⟩; have hB2 := hb1.trans (hb2.mono hb1.size); clear hb2 hR2)
    | (go_at_call 33; (with_reducible refine (hr _ (Kd.C_below hl hB2) HC.out hw).mono ?_); rintro u w3 ⟨v3, rfl, hR3, hb3⟩; have hB3 := hB2.trans (hb3.mono hB2.size); clear hb3 hR3))
  go_ret
  exact ⟨by simp, hB3⟩
theorem mod_facts (d : Nat) {k n : Nat} (hn : 0 < n) (hd : k + d ≤ 1000000) : ∃ j : Nat, j = (k + d) % n ∧ j < n ∧ IntKind.i64.wrap ((k : Int) + (d : Int)) = (k : Int) + (d : Int) ∧ Int.tmod ((k : Int) + (d : Int)) (n : Int) = (j : Int) ∧ ((k : Int) + (d : Int)) % (n : Int) = (j : Int) := by
  refine ⟨_, rfl, Nat.mod_lt _ hn, wrapI _ (by omega) (by omega), ?_, ?_⟩
  · rw [Int.tmod_eq_emod_of_nonneg (by omega), Int.natCast_emod]; rfl
  · rw [Int.natCast_emod]; rfl
set_option maxRecDepth 100000 in
set_option maxHeartbeats 8000000 in
theorem holds_good (A : Option Addr) (c : Nat) (l : List S) (w : World) (hl : Kd.C k32 w A l.length l) (hc : l.length ≤ c) (hw : Wd l) (h1 : l.length ≤ 80) (h0 : (allF l).2 = 0) :
    Calls Tryz.prog 10 #[.slice A l.length c] w fun e w' => e = .returned (.bool true) ∧ Below w.heap.size w w' := by
  have hu32 := Tryz.underlying32
  have hh := hull_calls A c l
  have hr := rim_calls A c l
  have hgp : ∀ x ∈ l, gp x = true := ((allF_ok l).mp h0).2
  have hin : ∀ i, i < l.length → ∀ W, Kd.C k32 W A l.length l → Calls Tryz.prog 39 #[.slice A l.length c, .agg #[.float .f64 (at_ l i).f0, .float .f64 (at_ l i).f1]] W fun e w' => e = .returned (.tuple #[.int .u8 (inKind l (at_ l i) (hullAll l false)), .int .i64 0]) ∧ Below W.heap.size W w' := fun i hi W h => by
    have g := hgp _ (rd_at hi)
    have := in_calls A c l (at_ l i) W h hc hw (gp_wd g).1 (gp_wd g).2
    unfold InPost inAll at this
    rw [if_neg (by omega), if_neg (by rw [show gp (at_ l i) = true from g]; decide)] at this
    exact this
  have HC := Aside0.mk hc
  have d1 : decide ((80 : Int) < (l.length : Int)) = false := by simp; omega
  have d2 : decide (80 < l.length) = false := by simp; omega
  clear hc
  go_enter Tryz.func10, Tryz.ntmps10
  have hmk := make_u8 l.length (by omega)
  have hmb := make_bool l.length (by omega)
  go_wp2_with (first
    | (go_at_call 31; (with_reducible refine (awake_call _).mono ?_); rintro u w1 ⟨rfl, hb1⟩)
    | (go_at_call 32; (with_reducible refine (hh _ (Kd.C_below hl hb1) HC.out hw).mono ?_); rintro u w2 ⟨v2, rfl, hR2, hb2⟩; rw [h0]; obtain ⟨A2, c2, rfl, hle2, hC2⟩ := Kd.R_reads hR2; rw [zi_length] at hC2 hle2 ⊢; have hB2 := hb1.trans (hb2.mono hb1.size); clear hb2 hR2 hh)
    | (go_at_call 33; (with_reducible refine (hr _ (Kd.C_below hl hB2) HC.out hw).mono ?_); rintro u w3 ⟨v3, rfl, hR3, hb3⟩; rw [h0]; obtain ⟨A3, c3, rfl, hle3, hC3⟩ := Kd.R_reads hR3; rw [zi_length] at hC3 hle3 ⊢; have hB3 := hB2.trans (hb3.mono hB2.size); replace hC2 := Kd.C_below hC2 hb3; clear hb3 hR3 hr))
  have hK1 := fun i (hi : i < l.length) => kind_in h0 hi
  have hml : (hullAll l false).length ≤ 1000 := by
    have a1 := hull_len l false h0
    have a2 := Pure.unl_len h0
    omega
  have hmr : (hullAll l true).length ≤ 1000 := by
    have a1 := hull_len l true h0
    have a2 := Pure.unl_len h0
    omega
  have hlt := @hull_lt l false
  have hltr := @hull_lt l true
  have hnd := rim_nodup h0
  have hrk := fun y (hy : y ∈ hullAll l true) => rim_kind h0 hy
  have hcr := fun j (hj : j < (hullAll l false).length) => kind_corner (l := l) hj
  have htn := fun h3 j (hj : j < (hullAll l false).length) => corner_turn (l := l) h0 h3 hj
  have htw := fun h3 i (hi : i < l.length) => twF_all (l := l) h0 h3 hi
  have hks : ∀ k, kindsUpto l (k + 1) k = .int .u8 (inKind l (at_ l k) (hullAll l false)) ∧ ∀ j, j ≠ k → kindsUpto l (k + 1) j = kindsUpto l k j := fun k => by
    unfold kindsUpto
    refine ⟨by rw [if_pos (Nat.lt_succ_self k)], fun j hj => ?_⟩
    by_cases h : j < k
    · rw [if_pos h, if_pos (by omega)]
    · rw [if_neg h, if_neg (by omega)]
  have hkz : (genA l.length fun _ => Value.int .u8 0) = genA l.length (kindsUpto l 0) := by
    congr 1
  have HKZ := Aside0.mk hkz
  have HKS := Aside0.mk hks
  have HK1 := Aside0.mk hK1
  have HLT := Aside0.mk (And.intro hlt hltr)
  have HND := Aside0.mk (And.intro hnd hrk)
  have HCR := Aside0.mk (And.intro hcr htn)
  have HTW := Aside0.mk htw
  clear hkz hks hK1 hlt hltr hnd hrk hcr htn htw
  have HIN := Aside0.mk hin
  clear hin
  have HGP := Aside0.mk (And.intro h0 hgp)
  clear h0 hgp
  obtain ⟨n, hn⟩ : ∃ n, n = l.length := ⟨_, rfl⟩
  have hl3 := Kd.C_below hl hB3
  have hB4 : Below w.heap.size w (w3.alloc (.cells (genA n fun _ => .int .u8 0) 5)) := below_alloc hB3 _
  have HN := Aside0.mk hn
  rw [← hn] at hl3 h1 d1 d2 hmk hmb ⊢
  clear hn
  obtain ⟨g, hg⟩ : ∃ g, g = w3.heap.size := ⟨_, rfl⟩
  rw [← hg]
  have HG := Aside0.mk hg
  clear hg
  go_loopw [8] (fun v8 wr => ∃ k : Nat, k ≤ n ∧ v8 = .int .i64 k ∧ wr.heap[g]? = some (.cells (genA n (kindsUpto l k)) 5 (0, 0)) ∧ Below w3.heap.size w3 wr) (fun v8 _ => n - (intOf v8).toNat)
  case atStart => exact ⟨0, Nat.zero_le _, rfl, by rw [HG.out, HN.out, ← HKZ.out]; exact blk_new _ _, below_alloc (Below.refl _ _) _⟩
  case round =>
    obtain ⟨k, hk, rfl, hblk, hB⟩ := hrel
    by_cases hkn : k < n
    · have hlw := Kd.C_below hl3 hB
      obtain ⟨ab, ao, rfl, hz⟩ := pts_at hlw (by omega)
      obtain ⟨a0, a1⟩ := hz k hkn
      clear hz
      have hc := HIN.out k (by rw [← HN.out]; exact hkn)
      have hq := HK1.out k (by rw [← HN.out]; exact hkn)
      have hst := HKS.out k
      unfold at_ at hc hq hst
      generalize inKind l (rd_T32 l (k : Int)) (hullAll l false) = q at *
      generalize rd_T32 l (k : Int) = x at *
      have hc2 := fun W h => hc W (by rw [← HN.out]; exact Kd.C_below hlw h)
      rw [← HN.out] at hc2
      have e1 : (q == 4) = false := beq_eq_false_iff_ne.mpr (by omega)
      have e2 : decide (q < 1) = false := by simp; omega
      have e3 : decide (4 < q) = false := by simp; omega
      have d3 : decide ((k : Int) < (n : Int)) = true := by simp; omega
      have d4 : decide (k < n) = true := by simp; omega
      have i1 : IntKind.i64.wrap ((k : Int) + 1) = (k : Int) + 1 := wrapI _ (by omega) (by omega)
      have HST := Aside0.mk hst
      clear hst hc hq
      have hcell := fun W (h : Below wr.heap.size wr W) => And.intro (blk_cell (blk_below hblk h) k) (blk_frozen (blk_below hblk h) k)
      have hget : (genA n (kindsUpto l k))[k]? = some (kindsUpto l k k) := genA_get hkn
      go_wp2_with (go_at_call 39; (with_reducible refine (hc2 _ (Below.refl _ _)).mono ?_); rintro u w5 ⟨rfl, hb5⟩; obtain ⟨f1, f2⟩ := hcell _ hb5; rw [hget] at f1; have hblk5 := blk_below hblk hb5)
      have hset : (genA n (kindsUpto l k)).setIfInBounds k (.int .u8 q) = genA n (kindsUpto l (k + 1)) := genA_set HST.out.1 HST.out.2
      exact ⟨⟨k + 1, by omega, by go_num, blk_put hblk5 k _ hset, (hB.trans (hb5.mono hB.size)).setCell (by rw [← HG.out]; exact Nat.le_refl _) _⟩, by simp [intOf]; omega⟩
    · obtain rfl : k = n := by omega
      have d3 : decide ((k : Int) < (k : Int)) = false := by simp
      have d4 : decide (k < k) = false := by simp
      have hl4 := Kd.C_below hl3 hB
      have hH := Kd.C_below hC2 hB
      have hR := Kd.C_below hC3 hB
      clear hC2 hC3 hl3 hB2 hb1 hmk
      have hkA := fun j (hj : j < k) => (genA_get (f := kindsUpto l k) hj).trans (show some (kindsUpto l k j) = some (Value.int .u8 (inKind l (at_ l j) (hullAll l false))) by unfold kindsUpto; rw [if_pos hj])
      have HKA := Aside0.mk hkA
      clear hkA
      generalize genA k (kindsUpto l k) = ka at *
      have HQ2 := Aside0.mk (And.intro hH hR)
      have HH2 := Aside0.mk hH
      have HR2 := Aside0.mk hR
      clear hH hR
      generalize hullAll l false = h at *
      generalize hullAll l true = r at *
      obtain ⟨m, hm⟩ : ∃ m, m = h.length := ⟨_, rfl⟩
      have hH := HH2.out
      rw [← hm] at hH hle2 hml ⊢
      have HM := Aside0.mk hm
      clear hm HQ2
      have hm0 := hH.2.1
      go_wp2
      obtain ⟨wb, hwb⟩ : ∃ wb : World, wb = wr := ⟨wr, rfl⟩
      subst hwb
      obtain ⟨o, ho⟩ : ∃ o, o = wb.heap.size := ⟨_, rfl⟩
      rw [← ho]
      have HO := Aside0.mk ho
      have hgo : g < o := by rw [ho]; exact blk_lt hblk
      clear ho
      go_loopw [12] (fun v12 wq => ∃ i : Nat, i ≤ m ∧ v12 = .int .i64 i ∧ wq.heap[o]? = some (.cells (genA k (fun _ => .bool false)) 4 (0, 0)) ∧ Below wb.heap.size wb wq) (fun v12 _ => m - (intOf v12).toNat)
      case atStart => exact ⟨0, Nat.zero_le _, rfl, by rw [HO.out]; exact blk_new _ _, below_alloc (Below.refl _ _) _⟩
      case round =>
        obtain ⟨i, hi, rfl, hon, hBq⟩ := hrel
        by_cases him : i < m
        · obtain ⟨j1, hj1, hjl1, i1, i2, i3⟩ := mod_facts 1 (k := i) (n := m) (by omega) (by omega)
          obtain ⟨j2, hj2, hjl2, i4, i5, i6⟩ := mod_facts 2 (k := i) (n := m) (by omega) (by omega)
          have hHq := Kd.C_below hH hBq
          obtain ⟨hb, ho_, rfl, hz⟩ := row_at hHq (by omega)
          have x0 := hz i him
          have x1 := hz j1 hjl1
          have x2 := hz j2 hjl2
          rw [rd, Int.toNat_natCast, List.getD_eq_getElem?_getD, zi_get (by rw [← HM.out]; omega)] at x0 x1 x2
          clear hz
          have la := getD_lt HLT.out.1 (show i < h.length by rw [← HM.out]; exact him)
          have lb := getD_lt HLT.out.1 (show j1 < h.length by rw [← HM.out]; exact hjl1)
          have lc := getD_lt HLT.out.1 (show j2 < h.length by rw [← HM.out]; exact hjl2)
          rw [← HN.out] at la lb lc
          have hk3 := HCR.out.1 i (by rw [← HM.out]; exact him)
          have htn := fun h3 => HCR.out.2 h3 i (by rw [← HM.out]; exact him)
          rw [← HM.out, ← hj1, ← hj2] at htn
          have hkc := HKA.out _ la
          rw [hk3] at hkc
          have hkb := blk_below hblk hBq
          have kc := (blk_cell hkb (h.getD i 0)).trans hkc
          have hlq := Kd.C_below hl4 hBq
          obtain ⟨ab, ao, rfl, hz⟩ := pts_at hlq (by omega)
          obtain ⟨a0, a1⟩ := hz _ la
          obtain ⟨b0, b1⟩ := hz _ lb
          obtain ⟨c0, c1⟩ := hz _ lc
          clear hz hkc hk3
          have ga := HGP.out.2 _ (rd_at (show h.getD i 0 < l.length by rw [← HN.out]; exact la))
          have gb := HGP.out.2 _ (rd_at (show h.getD j1 0 < l.length by rw [← HN.out]; exact lb))
          have gc := HGP.out.2 _ (rd_at (show h.getD j2 0 < l.length by rw [← HN.out]; exact lc))
          unfold at_ at htn
          generalize h.getD i 0 = a at *
          generalize h.getD j1 0 = b at *
          generalize h.getD j2 0 = c_ at *
          generalize rd_T32 l (a : Int) = pa at *
          generalize rd_T32 l (b : Int) = pb at *
          generalize rd_T32 l (c_ : Int) = pc at *
          have hsg := fun W => sign_any ga gb gc W
          have HJ := Aside0.mk (And.intro hj1 hj2)
          clear hj1 hj2 ga gb gc
          have i7 : ((m : Int) = 0) = False := eq_false (by omega)
          have i8 : (m = 0) = False := eq_false (by omega)
          have i9 : IntKind.i64.wrap ((i : Int) + 1) = (i : Int) + 1 := i1
          have i10 : IntKind.i64.wrap ((i : Int) + 2) = (i : Int) + 2 := i4
          have i11 : Int.tmod ((i : Int) + 1) (m : Int) = (j1 : Int) := i2
          have i12 : Int.tmod ((i : Int) + 2) (m : Int) = (j2 : Int) := i5
          have i13 : ((i : Int) + 1) % (m : Int) = (j1 : Int) := i3
          have i14 : ((i : Int) + 2) % (m : Int) = (j2 : Int) := i6
          clear i1 i2 i3 i4 i5 i6
          have d5 : decide ((i : Int) < (m : Int)) = true := by simp; omega
          have d6 : decide (i < m) = true := by simp; omega
          have d7 : decide ((j1 : Int) < (m : Int)) = true := by simp; omega
          have d8 : decide (j1 < m) = true := by simp; omega
          have d9 : decide ((j2 : Int) < (m : Int)) = true := by simp; omega
          have d10 : decide (j2 < m) = true := by simp; omega
          have d11 : decide ((a : Int) < 0) = false := by simp
          have d12 : decide ((k : Int) ≤ (a : Int)) = false := by simp; omega
          have d13 : decide (k ≤ a) = false := by simp; omega
          have d14 : decide ((a : Int) < (k : Int)) = true := by simp; omega
          have d15 : decide (a < k) = true := by simp; omega
          have d16 : decide ((b : Int) < (k : Int)) = true := by simp; omega
          have d17 : decide (b < k) = true := by simp; omega
          have d18 : decide ((c_ : Int) < (k : Int)) = true := by simp; omega
          have d19 : decide (c_ < k) = true := by simp; omega
          have hS : wr.cell? ⟨hb, ho_ + i, none⟩ = some (.int .i64 a) ∧ wr.cell? ⟨hb, ho_ + j1, none⟩ = some (.int .i64 b) ∧ wr.cell? ⟨hb, ho_ + j2, none⟩ = some (.int .i64 c_) := ⟨x0, x1, x2⟩
          have hT : wr.cell? ⟨g, a, none⟩ = some (.int .u8 3) ∧ (wr.cell? ⟨ab, ao + a * 2, none⟩ = some (.float .f64 pa.f0) ∧ wr.cell? ⟨ab, ao + a * 2 + 1, none⟩ = some (.float .f64 pa.f1) ∧ wr.cell? ⟨ab, ao + b * 2, none⟩ = some (.float .f64 pb.f0) ∧ wr.cell? ⟨ab, ao + b * 2 + 1, none⟩ = some (.float .f64 pb.f1) ∧ wr.cell? ⟨ab, ao + c_ * 2, none⟩ = some (.float .f64 pc.f0) ∧ wr.cell? ⟨ab, ao + c_ * 2 + 1, none⟩ = some (.float .f64 pc.f1)) := ⟨kc, a0, a1, b0, b1, c0, c1⟩
          clear x0 x1 x2 kc a0 a1 b0 b1 c0 c1
          go_upto_region 19 with (fail)
          go_region_held3 (fun W' => W'.cell? ⟨hb, ho_ + i, none⟩ = some (.int .i64 a) ∧ W'.cell? ⟨hb, ho_ + j1, none⟩ = some (.int .i64 b) ∧ W'.cell? ⟨hb, ho_ + j2, none⟩ = some (.int .i64 c_)) (exact hS) (fail)
          have hBd := below_drew1 hBq
          have hond : wr.drew.heap[o]? = some (.cells (genA k (fun _ => .bool false)) 4 (0, 0)) := hon
          by_cases h3 : 2 < m
          · have r1 := htn h3
            rw [r1] at hsg
            have d20 : decide ((2 : Int) < (m : Int)) = true := by simp; omega
            have d21 : decide (2 < m) = true := by simp; omega
            clear htn r1
            have hU : wr.drew.cell? ⟨g, a, none⟩ = some (.int .u8 3) ∧ (wr.drew.cell? ⟨ab, ao + a * 2, none⟩ = some (.float .f64 pa.f0) ∧ wr.drew.cell? ⟨ab, ao + a * 2 + 1, none⟩ = some (.float .f64 pa.f1) ∧ wr.drew.cell? ⟨ab, ao + b * 2, none⟩ = some (.float .f64 pb.f0) ∧ wr.drew.cell? ⟨ab, ao + b * 2 + 1, none⟩ = some (.float .f64 pb.f1) ∧ wr.drew.cell? ⟨ab, ao + c_ * 2, none⟩ = some (.float .f64 pc.f0) ∧ wr.drew.cell? ⟨ab, ao + c_ * 2 + 1, none⟩ = some (.float .f64 pc.f1)) := hT
            clear hT hS hon
            generalize wr.drew = wd at *
            go_upto_region 20 with (fail)
            go_region_held3 (fun W' => W'.cell? ⟨g, a, none⟩ = some (.int .u8 3) ∧ (W'.cell? ⟨ab, ao + a * 2, none⟩ = some (.float .f64 pa.f0) ∧ W'.cell? ⟨ab, ao + a * 2 + 1, none⟩ = some (.float .f64 pa.f1) ∧ W'.cell? ⟨ab, ao + b * 2, none⟩ = some (.float .f64 pb.f0) ∧ W'.cell? ⟨ab, ao + b * 2 + 1, none⟩ = some (.float .f64 pb.f1) ∧ W'.cell? ⟨ab, ao + c_ * 2, none⟩ = some (.float .f64 pc.f0) ∧ W'.cell? ⟨ab, ao + c_ * 2 + 1, none⟩ = some (.float .f64 pc.f1)))
              (first | exact hU | exact ⟨bcell (by assumption) hU.1, six_below2 (by assumption) hU.2⟩)
              (first | (go_at_call 24; (with_reducible refine (hsg _).mono ?_); rintro u w6 ⟨rfl, hb6⟩; have hB6 := below_step (w := wd) (by (with_reducible (repeat (first | exact Below.refl _ _ | apply below_drew1 | apply below_alloc | apply pw_below_drewN | assumption)))) hb6))
            all_goals
              go_wp2
              exact ⟨⟨i + 1, by omega, by go_num, blk_below hond hB6, hBd.trans (hB6.mono hBd.size)⟩, by simp [intOf]; omega⟩
          · have d20 : decide ((2 : Int) < (m : Int)) = false := by simp; omega
            have d21 : decide (2 < m) = false := by simp; omega
            have hU : wr.drew.cell? ⟨g, a, none⟩ = some (.int .u8 3) := hT.1
            clear hT hS hon htn hsg
            generalize wr.drew = wd at *
            go_upto_region 20 with (fail)
            go_quiet (fail)
            go_wp2
            exact ⟨⟨i + 1, by omega, by go_num, blk_drewN hond _, pw_below_drewN hBd _⟩, by simp [intOf]; omega⟩
        · obtain rfl : i = m := by omega
          have d5 : decide ((i : Int) < (i : Int)) = false := by simp
          have d6 : decide (i < i) = false := by simp
          have hR := HR2.out
          clear hH hl HCR
          have hz : (genA k fun _ => Value.bool false) = genA k (onUpto r 0) := by
            congr 1
          rw [hz] at hon
          clear hz
          obtain ⟨p, hp⟩ : ∃ p, p = r.length := ⟨_, rfl⟩
          rw [← hp] at hR hle3 hmr ⊢
          have HP := Aside0.mk hp
          have hp0 := hR.2.1
          clear hp
          go_wp2
          go_loopw [16] (fun v16 wq => ∃ i : Nat, i ≤ p ∧ v16 = .int .i64 i ∧ wq.heap[o]? = some (.cells (genA k (onUpto r i)) 4 (0, 0)) ∧ Below wb.heap.size wb wq) (fun v16 _ => p - (intOf v16).toNat)
          case atStart => exact ⟨0, Nat.zero_le _, rfl, hon, hBq⟩
          case round =>
            clear hon hBq
            obtain ⟨j, hj, rfl, hon, hBq⟩ := hrel
            by_cases hjp : j < p
            · obtain ⟨rb, ro, rfl, hz⟩ := row_at (Kd.C_below hR hBq) (by omega)
              have x0 := hz j hjp
              rw [rd, Int.toNat_natCast, List.getD_eq_getElem?_getD, zi_get (by rw [← HP.out]; omega)] at x0
              clear hz
              have la := getD_lt HLT.out.2 (show j < r.length by rw [← HP.out]; exact hjp)
              rw [← HN.out] at la
              have hno := on_not HND.out.1 (show j < r.length by rw [← HP.out]; exact hjp)
              obtain ⟨st1, st2⟩ := on_step (r := r) (show j < r.length by rw [← HP.out]; exact hjp)
              have hset : (genA k (onUpto r j)).setIfInBounds (r.getD j 0) (.bool true) = genA k (onUpto r (j + 1)) := genA_set st1 st2
              have ho1 := (blk_cell hon (r.getD j 0)).trans ((genA_get la).trans (show some (onUpto r j (r.getD j 0)) = some (Value.bool false) by unfold onUpto; rw [hno]))
              have ho2 := blk_frozen hon (r.getD j 0)
              have hk1 := HND.out.2 (r.getD j 0) (by rw [List.getD_eq_getElem?_getD, List.getElem?_eq_getElem (show j < r.length by rw [← HP.out]; exact hjp)]; exact List.getElem_mem _)
              have hkc := (blk_cell (blk_below hblk hBq) (r.getD j 0)).trans (HKA.out _ la)
              have hcl := And.intro (blk_put hon _ _ hset) (hBq.setCell (p := ⟨o, r.getD j 0, none⟩) (by show wb.heap.size ≤ o; have := HO.out; omega) (.bool true))
              clear hno st1 st2 hset
              generalize inKind l (at_ l (r.getD j 0)) h = q at *
              generalize r.getD j 0 = a at *
              have e1 : (q == 1) = false := beq_eq_false_iff_ne.mpr hk1
              have d7 : decide ((j : Int) < (p : Int)) = true := by simp; omega
              have d8 : decide (j < p) = true := by simp; omega
              have d11 : decide ((a : Int) < 0) = false := by simp
              have d12 : decide ((k : Int) ≤ (a : Int)) = false := by simp; omega
              have d13 : decide (k ≤ a) = false := by simp; omega
              have d14 : decide ((a : Int) < (k : Int)) = true := by simp; omega
              have d15 : decide (a < k) = true := by simp; omega
              have i1 : IntKind.i64.wrap ((j : Int) + 1) = (j : Int) + 1 := wrapI _ (by omega) (by omega)
              have HCL := Aside0.mk hcl
              clear hcl hon hk1
              go_wp2
              exact ⟨⟨j + 1, by omega, by go_num, HCL.out.1, HCL.out.2⟩, by simp [intOf]; omega⟩
            · obtain rfl : j = p := by omega
              have d7 : decide ((j : Int) < (j : Int)) = false := by simp
              have d8 : decide (j < j) = false := by simp
              clear hon
              by_cases h3 : 2 < i
              · have d20 : decide ((i : Int) < 3) = false := by simp; omega
                have d21 : decide (i < 3) = false := by simp; omega
                have htwn := HTW.out (by rw [← HM.out]; exact h3)
                rw [← HN.out, ← HP.out] at htwn
                have HTWN := Aside0.mk htwn
                clear htwn HTW
                go_wp2
                go_loopw [17] (fun v17 wq => ∃ q : Nat, q ≤ k ∧ v17 = .int .i64 q ∧ Below wb.heap.size wb wq) (fun v17 _ => k - (intOf v17).toNat)
                case atStart => exact ⟨0, Nat.zero_le _, rfl, hBq⟩
                case round =>
                  clear hBq
                  obtain ⟨q, hq, rfl, hBq⟩ := hrel
                  by_cases hqk : q < k
                  · have d22 : decide ((q : Int) < (k : Int)) = true := by simp; omega
                    have d23 : decide (q < k) = true := by simp; omega
                    have i1 : IntKind.i64.wrap ((q : Int) + 1) = (q : Int) + 1 := wrapI _ (by omega) (by omega)
                    go_wp2
                    go_loopw [18, 19] (fun v18 v19 wq => ∃ t : Nat, t ≤ j ∧ v19 = .int .i64 t ∧ v18 = .bool (twF l r q t) ∧ Below wb.heap.size wb wq) (fun _ v19 _ => j - (intOf v19).toNat)
                    case atStart => exact ⟨0, Nat.zero_le _, rfl, rfl, hBq⟩
                    case round =>
                      clear hBq
                      obtain ⟨t, ht, rfl, rfl, hBq⟩ := hrel
                      by_cases htj : t < j
                      · obtain ⟨rb, ro, rfl, hz⟩ := row_at (Kd.C_below hR hBq) (by omega)
                        have x0 := hz t htj
                        rw [rd, Int.toNat_natCast, List.getD_eq_getElem?_getD, zi_get (by rw [← HP.out]; omega)] at x0
                        clear hz
                        have la := getD_lt HLT.out.2 (show t < r.length by rw [← HP.out]; exact htj)
                        rw [← HN.out] at la
                        obtain ⟨ab, ao, rfl, hz⟩ := pts_at (Kd.C_below hl4 hBq) (by omega)
                        obtain ⟨a0, a1⟩ := hz _ la
                        obtain ⟨b0, b1⟩ := hz _ hqk
                        clear hz
                        have hts := twF_succ l r q t
                        generalize r.getD t 0 = a at *
                        generalize rd_T32 l (a : Int) = pa at *
                        generalize rd_T32 l (q : Int) = pb at *
                        have d24 : decide ((t : Int) < (j : Int)) = true := by simp; omega
                        have d25 : decide (t < j) = true := by simp; omega
                        have d26 : decide ((a : Int) < (k : Int)) = true := by simp; omega
                        have d27 : decide (a < k) = true := by simp; omega
                        have i2 : IntKind.i64.wrap ((t : Int) + 1) = (t : Int) + 1 := wrapI _ (by omega) (by omega)
                        have hq0 : (FloatKind.f64.format.order pa.f0 pb.f0 == some .eq) = eqF pa.f0 pb.f0 := rfl
                        have hq1 : (FloatKind.f64.format.order pa.f1 pb.f1 == some .eq) = eqF pa.f1 pb.f1 := rfl
                        have HTS := Aside0.mk hts
                        clear hts
                        generalize twF l r q t = z at *
                        generalize eqF pa.f0 pb.f0 = q0 at *
                        generalize eqF pa.f1 pb.f1 = q1 at *
                        cases z <;> cases q0 <;> cases q1
                        all_goals
                          go_upto_region 37 with (fail)
                          go_quiet (fail)
                          go_wp2
                          exact ⟨⟨t + 1, by omega, by go_num, by rw [HTS.out]; rfl, pw_below_drewN hBq _⟩, by simp [intOf]; omega⟩
                      · obtain rfl : t = j := by omega
                        have d24 : decide ((t : Int) < (t : Int)) = false := by simp
                        have d25 : decide (t < t) = false := by simp
                        have e5 := HTWN.out q hqk
                        have hkc := (blk_cell (blk_below hblk hBq) q).trans (HKA.out _ hqk)
                        generalize inKind l (at_ l q) h = kd at *
                        have e6 : (kd != 1) = twF l r q t := by
                          rw [bne_eq_false_iff_eq] at e5; exact e5.symm
                        generalize twF l r q t = z at *
                        clear e5
                        cases z
                        all_goals
                          go_wp2
                          exact ⟨⟨q + 1, by omega, by go_num, hBq⟩, by simp [intOf]; omega⟩
                  · obtain rfl : q = k := by omega
                    have d22 : decide ((q : Int) < (q : Int)) = false := by simp
                    have d23 : decide (q < q) = false := by simp
                    go_wp2
                    go_ret
                    exact ⟨rfl, hB3.trans ((hB.trans (hBq.mono hB.size)).mono hB3.size)⟩
              · have d20 : decide ((i : Int) < 3) = true := by simp; omega
                have d21 : decide (i < 3) = true := by simp; omega
                go_wp2
                go_ret
                exact ⟨rfl, hB3.trans ((hB.trans (hBq.mono hB.size)).mono hB3.size)⟩
theorem hullHolds_law (A : Option Addr) (c : Nat) (l : List S) (w : World) (hl : Kd.C k32 w A l.length l) (hc : l.length ≤ c) (hw : Wd l) :
    Calls Tryz.prog 10 #[.slice A l.length c] w fun e w' => e = .returned (.bool true) ∧ Below w.heap.size w w' := by
  by_cases h1 : 80 < l.length
  · exact holds_long A c l w h1
  · by_cases h0 : (allF l).2 = 0
    · exact holds_good A c l w hl hc hw (by omega) h0
    · exact holds_bad A c l w hl hc hw (by omega) h0
end Go.Proofs.YtioahkblhekgpaaGreatDoor.Adm
