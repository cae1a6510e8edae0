/- What the proof needs of Hcp: only what is used is left (wip/tools/prune.py). Conditions stand in each sentence. -/
import Derived.Test.YtioahkblhekgpaaGreatDoorQHHct
import Derived.Test.YtioahkblhekgpaaGreatDoorQHGeo
set_option linter.unusedVariables false
set_option linter.unusedSimpArgs false
namespace Go.Proofs.YtioahkblhekgpaaGreatDoor.E
end Go.Proofs.YtioahkblhekgpaaGreatDoor.E
namespace Go.Proofs.YtioahkblhekgpaaGreatDoor.FltP
end Go.Proofs.YtioahkblhekgpaaGreatDoor.FltP
namespace Go.Proofs.YtioahkblhekgpaaGreatDoor.O
end Go.Proofs.YtioahkblhekgpaaGreatDoor.O
namespace Go.Proofs.YtioahkblhekgpaaGreatDoor.R
end Go.Proofs.YtioahkblhekgpaaGreatDoor.R
namespace Go.Proofs.YtioahkblhekgpaaGreatDoorW.PrintLast
end Go.Proofs.YtioahkblhekgpaaGreatDoorW.PrintLast
namespace Go.Proofs.YtioahkblhekgpaaGreatDoorW.PrintMore
end Go.Proofs.YtioahkblhekgpaaGreatDoorW.PrintMore
namespace Go.Proofs.YtioahkblhekgpaaGreatDoorW.PrintWords
end Go.Proofs.YtioahkblhekgpaaGreatDoorW.PrintWords
namespace Go.Proofs.YtioahkblhekgpaaGreatDoor.Adm
open Go.RowKit Go.Proofs.YtioahkblhekgpaaGreatDoor.FltP Go.Proofs.YtioahkblhekgpaaGreatDoor.R Go.Proofs.YtioahkblhekgpaaGreatDoor.E Go.Proofs.YtioahkblhekgpaaGreatDoor.O Go.Proofs.YtioahkblhekgpaaGreatDoorW.PrintWords Go.Proofs.YtioahkblhekgpaaGreatDoorW.PrintLast Go.Proofs.YtioahkblhekgpaaGreatDoorW.PrintMore
set_option maxRecDepth 100000 in
set_option maxHeartbeats 4000000 in
theorem counts_long (A : Option Addr) (c : Nat) (l : List S) (place : Int) (w : World) (h1 : 80 < l.length) :
    Calls Tryz.prog 11 #[.slice A l.length c, .int .i64 place] w fun e w' => e = .returned (.bool true) ∧ Below w.heap.size w w' := by
  have d1 : decide ((80 : Int) < (l.length : Int)) = true := by simp; omega
  have d2 : decide (80 < l.length) = true := by simp; omega
  go_enter Tryz.func11, Tryz.ntmps11
  go_wp2_with (go_at_call 31; (with_reducible refine (awake_call _).mono ?_); rintro u w1 ⟨rfl, hb1⟩)
  go_ret
  exact ⟨rfl, hb1⟩
set_option maxRecDepth 100000 in
set_option maxHeartbeats 4000000 in
theorem counts_none (A : Option Addr) (c : Nat) (place : Int) (w : World) :
    Calls Tryz.prog 11 #[.slice A 0 c, .int .i64 place] w fun e w' => e = .returned (.bool true) ∧ Below w.heap.size w w' := by
  go_enter Tryz.func11, Tryz.ntmps11
  go_wp2_with (go_at_call 31; (with_reducible refine (awake_call _).mono ?_); rintro u w1 ⟨rfl, hb1⟩)
  go_ret
  exact ⟨rfl, hb1⟩
set_option maxRecDepth 100000 in
set_option maxHeartbeats 4000000 in
theorem counts_bad (A : Option Addr) (c : Nat) (l : List S) (place : Int) (w : World) (hl : Kd.C k32 w A l.length l) (hc : l.length ≤ c) (hw : Wd l) (h1 : l.length ≤ 80) (hz : 0 < l.length) (h0 : (allF l).2 ≠ 0) :
    Calls Tryz.prog 11 #[.slice A l.length c, .int .i64 place] w fun e w' => e = .returned (.bool true) ∧ Below w.heap.size w w' := by
  have hco := corners_calls A c l
  have HC := Aside0.mk hc
  have H0 := Aside0.mk (decide_eq_false h0)
  have d1 : decide ((80 : Int) < (l.length : Int)) = false := by simp; omega
  have d2 : decide (80 < l.length) = false := by simp; omega
  have d3 : ((l.length : Int) == 0) = false := by simp; intro h; subst h; simp at hz
  have d4 : (l.length == 0) = false := by simp; intro h; subst h; simp at hz
  clear hc h0
  go_enter Tryz.func11, Tryz.ntmps11
  go_wp2_with (first
    | (go_at_call 31; (with_reducible refine (awake_call _).mono ?_); rintro u w1 ⟨rfl, hb1⟩)
    | (go_at_call 41; (with_reducible refine (hco _ (Kd.C_below hl hb1) HC.out hw).mono ?_); rintro u w2 ⟨v2, rfl, hR2, hb2⟩; rw [H0.out]; have hB2 := hb1.trans (hb2.mono hb1.size); clear hb2 hR2))
  go_ret
  exact ⟨rfl, hB2⟩
theorem counts_calls (A : Option Addr) (c : Nat) (l : List S) (place : Int) (w : World) (hl : Kd.C k32 w A l.length l) (hc : l.length ≤ c) (hw : Wd l)
    (hsl : (allF l).2 = 0 → Same l l) (hrev : (allF l).2 = 0 → Same l l.reverse) (hdel : (allF l).2 = 0 → ∀ k, k < l.length → corF l k (cornersAll l).length = false → Same l ([] ++ l.take k ++ l.drop (k + 1))) :
    Calls Tryz.prog 11 #[.slice A l.length c, .int .i64 place] w fun e w' => e = .returned (.bool true) ∧ Below w.heap.size w w' := by
  by_cases h1 : 80 < l.length
  · exact counts_long A c l place w h1
  · by_cases hz : l.length = 0
    · rw [hz]; exact counts_none A c place w
    · by_cases h0 : (allF l).2 = 0
      · exact counts_good A c l place w hl hc hw (by omega) (by omega) h0 (hsl h0) (hrev h0) (hdel h0)
      · exact counts_bad A c l place w hl hc hw (by omega) (by omega) h0
end Go.Proofs.YtioahkblhekgpaaGreatDoor.Adm
namespace Go.Proofs.YtioahkblhekgpaaGreatDoor.Geo
def Ep (Q : Pt → Prop) (x y : Pt) : Prop := Q x ∧ Q y ∧ x ≠ y ∧ ∀ c, Q c → 0 ≤ det x y c ∧ (det x y c = 0 → c = x ∨ c = y ∨ Btw x c y)
def AdjP (R : Pt → Pt → Prop) : List Pt → Prop
  | a :: b :: l => R a b ∧ AdjP R (b :: l)
  | _ => True
theorem AdjP.mono {R T : Pt → Pt → Prop} : ∀ {l : List Pt}, (∀ a ∈ l, ∀ b ∈ l, R a b → T a b) → AdjP R l → AdjP T l
  | [], _, _ => trivial
  | [_], _, _ => trivial
  | a :: b :: l, h, k => ⟨h a (by simp) b (by simp) k.1, AdjP.mono (fun x hx y hy => h x (List.mem_cons_of_mem _ hx) y (List.mem_cons_of_mem _ hy)) k.2⟩
theorem AdjP.map {R : Nat → Nat → Prop} {T : Pt → Pt → Prop} {P : Nat → Pt} : ∀ {l : List Nat}, (∀ a ∈ l, ∀ b ∈ l, R a b → T (P a) (P b)) → Adj R l → AdjP T (l.map P)
  | [], _, _ => trivial
  | [_], _, _ => trivial
  | a :: b :: l, h, k => ⟨h a (by simp) b (by simp) k.1, AdjP.map (l := b :: l) (fun x hx y hy => h x (List.mem_cons_of_mem _ hx) y (List.mem_cons_of_mem _ hy)) k.2⟩
theorem Ep_unique {Q : Pt → Prop} {a b b' : Pt} (h : Ep Q a b) (h' : Ep Q a b') : b = b' := by
  have k1 := h.2.2.2 b' h'.2.1
  have k2 := h'.2.2.2 b h.2.1
  have k3 := det_swap2 a b b'
  have z1 : det a b b' = 0 := by omega
  have z2 : det a b' b = 0 := by omega
  rcases k1.2 z1 with h1 | h1 | h1
  · exact absurd h1.symm h'.2.2.1
  · exact h1.symm
  · rcases k2.2 z2 with h2 | h2 | h2
    · exact absurd h2.symm h.2.2.1
    · exact h2
    · exfalso
      rcases h1 with ⟨x1, x2⟩ | ⟨x1, x2⟩ <;> rcases h2 with ⟨y1, y2⟩ | ⟨y1, y2⟩
      · exact x2.asymm y2
      · exact (x1.trans x2).asymm y2
      · exact (y1.trans y2).asymm x2
      · exact x1.asymm y1
theorem pathP_eq {R : Pt → Pt → Prop} {z : Pt} (hR : ∀ a b c, R a b → R a c → b = c) : ∀ (s s' : List Pt) (x : Pt), AdjP R (x :: s ++ [z]) → AdjP R (x :: s' ++ [z]) → z ∉ s → z ∉ s' → s = s'
  | [], [], _, _, _, _, _ => rfl
  | [], y :: s', x, h1, h2, _, n2 => by
    exfalso; exact n2 (by rw [hR x z y h1.1 h2.1]; simp)
  | y :: s, [], x, h1, h2, n1, _ => by
    exfalso; exact n1 (by rw [hR x z y h2.1 h1.1]; simp)
  | y :: s, y' :: s', x, h1, h2, n1, n2 => by
    have : y = y' := hR x y y' h1.1 h2.1
    subst this
    rw [pathP_eq hR s s' y h1.2 h2.2 (fun h => n1 (by simp [h])) (fun h => n2 (by simp [h]))]
def Ring (Q : Pt → Prop) (h : List Pt) : Prop := ∃ x t, h = x :: t ∧ Q x ∧ (∀ q, Q q → q = x ∨ Ahead x q) ∧ AdjP (Ep Q) (x :: t ++ [x]) ∧ x ∉ t
def Corners (Q : Pt → Prop) (h : List Pt) : Prop := ((∀ q, ¬ Q q) ∧ h = []) ∨ (∃ x, Q x ∧ (∀ q, Q q → q = x) ∧ h = [x]) ∨ Ring Q h
theorem least_eq {Q : Pt → Prop} {x y : Pt} (hx : Q x) (hy : Q y) (h : ∀ q, Q q → q = x ∨ Ahead x q) (k : ∀ q, Q q → q = y ∨ Ahead y q) : x = y := by
  rcases h y hy with e | e
  · exact e.symm
  · rcases k x hx with f | f
    · exact f
    · exact absurd f (fun f => e.asymm f)
theorem Ring.two {Q : Pt → Prop} {h : List Pt} (r : Ring Q h) : ∃ x y, Q x ∧ Q y ∧ x ≠ y := by
  obtain ⟨x, t, -, -, -, ha, -⟩ := r
  cases t with
  | nil => exact absurd rfl ha.1.2.2.1
  | cons y t => exact ⟨x, y, ha.1.1, ha.1.2.1, ha.1.2.2.1⟩
theorem Ring.eq {Q : Pt → Prop} {h k : List Pt} (r : Ring Q h) (s : Ring Q k) : h = k := by
  obtain ⟨x, t, rfl, hx, lx, ax, nx⟩ := r
  obtain ⟨y, u, rfl, hy, ly, ay, ny⟩ := s
  have e := least_eq hx hy lx ly
  subst e
  rw [pathP_eq (R := Ep Q) (fun a b c => Ep_unique) t u x ax ay nx ny]
theorem Corners.eq {Q : Pt → Prop} {h k : List Pt} (r : Corners Q h) (s : Corners Q k) : h = k := by
  rcases r with ⟨a, rfl⟩ | ⟨x, a, b, rfl⟩ | r <;> rcases s with ⟨c, rfl⟩ | ⟨y, c, d, rfl⟩ | s
  · rfl
  · exact absurd c (a y)
  · obtain ⟨x, _, hx, _⟩ := s.two; exact absurd hx (a x)
  · exact absurd a (c x)
  · rw [b y c]
  · obtain ⟨p, q, hp, hq, ne⟩ := s.two; exact absurd ((b p hp).trans (b q hq).symm) ne
  · obtain ⟨x, _, hx, _⟩ := r.two; exact absurd hx (c x)
  · obtain ⟨p, q, hp, hq, ne⟩ := r.two; exact absurd ((d p hp).trans (d q hq).symm) ne
  · exact r.eq s
theorem Corners.less {Q Q' : Pt → Prop} {h : List Pt} (r : Corners Q h) (hs : ∀ c, Q' c → Q c) (hc : ∀ c ∈ h, Q' c) : Corners Q' h := by
  rcases r with ⟨a, rfl⟩ | ⟨x, a, b, rfl⟩ | ⟨x, t, rfl, hx, lx, ax, nx⟩
  · exact .inl ⟨fun q hq => a q (hs q hq), rfl⟩
  · exact .inr (.inl ⟨x, hc x (by simp), fun q hq => b q (hs q hq), rfl⟩)
  · refine .inr (.inr ⟨x, t, rfl, hc x (by simp), fun q hq => lx q (hs q hq), ?_, nx⟩)
    have hm : ∀ c ∈ x :: t ++ [x], Q' c := fun c h => by
      rcases List.mem_append.mp h with h | h
      · exact hc c h
      · rw [List.mem_singleton.mp h]; exact hc x (by simp)
    exact AdjP.mono (fun a ha b hb h => ⟨hm a ha, hm b hb, h.2.2.1, fun c k => h.2.2.2 c (hs c k)⟩) ax
end Go.Proofs.YtioahkblhekgpaaGreatDoor.Geo
namespace Go.Proofs.YtioahkblhekgpaaGreatDoor.Adm
open Go.RowKit Go.Proofs.YtioahkblhekgpaaGreatDoor.FltP Go.Proofs.YtioahkblhekgpaaGreatDoor.R Go.Proofs.YtioahkblhekgpaaGreatDoor.E Go.Proofs.YtioahkblhekgpaaGreatDoor.O Go.Proofs.YtioahkblhekgpaaGreatDoorW.PrintWords Go.Proofs.YtioahkblhekgpaaGreatDoorW.PrintLast Go.Proofs.YtioahkblhekgpaaGreatDoorW.PrintMore
theorem pt_norm {x : S} (g : gp x = true) : pt (norm x) = pt x ∧ Fini (norm x).f0 ∧ Fini (norm x).f1 := by
  have h := gp_good g
  have h0 := plus0_ok h.1.1
  have h1 := plus0_ok h.2.1
  exact ⟨by unfold pt norm; rw [h0.2.2, h1.2.2], h0.2.1, h1.2.1⟩
theorem eqP_fin {x y : S} (x0 : Fini x.f0) (x1 : Fini x.f1) (y0 : Fini y.f0) (y1 : Fini y.f1) : eqP x y = decide (pt x = pt y) := by
  unfold eqP eqF pt
  rw [eq_fin x0 y0, eq_fin x1 y1, Bool.eq_iff_iff, Bool.and_eq_true, decide_eq_true_iff, decide_eq_true_iff, decide_eq_true_iff, Prod.mk.injEq]
def hp (l : List S) : List Geo.Pt := (hullAll l false).map (PT l)
theorem PT_at (l : List S) (i : Nat) : PT l i = pt (at_ l i) := rfl
theorem map_getD {α : Type} (f : Nat → α) (d : α) {L : List Nat} {j : Nat} (h : j < L.length) : (L.map f).getD j d = f (L.getD j 0) := by
  rw [List.getD_eq_getElem?_getD, List.getD_eq_getElem?_getD, List.getElem?_map, List.getElem?_eq_getElem h]; rfl
theorem at_getD {l : List S} {i : Nat} (h : i < l.length) : at_ l i = l.getD i ⟨0, 0⟩ := by
  unfold at_; rw [rd_get h, List.getD_eq_getElem?_getD, List.getElem?_eq_getElem h]; rfl
theorem cor_at {l : List S} (h0 : (allF l).2 = 0) {j : Nat} (hj : j < (cornersAll l).length) : pt (at_ (cornersAll l) j) = (hp l).getD j (0, 0) ∧ Fini (at_ (cornersAll l) j).f0 ∧ Fini (at_ (cornersAll l) j).f1 := by
  have hgp : ∀ x ∈ l, gp x = true := ((allF_ok l).mp h0).2
  have hlt := @hull_lt l false
  have hj2 : j < (hullAll l false).length := by simpa [cornersAll] using hj
  have e : at_ (cornersAll l) j = norm (at_ l ((hullAll l false).getD j 0)) := by
    rw [at_getD hj]; exact map_getD _ _ hj2
  have g := hgp _ (rd_at (getD_lt hlt hj2))
  rw [e]
  obtain ⟨p0, p1, p2⟩ := pt_norm g
  refine ⟨?_, p1, p2⟩
  unfold hp
  rw [map_getD _ _ hj2]
  exact p0
theorem same_of {l m : List S} (h0 : (allF l).2 = 0) (h1 : (allF m).2 = 0) (h : hp m = hp l) : Same l m := by
  have hl : (cornersAll m).length = (cornersAll l).length := by
    have := congrArg List.length h
    simpa [hp, cornersAll] using this
  refine ⟨h1, hl, fun j hj => ?_⟩
  obtain ⟨a1, a2, a3⟩ := cor_at h1 (show j < (cornersAll m).length by omega)
  obtain ⟨b1, b2, b3⟩ := cor_at h0 hj
  rw [eqP_fin a2 a3 b2 b3, a1, b1, h]
  exact decide_eq_true rfl
theorem corF_no {l : List S} (h0 : (allF l).2 = 0) {k : Nat} (hk : k < l.length) (h : corF l k (cornersAll l).length = false) : PT l k ∉ hp l := by
  intro hm
  have hgp : ∀ x ∈ l, gp x = true := ((allF_ok l).mp h0).2
  obtain ⟨j, hj, e⟩ := List.mem_iff_getElem.mp hm
  have hj2 : j < (cornersAll l).length := by simpa [hp, cornersAll] using hj
  obtain ⟨b1, b2, b3⟩ := cor_at h0 hj2
  have g := gp_good (hgp _ (rd_at hk))
  unfold corF at h
  rw [List.any_eq_false] at h
  refine h j (List.mem_range.mpr hj2) ?_
  rw [eqP_fin b2 b3 (show Fini (at_ l k).f0 from g.1.1) (show Fini (at_ l k).f1 from g.2.1), b1]
  refine decide_eq_true ?_
  rw [List.getD_eq_getElem?_getD, List.getElem?_eq_getElem hj]
  exact e
def Q (l : List S) (q : Geo.Pt) : Prop := ∃ i, i < l.length ∧ PT l i = q
theorem ep_of {l : List S} {u : List Nat} (hall : ∀ i, i < l.length → ∃ k ∈ u, PT l k = PT l i) (hu : ∀ y ∈ u, y < l.length) {a b : Nat} (ha : a ∈ u) (hb : b ∈ u) (h : Geo.E (PT l) u a b) : Geo.Ep (Q l) (PT l a) (PT l b) := by
  refine ⟨⟨a, hu a ha, rfl⟩, ⟨b, hu b hb, rfl⟩, h.1, fun c hc => ?_⟩
  obtain ⟨i, hi, rfl⟩ := hc
  obtain ⟨k, hk, e⟩ := hall i hi
  rw [← e]
  exact h.2 k hk
theorem hp_corners {l : List S} (h0 : (allF l).2 = 0) : Geo.Corners (Q l) (hp l) := by
  have ho := orderN_sorted l
  have hu := unl_lt l
  have ha := Geo.unlike_asc (P := PT l) fst_iff ho
  have hall : ∀ i, i < l.length → ∃ k ∈ unlAll l, PT l k = PT l i := fun i hi => by rw [unlAll_eq h0]; exact Geo.unlike_all fst_iff ho hi
  rw [← unlAll_eq h0] at ha
  have hep := fun {a b} (x : a ∈ unlAll l) (y : b ∈ unlAll l) h => ep_of (u := unlAll l) hall hu (a := a) (b := b) x y h
  have hh : hp l = (hullAll l false).map (PT l) := rfl
  have hflat := flat_iff h0
  rw [Geo.allflat_unlike hu hall] at hflat
  unfold hullAll at hh
  rw [if_neg (by omega)] at hh
  generalize unlAll l = u at *
  match u, ha with
  | [], _ =>
    rw [if_pos (by simp)] at hh
    refine .inl ⟨fun q hq => ?_, hh⟩
    obtain ⟨i, hi, -⟩ := hq
    obtain ⟨k, hk, -⟩ := hall i hi
    simp at hk
  | [a], _ =>
    rw [if_pos (by simp)] at hh
    refine .inr (.inl ⟨PT l a, ⟨a, hu a (by simp), rfl⟩, fun q hq => ?_, hh⟩)
    obtain ⟨i, hi, rfl⟩ := hq
    obtain ⟨k, hk, e⟩ := hall i hi
    rw [← e, List.mem_singleton.mp hk]
  | a :: b :: r, ha => 
    have hleast : ∀ q, Q l q → q = PT l a ∨ Geo.Ahead (PT l a) q := fun q hq => by
      obtain ⟨i, hi, rfl⟩ := hq
      obtain ⟨k, hk, e⟩ := hall i hi
      rw [← e]
      rcases List.mem_cons.mp hk with rfl | hk
      · exact .inl rfl
      · exact .inr ((List.pairwise_cons.mp ha).1 k hk)
    have hfl : Geo.Flat (PT l) (a :: b :: r) → ∀ z, (a :: b :: r).getLast? = some z → Geo.Ring (Q l) [PT l a, PT l z] := fun hf z hz => by
      have hzm : z ∈ a :: b :: r := List.mem_of_getLast? hz
      have hzr : z ∈ b :: r := by
        have : (b :: r).getLast? = some z := by simpa [List.getLast?_cons] using hz
        exact List.mem_of_getLast? this
      have haz := (List.pairwise_cons.mp ha).1 z hzr
      have hlast : ∀ c ∈ a :: b :: r, c = z ∨ Geo.Ahead (PT l c) (PT l z) := fun c hc => by
        have e := Geo.drop_last_of hz
        rw [e] at hc ha
        rcases List.mem_append.mp hc with h | h
        · exact .inr ((List.pairwise_append.mp ha).2.2 c h z (by simp))
        · exact .inl (List.mem_singleton.mp h)
      have hbt : ∀ c ∈ a :: b :: r, PT l c = PT l a ∨ PT l c = PT l z ∨ (Geo.Ahead (PT l a) (PT l c) ∧ Geo.Ahead (PT l c) (PT l z)) := fun c hc => by
        rcases List.mem_cons.mp hc with rfl | h
        · exact .inl rfl
        · rcases hlast c hc with rfl | h2
          · exact .inr (.inl rfl)
          · exact .inr (.inr ⟨(List.pairwise_cons.mp ha).1 c h, h2⟩)
      have hne := Geo.ahead_ne haz
      refine ⟨PT l a, [PT l z], rfl, ⟨a, hu a (by simp), rfl⟩, hleast, ⟨?_, ?_, trivial⟩, fun h => hne (List.mem_singleton.mp h)⟩
      · refine hep (by simp) hzm ⟨hne, fun c hc => ⟨by rw [hf a (by simp) z hzm c hc]; exact Int.le_refl _, fun _ => ?_⟩⟩
        rcases hbt c hc with h | h | h
        · exact .inl h
        · exact .inr (.inl h)
        · exact .inr (.inr (.inl h))
      · refine hep hzm (by simp) ⟨fun h => hne h.symm, fun c hc => ⟨by rw [hf z hzm a (by simp) c hc]; exact Int.le_refl _, fun _ => ?_⟩⟩
        rcases hbt c hc with h | h | h
        · exact .inr (.inl h)
        · exact .inl h
        · exact .inr (.inr (.inr h))
    refine .inr (.inr ?_)
    by_cases h3 : (a :: b :: r).length < 3
    · rw [if_pos h3] at hh
      have hr : r = [] := List.eq_nil_of_length_eq_zero (by simp at h3; omega)
      subst hr
      rw [hh]
      exact hfl (Geo.flat_few h3) b rfl
    · rw [if_neg h3] at hh
      by_cases hf : flatAll l = true
      · rw [if_pos hf, if_neg (by decide)] at hh
        rw [hh]
        obtain ⟨z, hz⟩ : ∃ z, (a :: b :: r).getLast? = some z := ⟨_, List.getLast?_eq_some_getLast (by simp)⟩
        have e : (a :: b :: r).getD ((a :: b :: r).length - 1) 0 = z := by
          rw [List.getLast?_eq_getElem?] at hz
          rw [List.getD_eq_getElem?_getD, hz]; rfl
        rw [e]
        exact hfl (hflat.mp hf) z hz
      · rw [if_neg hf] at hh
        obtain ⟨t, e1, e2, e3⟩ := Geo.ring_spec (P := PT l) (e := false) ha (by simp)
        rw [e1] at hh
        rw [hh]
        have hm : ∀ x ∈ a :: t ++ [a], x ∈ a :: b :: r := fun x hx => by
          rcases List.mem_append.mp hx with hx | hx
          · rcases List.mem_cons.mp hx with rfl | hx
            · simp
            · exact (e3 x hx).1
          · rw [List.mem_singleton.mp hx]; simp
        refine ⟨PT l a, t.map (PT l), rfl, ⟨a, hu a (by simp), rfl⟩, hleast, ?_, fun h => ?_⟩
        · have := Geo.AdjP.map (T := Geo.Ep (Q l)) (P := PT l) (fun x hx y hy h => hep (hm x hx) (hm y hy) h) e2
          simpa using this
        · obtain ⟨x, hx, e⟩ := List.mem_map.mp h
          exact Geo.ahead_ne (e3 x hx).2 e.symm
theorem same_self {l : List S} (h0 : (allF l).2 = 0) : Same l l := same_of h0 h0 rfl
theorem ok_sub {l m : List S} (h0 : (allF l).2 = 0) (hs : ∀ x ∈ m, x ∈ l) (hl : m.length ≤ l.length) : (allF m).2 = 0 :=
  (allF_ok m).mpr ⟨Nat.le_trans hl ((allF_ok l).mp h0).1, fun x hx => ((allF_ok l).mp h0).2 x (hs x hx)⟩
theorem Q_iff {l : List S} {q : Geo.Pt} : Q l q ↔ ∃ x ∈ l, pt x = q := by
  constructor
  · rintro ⟨i, hi, rfl⟩
    exact ⟨_, rd_at hi, rfl⟩
  · rintro ⟨x, hx, rfl⟩
    obtain ⟨i, hi, rfl⟩ := List.mem_iff_getElem.mp hx
    exact ⟨i, hi, by rw [PT_at]; unfold at_; rw [rd_get hi]⟩
theorem same_rev {l : List S} (h0 : (allF l).2 = 0) : Same l l.reverse := by
  have h1 : (allF l.reverse).2 = 0 := ok_sub h0 (fun x hx => List.mem_reverse.mp hx) (by simp)
  have hq : Q l.reverse = Q l := funext fun q => propext (by rw [Q_iff, Q_iff]; simp)
  have := hp_corners h1
  rw [hq] at this
  exact same_of h0 h1 (this.eq (hp_corners h0))
theorem same_del {l : List S} (h0 : (allF l).2 = 0) {k : Nat} (hk : k < l.length) (hc : corF l k (cornersAll l).length = false) : Same l ([] ++ l.take k ++ l.drop (k + 1)) := by
  rw [List.nil_append]
  have hs : ∀ x ∈ l.take k ++ l.drop (k + 1), x ∈ l := fun x hx => (List.mem_append.mp hx).elim (fun h => List.mem_of_mem_take h) (fun h => List.mem_of_mem_drop h)
  have h1 := ok_sub h0 hs (by simp; omega)
  have hno := corF_no h0 hk hc
  have hb : l = l.take k ++ l[k] :: l.drop (k + 1) := by rw [List.getElem_cons_drop, List.take_append_drop]
  have hin : ∀ c ∈ hp l, Q (l.take k ++ l.drop (k + 1)) c := fun c hc => by
    obtain ⟨i, hi, e⟩ := List.mem_map.mp hc
    have hi2 := hull_lt i hi
    have hx : at_ l i ∈ l := rd_at hi2
    refine Q_iff.mpr ⟨at_ l i, ?_, e⟩
    have hx2 : at_ l i ∈ l.take k ++ l[k] :: l.drop (k + 1) := by rw [← hb]; exact hx
    rcases List.mem_append.mp hx2 with h | h
    · exact List.mem_append.mpr (.inl h)
    · rcases List.mem_cons.mp h with h | h
      · exfalso
        apply hno
        have : PT l k = c := by rw [PT_at, ← e, PT_at]; congr 1; rw [h]; unfold at_; rw [rd_get hk]
        rw [this]; exact hc
      · exact List.mem_append.mpr (.inr h)
  have := (hp_corners h0).less (Q' := Q (l.take k ++ l.drop (k + 1))) (fun c h => by
    obtain ⟨x, hx, e⟩ := Q_iff.mp h
    exact Q_iff.mpr ⟨x, hs x hx, e⟩) hin
  exact same_of h0 h1 ((hp_corners h1).eq this)
theorem hullCounts_run (A : Option Addr) (c : Nat) (l : List S) (place : Int) (w : World) (hl : Kd.C k32 w A l.length l) (hc : l.length ≤ c) (hw : Wd l) :
    Calls Tryz.prog 11 #[.slice A l.length c, .int .i64 place] w fun e w' => e = .returned (.bool true) ∧ Below w.heap.size w w' :=
  counts_calls A c l place w hl hc hw same_self same_rev fun h0 _ hk hc => same_del h0 hk hc
theorem hullCounts_law (A : Option Addr) (c : Nat) (l : List S) (place : Int) (w : World) (hl : Kd.C k32 w A l.length l) (hc : l.length ≤ c) (hw : Wd l) {p : Prop} (_hp : p) :
    Calls Tryz.prog 11 #[.slice A l.length c, .int .i64 place] w fun e w' => e = .returned (.bool true) ∧ Below w.heap.size w w' := hullCounts_run A c l place w hl hc hw
end Go.Proofs.YtioahkblhekgpaaGreatDoor.Adm
