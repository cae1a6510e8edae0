/- What the proof needs of Nwv, Nww, Nwx, Nwy, Nwz: only what is used is left (wip/tools/prune.py). Conditions stand in each sentence. -/
import Derived.Test.YtioahkblhekgpaaGreatDoorQKNwu
import Derived.Test.YtioahkblhekgpaaGreatDoorQKNwr
import Derived.Test.YtioahkblhekgpaaGreatDoorQKHhp
set_option linter.unusedVariables false
set_option linter.unusedSimpArgs false
namespace Go.Proofs.YtioahkblhekgpaaGreatDoor.Adm
end Go.Proofs.YtioahkblhekgpaaGreatDoor.Adm
namespace Go.Proofs.YtioahkblhekgpaaGreatDoor.E
end Go.Proofs.YtioahkblhekgpaaGreatDoor.E
namespace Go.Proofs.YtioahkblhekgpaaGreatDoor.FltP
end Go.Proofs.YtioahkblhekgpaaGreatDoor.FltP
namespace Go.Proofs.YtioahkblhekgpaaGreatDoor.NumP
end Go.Proofs.YtioahkblhekgpaaGreatDoor.NumP
namespace Go.Proofs.YtioahkblhekgpaaGreatDoor.O
end Go.Proofs.YtioahkblhekgpaaGreatDoor.O
namespace Go.Proofs.YtioahkblhekgpaaGreatDoor.R
end Go.Proofs.YtioahkblhekgpaaGreatDoor.R
namespace Go.Proofs.YtioahkblhekgpaaGreatDoorW.PrintLast
end Go.Proofs.YtioahkblhekgpaaGreatDoorW.PrintLast
namespace Go.Proofs.YtioahkblhekgpaaGreatDoorW.PrintMore
end Go.Proofs.YtioahkblhekgpaaGreatDoorW.PrintMore
namespace Go.Proofs.YtioahkblhekgpaaGreatDoorW.PrintWords
end Go.Proofs.YtioahkblhekgpaaGreatDoorW.PrintWords
namespace Go.Proofs.YtioahkblhekgpaaGreatDoor.Nw
open Go.RowKit Go.Proofs.YtioahkblhekgpaaGreatDoor.FltP Go.Proofs.YtioahkblhekgpaaGreatDoor.R Go.Proofs.YtioahkblhekgpaaGreatDoor.E Go.Proofs.YtioahkblhekgpaaGreatDoor.O Go.Proofs.YtioahkblhekgpaaGreatDoorW.PrintWords Go.Proofs.YtioahkblhekgpaaGreatDoorW.PrintLast Go.Proofs.YtioahkblhekgpaaGreatDoorW.PrintMore
open Go.Proofs.YtioahkblhekgpaaGreatDoor.NumP Go.Proofs.YtioahkblhekgpaaGreatDoor.Adm
def okk (l : List S) (a b k : Nat) : Bool := decide (0 < sgnS (at_ l a) (at_ l b) (at_ l k)) || (decide (sgnS (at_ l a) (at_ l b) (at_ l k) = 0) && onS (at_ l a) (at_ l b) (at_ l k))
def okF (l : List S) (u : List Nat) (a b : Nat) : Bool := decide (b ≠ a) && u.all (okk l a b)
theorem okk_iff {l : List S} {a b k : Nat} (hab : PT l a ≠ PT l b) : okk l a b k = true ↔ 0 ≤ Geo.det (PT l a) (PT l b) (PT l k) ∧ (Geo.det (PT l a) (PT l b) (PT l k) = 0 → PT l k = PT l a ∨ PT l k = PT l b ∨ Geo.Btw (PT l a) (PT l k) (PT l b)) := by
 have hs : sgnS (at_ l a) (at_ l b) (at_ l k) = (Geo.det (PT l a) (PT l b) (PT l k)).sign := rfl
 have ho : onS (at_ l a) (at_ l b) (at_ l k) = (decide (sgnS (at_ l a) (at_ l b) (at_ l k) = 0) && (decide (Geo.within (PT l a).1 (PT l b).1 (PT l k).1) && decide (Geo.within (PT l a).2 (PT l b).2 (PT l k).2))) := rfl
 unfold okk
 rw [ho, hs, Bool.or_eq_true, Bool.and_eq_true, Bool.and_eq_true, Bool.and_eq_true, decide_eq_true_iff, decide_eq_true_iff, decide_eq_true_iff, decide_eq_true_iff, Int.sign_eq_zero_iff_zero]
 have hon := @Geo.on_iff (PT l a) (PT l b) (PT l k) hab
 generalize Geo.det (PT l a) (PT l b) (PT l k) = d at *
 rcases Int.lt_trichotomy d 0 with h | h | h
 ·have : d.sign = -1 := Int.sign_eq_neg_one_of_neg h
  rw [this]
  constructor
  ·rintro (h1 | h1)
   ·omega
   ·omega
  ·rintro ⟨h1, -⟩; omega
 ·subst h
  constructor
  ·rintro (h1 | h1)
   ·simp at h1
   ·exact ⟨Int.le_refl _, fun _ => (hon rfl).mp h1.2.2⟩
  ·rintro ⟨-, h1⟩
   exact .inr ⟨rfl, rfl, (hon rfl).mpr (h1 rfl)⟩
 ·have : d.sign = 1 := Int.sign_eq_one_of_pos h
  rw [this]
  exact ⟨fun _ => ⟨by omega, fun h1 => by omega⟩, fun _ => .inl (by omega)⟩
theorem asc_inj {P : Nat → Geo.Pt} {u : List Nat} (h : Geo.Asc P u) {a b : Nat} (ha : a ∈ u) (hb : b ∈ u) (e : P a = P b) : a = b := by
 obtain ⟨i, hi, rfl⟩ := List.mem_iff_getElem.mp ha
 obtain ⟨j, hj, rfl⟩ := List.mem_iff_getElem.mp hb
 rcases Nat.lt_trichotomy i j with k | k | k
 ·exact absurd e (Geo.ahead_ne (List.pairwise_iff_getElem.mp h i j hi hj k))
 ·subst k; rfl
 ·exact absurd e.symm (Geo.ahead_ne (List.pairwise_iff_getElem.mp h j i hj hi k))
theorem unl_asc {l : List S} (h0 : (allF l).2 = 0) : Geo.Asc (PT l) (unlAll l) := by
 have ha := Geo.unlike_asc (P := PT l) fst_iff (orderN_sorted l)
 rw [← unlAll_eq h0] at ha
 exact ha
theorem unl_all {l : List S} (h0 : (allF l).2 = 0) : ∀ i, i < l.length → ∃ k ∈ unlAll l, PT l k = PT l i := fun i hi => by
 rw [unlAll_eq h0]; exact Geo.unlike_all fst_iff (orderN_sorted l) hi
theorem okF_iff {l : List S} (h0 : (allF l).2 = 0) {a b : Nat} (ha : a ∈ unlAll l) (hb : b ∈ unlAll l) : okF l (unlAll l) a b = true ↔ Geo.Ep (Q l) (PT l a) (PT l b) := by
 have hu := unl_lt l
 unfold okF
 rw [Bool.and_eq_true, decide_eq_true_iff, List.all_eq_true]
 constructor
 ·rintro ⟨h1, h2⟩
  have hab : PT l a ≠ PT l b := fun e => h1 (asc_inj (unl_asc h0) ha hb e).symm
  refine ⟨⟨a, hu a ha, rfl⟩, ⟨b, hu b hb, rfl⟩, hab, fun c hc => ?_⟩
  obtain ⟨i, hi, rfl⟩ := hc
  obtain ⟨k, hk, e⟩ := unl_all h0 i hi
  rw [← e]
  exact (okk_iff hab).mp (h2 k hk)
 ·rintro ⟨-, -, hab, h2⟩
  exact ⟨fun e => hab (by rw [e]), fun k hk => (okk_iff hab).mpr (h2 _ ⟨k, hu k hk, rfl⟩)⟩
theorem ring_mem' {l : List S} {ed : Bool} : ∀ y ∈ hullAll l ed, y ∈ unlAll l := fun y hy => by
 unfold hullAll at hy
 split at hy
 ·simp at hy
 ·split at hy
  ·exact hy
  ·rename_i h3
   split at hy
   ·split at hy
    ·exact hy
    ·simp only [List.mem_cons, List.not_mem_nil, or_false] at hy
     rcases hy with hy | hy <;> subst hy
     ·rw [getD_at (by omega)]; exact List.getElem_mem _
     ·rw [getD_at (by omega)]; exact List.getElem_mem _
   ·exact ring_mem hy
theorem wrap_next {l : List S} (h0 : (allF l).2 = 0) (h2 : 2 ≤ (hullAll l false).length) {j b : Nat} (hj : j < (hullAll l false).length) (hb : b ∈ unlAll l) :
 okF l (unlAll l) ((hullAll l false).getD j 0) b = decide (b = (hullAll l false).getD ((j + 1) % (hullAll l false).length) 0) := by
 have hr := hp_ring h0 h2
 have hjl : j < (hp l).length := by rw [hp_len]; exact hj
 have hj1 : (j + 1) % (hullAll l false).length < (hullAll l false).length := Nat.mod_lt _ (by omega)
 have he := hr.at hjl
 rw [hp_len] at he
 unfold hp at he
 rw [map_getD (PT l) (0, 0) hj, map_getD (PT l) (0, 0) hj1] at he
 have hm : ∀ i, i < (hullAll l false).length → (hullAll l false).getD i 0 ∈ unlAll l := fun i hi => ring_mem' _ (by rw [getD_at hi]; exact List.getElem_mem _)
 rw [Bool.eq_iff_iff, okF_iff h0 (hm j hj) hb, decide_eq_true_iff]
 constructor
 ·intro h
  exact asc_inj (unl_asc h0) hb (hm _ hj1) (Geo.Ep_unique h he)
 ·intro h
  subst h
  exact he
end Go.Proofs.YtioahkblhekgpaaGreatDoor.Nw
namespace Go.Proofs.YtioahkblhekgpaaGreatDoor.Nw
open Go.RowKit Go.Proofs.YtioahkblhekgpaaGreatDoor.FltP Go.Proofs.YtioahkblhekgpaaGreatDoor.R Go.Proofs.YtioahkblhekgpaaGreatDoor.E Go.Proofs.YtioahkblhekgpaaGreatDoor.O Go.Proofs.YtioahkblhekgpaaGreatDoorW.PrintWords Go.Proofs.YtioahkblhekgpaaGreatDoorW.PrintLast Go.Proofs.YtioahkblhekgpaaGreatDoorW.PrintMore
open Go.Proofs.YtioahkblhekgpaaGreatDoor.NumP Go.Proofs.YtioahkblhekgpaaGreatDoor.Adm
set_option maxRecDepth 100000 in
set_option maxHeartbeats 4000000 in
theorem hull20_bad (A : Option Addr) (c : Nat) (l : List S) (w : World) (hl : Kd.C k32 w A l.length l) (hc : l.length ≤ c) (hw : Wd l) (h0 : (allF l).2 ≠ 0) :
 Calls Tryz.prog 35 #[.slice A l.length c] w (AroPost l false w) := by
 have ha := all20_calls A c l w hl hc hw
 have e1 : ((allF l).2 != 0) = true := bne_iff_ne.mpr h0
 have e2 : decide ((allF l).2 = 0) = false := decide_eq_false h0
 have hh : hullAll l false = [] := by unfold hullAll; rw [if_pos h0]
 unfold AroPost
 rw [hh]
 clear h0 hh
 generalize (allF l).2 = f at *
 go_enter Tryz.func35, Tryz.ntmps35
 go_wp2_with (go_at_call 65; (with_reducible refine ha.mono ?_); rintro u w1 ⟨rfl, hb1⟩)
 go_ret2
 exact ⟨_, rfl, Kd.R_nil .., hb1⟩
set_option maxRecDepth 100000 in
set_option maxHeartbeats 4000000 in
theorem hull20_few (A : Option Addr) (c : Nat) (l : List S) (w : World) (hl : Kd.C k32 w A l.length l) (hc : l.length ≤ c) (hw : Wd l) (h0 : (allF l).2 = 0) (h2 : (unlAll l).length < 2) :
 Calls Tryz.prog 35 #[.slice A l.length c] w (AroPost l false w) := by
 have ha := all20_calls A c l w hl hc hw
 have hun := fun W (hb : Below w.heap.size w W) => unlike07_calls A c l W (Kd.C_below hl hb) hc h0
 have hh : hullAll l false = unlAll l := by unfold hullAll; rw [if_neg (by simp [h0]), if_pos (by omega)]
 unfold AroPost
 rw [hh]
 rw [h0] at ha ⊢
 clear h0 hh hl hw
 generalize unlAll l = u at *
 have d1 : decide ((u.length : Int) < 2) = true := by simp; omega
 have d2 : decide (u.length < 2) = true := by simp; omega
 go_enter Tryz.func35, Tryz.ntmps35
 go_wp2_with (first
  | (go_at_call 65; (with_reducible refine ha.mono ?_); rintro u_ w1 ⟨rfl, hb1⟩)
  | (go_at_call 21; (with_reducible refine (hun _ hb1).mono ?_); rintro u_ w2 ⟨v2, rfl, hR2, hb2⟩; obtain ⟨A2, c2, rfl⟩ := Kd.R_slice hR2; rw [zi_length] at hR2 ⊢))
 go_ret2
 exact ⟨_, rfl, Kd.R_lower hR2 hb1.size, hb1.trans (hb2.mono hb1.size)⟩
theorem two_below {w w1 : World} {p1 p2 : Addr} {v1 v2 : Value} (hb : Below w.heap.size w w1) (h : w.cell? p1 = some v1 ∧ w.cell? p2 = some v2) : w1.cell? p1 = some v1 ∧ w1.cell? p2 = some v2 := ⟨bcell hb h.1, bcell hb h.2⟩
theorem one_own {W : World} {base : Nat} (x : Nat) (hb : base ≤ W.heap.size) : Kd.R (Kd.int .i64) 3 (W.alloc (.cells #[.int .i64 x] 3)) base (fun _ => True) (.slice (some ⟨W.heap.size, 0, none⟩) 1 1) (zi [x]) :=
 Kd.R_of_own (World.ownsRow_lit W _ 1 hb (by simp [maxLen]) rfl) (fun _ _ => trivial)
set_option maxRecDepth 100000 in
set_option maxHeartbeats 4000000 in
theorem hull20_flat (A : Option Addr) (c : Nat) (l : List S) (w : World) (hl : Kd.C k32 w A l.length l) (hc : l.length ≤ c) (hw : Wd l) (h0 : (allF l).2 = 0) (h2 : 2 ≤ (unlAll l).length) (hf : flatAll l = true) :
 Calls Tryz.prog 35 #[.slice A l.length c] w (AroPost l false w) := by
 have ha := all20_calls A c l w hl hc hw
 have hun := fun W (hb : Below w.heap.size w W) => unlike07_calls A c l W (Kd.C_below hl hb) hc h0
 have hfl := fun W (hb : Below w.heap.size w W) => flat07_calls A c l W (Kd.C_below hl hb) hc h0
 have hk : (unlAll l).length ≤ 1048576 := by
  have := ((allF_ok l).mp h0).1
  have h3 := List.length_filter_le (fst (PT l)) (orderN l)
  rw [← unlAll_eq h0, (orderN_sorted l).length] at h3
  omega
 have hh : hullAll l false = [(unlAll l).getD 0 0, (unlAll l).getD ((unlAll l).length - 1) 0] := by
  unfold hullAll
  rw [if_neg (by simp [h0])]
  split
  ·rename_i h3
   match hu : unlAll l with
   | [] => rw [hu] at h2; simp at h2
   | [a] => rw [hu] at h2; simp at h2
   | [a, b] => rfl
   | a :: b :: d :: r => rw [hu] at h3; simp at h3; omega
  ·first | rfl | (rw [if_pos hf]; rfl)
 unfold AroPost
 rw [hh]
 rw [h0] at ha ⊢
 rw [hf] at hfl
 clear h0 hh hl hw hf
 generalize unlAll l = u at *
 obtain ⟨n, hn⟩ : ∃ n, n = u.length := ⟨_, rfl⟩
 have HN := Aside0.mk hn
 rw [← hn] at h2 hk ⊢
 obtain ⟨j, hj⟩ : ∃ j, j = n - 1 := ⟨_, rfl⟩
 rw [← hj]
 have i1 : IntKind.i64.wrap ((n : Int) - 1) = (j : Int) := by rw [wrapI _ (by omega) (by omega)]; omega
 have d1 : decide ((n : Int) < 2) = false := by simp; omega
 have d2 : decide (n < 2) = false := by simp; omega
 have d3 : decide ((0 : Int) < (n : Int)) = true := by simp; omega
 have d4 : decide (0 < n) = true := by simp; omega
 have d5 : decide ((j : Int) < (n : Int)) = true := by simp; omega
 have d6 : decide (j < n) = true := by simp; omega
 have hjn : j < n := by omega
 have h0n : 0 < n := by omega
 have h0i : (0 : Int) < (n : Int) := by omega
 clear hn hj
 go_enter Tryz.func35, Tryz.ntmps35
 go_wp2_with (first
  | (go_at_call 65; (with_reducible refine ha.mono ?_); rintro u_ w1 ⟨rfl, hb1⟩)
  | (go_at_call 21; (with_reducible refine (hun _ hb1).mono ?_); rintro u_ w2 ⟨v2, rfl, hR2, hb2⟩; obtain ⟨A2, c2, rfl⟩ := Kd.R_slice hR2; rw [zi_length, ← HN.out] at hR2 ⊢; have hB2 := hb1.trans (hb2.mono hb1.size))
  | (go_at_call 22; (with_reducible refine (hfl _ hB2).mono ?_); rintro u_ w3 ⟨rfl, hb3⟩; have hB3 := hB2.trans (hb3.mono hB2.size); have hC3 := (Kd.R_reads' (Kd.R_below hR2 hb3)).2.2; rw [zi_length, ← HN.out] at hC3))
 obtain ⟨ub, uo, rfl, hz⟩ := row_at hC3 (by omega)
 have r0 := hz 0 (by omega)
 have r1 := hz j (by omega)
 rw [rdz (by rw [← HN.out]; omega)] at r0 r1
 obtain ⟨x0, hx0⟩ : ∃ x0, x0 = u.getD 0 0 := ⟨_, rfl⟩
 obtain ⟨x1, hx1⟩ : ∃ x1, x1 = u.getD j 0 := ⟨_, rfl⟩
 rw [← hx0] at r0
 rw [← hx1] at r1
 have HX := Aside0.mk (And.intro hx0 hx1)
 clear hx0 hx1
 replace r0 : w3.cell? ⟨ub, uo, none⟩ = some (.int .i64 x0) := r0
 clear hz hC3 hR2 ha hun hfl
 have hX : w3.cell? ⟨ub, uo, none⟩ = some (.int .i64 x0) ∧ w3.cell? ⟨ub, uo + j, none⟩ = some (.int .i64 x1) := ⟨r0, r1⟩
 have hb0 := Below.refl w3.heap.size w3
 clear r0 r1 hb1 hb2 hb3 hB2
 go_region_held3 (fun W' => W'.cell? ⟨ub, uo, none⟩ = some (.int .i64 x0) ∧ W'.cell? ⟨ub, uo + j, none⟩ = some (.int .i64 x1))
  (first | exact hX | (refine two_below ?_ hX; (with_reducible (repeat (first | assumption | apply below_drew1 | apply below_alloc | apply pw_below_drewN)))))
  (fail)
 all_goals
  go_wp2
  go_ret2
  exact ⟨_, rfl, by rw [← HX.out.1, ← HX.out.2]; exact Kd.R_drew (two_own x0 x1 hB3.size), below_drew1 (below_alloc hB3 _)⟩
end Go.Proofs.YtioahkblhekgpaaGreatDoor.Nw
namespace Go.Proofs.YtioahkblhekgpaaGreatDoor.Nw
open Go.RowKit Go.Proofs.YtioahkblhekgpaaGreatDoor.FltP Go.Proofs.YtioahkblhekgpaaGreatDoor.R Go.Proofs.YtioahkblhekgpaaGreatDoor.E Go.Proofs.YtioahkblhekgpaaGreatDoor.O Go.Proofs.YtioahkblhekgpaaGreatDoorW.PrintWords Go.Proofs.YtioahkblhekgpaaGreatDoorW.PrintLast Go.Proofs.YtioahkblhekgpaaGreatDoorW.PrintMore
open Go.Proofs.YtioahkblhekgpaaGreatDoor.NumP Go.Proofs.YtioahkblhekgpaaGreatDoor.Adm
theorem hull_facts {l : List S} (h0 : (allF l).2 = 0) (h2 : 2 ≤ (unlAll l).length) :
 2 ≤ (hullAll l false).length ∧ (hullAll l false).length ≤ (unlAll l).length ∧ (hullAll l false).getD 0 0 = (unlAll l).getD 0 0 ∧ (hullAll l false).Nodup ∧ ∀ j, j < (hullAll l false).length → (hullAll l false).getD j 0 ∈ unlAll l := by
 have hu := unl_lt l
 have ha := unl_asc h0
 have hm : ∀ j, j < (hullAll l false).length → (hullAll l false).getD j 0 ∈ unlAll l := fun j hj => ring_mem' (ed := false) _ (by rw [getD_at hj]; exact List.getElem_mem _)
 have m0 : (unlAll l).getD 0 0 ∈ unlAll l := by rw [getD_at (by omega)]; exact List.getElem_mem _
 have m1 : (unlAll l).getD 1 0 ∈ unlAll l := by rw [getD_at (by omega)]; exact List.getElem_mem _
 have h01 : PT l ((unlAll l).getD 0 0) ≠ PT l ((unlAll l).getD 1 0) := by
  rw [getD_at (by omega), getD_at (by omega)]
  exact Geo.ahead_ne (List.pairwise_iff_getElem.mp ha 0 1 (by omega) (by omega) (by omega))
 have hr : Geo.Ring (Q l) (hp l) := by
  rcases hp_corners h0 with ⟨hn, -⟩ | ⟨x, -, hx, -⟩ | r
  ·exact absurd ⟨_, hu _ m0, rfl⟩ (hn (PT l ((unlAll l).getD 0 0)))
  ·exact absurd ((hx _ ⟨_, hu _ m0, rfl⟩).trans (hx _ ⟨_, hu _ m1, rfl⟩).symm) h01
  ·exact r
 have hlen := hr.len
 rw [hp_len] at hlen
 have hnd : (hullAll l false).Nodup := by
  have := hr.nodup
  unfold hp at this
  exact List.Pairwise.of_map (PT l) (fun a b hab e => hab (by rw [e])) this
 refine ⟨hlen, Geo.nodup_le _ _ hnd (fun x hx => ring_mem' x hx), ?_, hnd, hm⟩
 obtain ⟨x, t, ht, hq, hle, -, -⟩ := hr
 have e0 : PT l ((hullAll l false).getD 0 0) = x := by
  have h3 : (hp l).getD 0 (0, 0) = x := by rw [ht]; rfl
  unfold hp at h3
  rw [map_getD (PT l) (0, 0) (by omega)] at h3
  exact h3
 refine asc_inj ha (hm 0 (by omega)) m0 (e0.trans (Geo.least_eq hq ⟨_, hu _ m0, rfl⟩ hle fun q hqq => ?_))
 obtain ⟨i, hi, rfl⟩ := hqq
 obtain ⟨k, hk, e⟩ := unl_all h0 i hi
 rw [← e]
 obtain ⟨p, hpl, rfl⟩ := List.mem_iff_getElem.mp hk
 rw [getD_at (by omega)]
 rcases Nat.eq_zero_or_pos p with hz | hz
 ·subst hz; exact .inl rfl
 ·exact .inr (List.pairwise_iff_getElem.mp ha 0 p (by omega) hpl hz)
end Go.Proofs.YtioahkblhekgpaaGreatDoor.Nw
namespace Go.Proofs.YtioahkblhekgpaaGreatDoor.Nw
open Go.RowKit Go.Proofs.YtioahkblhekgpaaGreatDoor.FltP Go.Proofs.YtioahkblhekgpaaGreatDoor.R Go.Proofs.YtioahkblhekgpaaGreatDoor.E Go.Proofs.YtioahkblhekgpaaGreatDoor.O Go.Proofs.YtioahkblhekgpaaGreatDoorW.PrintWords Go.Proofs.YtioahkblhekgpaaGreatDoorW.PrintLast Go.Proofs.YtioahkblhekgpaaGreatDoorW.PrintMore
open Go.Proofs.YtioahkblhekgpaaGreatDoor.NumP Go.Proofs.YtioahkblhekgpaaGreatDoor.Adm
theorem all_take (f : Nat → Bool) (u : List Nat) {k : Nat} (h : k < u.length) : (u.take (k + 1)).all f = ((u.take k).all f && f (u.getD k 0)) := by
 rw [List.take_add_one, List.getElem?_eq_getElem h, List.all_append, getD_at h]
 simp
theorem all_part {f : Nat → Bool} {u : List Nat} {k : Nat} (h : (u.take k).all f = false) : u.all f = false := by
 cases hf : u.all f with
 | false => rfl
 | true =>
  have := List.all_eq_true.mp hf
  rw [← h, List.all_eq_true.mpr (fun x hx => this x (List.take_subset _ _ hx))]
theorem take_one (H : List Nat) {q : Nat} (h : q < H.length) : H.take q ++ [H.getD q 0] = H.take (q + 1) := by
 rw [List.take_add_one, List.getElem?_eq_getElem h, getD_at h]; rfl
theorem seven_below {w w1 : World} {p1 p2 p3 p4 p5 p6 p7 : Addr} {v1 v2 v3 v4 v5 v6 v7 : Value} (hb : Below w.heap.size w w1) (h : w.cell? p1 = some v1 ∧ w.cell? p2 = some v2 ∧ w.cell? p3 = some v3 ∧ w.cell? p4 = some v4 ∧ w.cell? p5 = some v5 ∧ w.cell? p6 = some v6 ∧ w.cell? p7 = some v7) :
 w1.cell? p1 = some v1 ∧ w1.cell? p2 = some v2 ∧ w1.cell? p3 = some v3 ∧ w1.cell? p4 = some v4 ∧ w1.cell? p5 = some v5 ∧ w1.cell? p6 = some v6 ∧ w1.cell? p7 = some v7 :=
 ⟨bcell hb h.1, bcell hb h.2.1, bcell hb h.2.2.1, bcell hb h.2.2.2.1, bcell hb h.2.2.2.2.1, bcell hb h.2.2.2.2.2.1, bcell hb h.2.2.2.2.2.2⟩
set_option maxRecDepth 100000 in
set_option maxHeartbeats 8000000 in
theorem hull20_main (A : Option Addr) (c : Nat) (l : List S) (w : World) (hl : Kd.C k32 w A l.length l) (hc : l.length ≤ c) (hw : Wd l) (h0 : (allF l).2 = 0) (h2 : 2 ≤ (unlAll l).length) (hf : flatAll l = false) :
 Calls Tryz.prog 35 #[.slice A l.length c] w (AroPost l false w) := by
 have hu32 := Tryz.underlying32
 have ha := all20_calls A c l w hl hc hw
 have hun := fun W (hb : Below w.heap.size w W) => unlike07_calls A c l W (Kd.C_below hl hb) hc h0
 have hfl := fun W (hb : Below w.heap.size w W) => flat07_calls A c l W (Kd.C_below hl hb) hc h0
 have hgp := ((allF_ok l).mp h0).2
 have hln := ((allF_ok l).mp h0).1
 have hk : (unlAll l).length ≤ 1048576 := by
  have h3 := List.length_filter_le (fst (PT l)) (orderN l)
  rw [← unlAll_eq h0, (orderN_sorted l).length] at h3
  omega
 obtain ⟨f1, f2, f3, f4, f5⟩ := hull_facts h0 h2
 have hnx := fun j b (hj : j < (hullAll l false).length) (hb : b ∈ unlAll l) => wrap_next h0 f1 hj hb
 have hul := unl_lt l
 have hun2 : (unlAll l).Nodup := asc_nodup (unl_asc h0)
 have hsg : ∀ i j k, i < l.length → j < l.length → k < l.length → ∀ W, Calls Tryz.prog 66 #[.agg #[.float .f64 (at_ l i).f0, .float .f64 (at_ l i).f1], .agg #[.float .f64 (at_ l j).f0, .float .f64 (at_ l j).f1], .agg #[.float .f64 (at_ l k).f0, .float .f64 (at_ l k).f1]] W fun e w' => e = .returned (.int .i64 (sgnS (at_ l i) (at_ l j) (at_ l k))) ∧ Below W.heap.size W w' :=
  fun i j k hi hj hk W => sign04_call (hgp _ (rd_at hi)) (hgp _ (rd_at hj)) (hgp _ (rd_at hk)) W
 have hon : ∀ i j k, i < l.length → j < l.length → k < l.length → ∀ W, Calls Tryz.prog 67 #[.agg #[.float .f64 (at_ l i).f0, .float .f64 (at_ l i).f1], .agg #[.float .f64 (at_ l j).f0, .float .f64 (at_ l j).f1], .agg #[.float .f64 (at_ l k).f0, .float .f64 (at_ l k).f1]] W fun e w' => e = .returned (.bool (onS (at_ l i) (at_ l j) (at_ l k))) ∧ Below W.heap.size W w' :=
  fun i j k hi hj hk W => on04_call (hgp _ (rd_at hi)) (hgp _ (rd_at hj)) (hgp _ (rd_at hk)) W
 have HSG := Aside0.mk hsg
 have HON := Aside0.mk hon
 have HOK : Aside0 (∀ a b k, okk l a b k = (decide (0 < sgnS (at_ l a) (at_ l b) (at_ l k)) || (decide (sgnS (at_ l a) (at_ l b) (at_ l k) = 0) && onS (at_ l a) (at_ l b) (at_ l k)))) := ⟨fun _ _ _ => rfl⟩
 unfold AroPost
 rw [h0] at ha ⊢
 rw [hf] at hfl
 have hokF : ∀ a b, okF l (unlAll l) a b = (decide (b ≠ a) && (unlAll l).all (okk l a b)) := fun _ _ => rfl
 clear h0 hw hf hgp hsg hon
 generalize hullAll l false = H at *
 generalize unlAll l = u at *
 have HKF := Aside0.mk (And.intro hnx hokF)
 clear hnx hokF
 obtain ⟨m, hm⟩ : ∃ m, m = u.length := ⟨_, rfl⟩
 obtain ⟨n, hn⟩ : ∃ n, n = H.length := ⟨_, rfl⟩
 rw [← hm] at h2 hk f2
 rw [← hn] at f1 f2 f5
 have HM := Aside0.mk (And.intro hm hn)
 have HU := Aside0.mk (And.intro hun2 (And.intro hul f5))
 have HH := Aside0.mk (And.intro f3 f4)
 clear hm hn hul hun2 f3 f4 f5
 have d1 : decide ((m : Int) < 2) = false := by simp; omega
 have d2 : decide (m < 2) = false := by simp; omega
 have d3 : decide ((0 : Int) < (m : Int)) = true := by simp; omega
 have d4 : decide (0 < m) = true := by simp; omega
 obtain ⟨x0, hx0⟩ : ∃ x0, x0 = u.getD 0 0 := ⟨_, rfl⟩
 have HX := Aside0.mk hx0
 clear hx0
 go_enter Tryz.func35, Tryz.ntmps35
 go_wp2_with (first
  | (go_at_call 65; (with_reducible refine ha.mono ?_); rintro u_ w1 ⟨rfl, hb1⟩)
  | (go_at_call 21; (with_reducible refine (hun _ hb1).mono ?_); rintro u_ w2 ⟨v2, rfl, hR2, hb2⟩; obtain ⟨A2, c2, rfl⟩ := Kd.R_slice hR2; rw [zi_length, ← HM.out.1] at hR2 ⊢; have hB2 := hb1.trans (hb2.mono hb1.size))
  | (go_at_call 22; (with_reducible refine (hfl _ hB2).mono ?_); rintro u_ w3 ⟨rfl, hb3⟩; have hB3 := hB2.trans (hb3.mono hB2.size); have hC3 := (Kd.R_reads' (Kd.R_below hR2 hb3)).2.2; rw [zi_length, ← HM.out.1] at hC3; clear hR2 hb1 hb2 hb3 hB2; obtain ⟨ub, uo, rfl, hz⟩ := row_at hC3 (by omega); have r0 := hz 0 (by omega); rw [rdz (by rw [← HM.out.1]; omega), ← HX.out] at r0; replace r0 : w3.cell? ⟨ub, uo, none⟩ = some (.int .i64 x0) := r0; have HZ := Aside0.mk hz; clear hz ha hun hfl))
 go_loopw [6] (fun v6 wr => ∃ q : Nat, 1 ≤ q ∧ q ≤ n ∧ Kd.R (Kd.int .i64) 3 wr w3.heap.size (fun _ => True) v6 (zi (H.take q)) ∧ Below w3.heap.size w3 wr) (fun v6 _ => n - slLen v6)
 case atStart =>
  refine ⟨1, Nat.le_refl _, by omega, ?_, below_alloc (Below.refl _ _) _⟩
  have e1 : H.take 1 = [x0] := by
   have h1 := take_one H (q := 0) (by rw [← HM.out.2]; omega)
   rw [HH.out.1, ← HX.out] at h1
   exact h1.symm
  rw [e1]
  exact one_own x0 (Nat.le_refl _)
 case round =>
  obtain ⟨q, hq1, hqn, hR, hB⟩ := hrel
  obtain ⟨A6, c6, rfl⟩ := Kd.R_slice hR
  have hlq : (H.take q).length = q := by rw [List.length_take, ← HM.out.2]; omega
  rw [zi_length, hlq] at hR ⊢
  have HLQ := Aside0.mk hlq
  have hC6 := (Kd.R_reads' hR).2.2
  rw [zi_length, hlq] at hC6
  obtain ⟨p, hp⟩ : ∃ p, p = q - 1 := ⟨_, rfl⟩
  have i1 : IntKind.i64.wrap ((q : Int) - 1) = (p : Int) := by rw [wrapI _ (by omega) (by omega)]; omega
  have hpq : p < q := by omega
  have HP := Aside0.mk hp
  obtain ⟨ob, o_, rfl, hrow⟩ := row_at hC6 (by omega)
  have r6 := hrow p hpq
  have r7 := hrow 0 (by omega)
  rw [rdz (by rw [hlq]; exact hpq)] at r6
  rw [rdz (by rw [hlq]; omega)] at r7
  have g0 : (H.take q).getD 0 0 = x0 := by rw [List.getD_eq_getElem?_getD, List.getElem?_take_of_lt (by omega), ← List.getD_eq_getElem?_getD, HH.out.1, HX.out]
  have gp_ : (H.take q).getD p 0 = H.getD p 0 := by rw [List.getD_eq_getElem?_getD, List.getElem?_take_of_lt hpq, ← List.getD_eq_getElem?_getD]
  rw [g0] at r7
  rw [gp_] at r6
  replace r7 : wr.cell? ⟨ob, o_, none⟩ = some (.int .i64 x0) := r7
  have hau := HU.out.2.2 p (by omega)
  have hnx := fun b hb => HKF.out.1 p b (by rw [← HM.out.2]; omega) hb
  rw [← HM.out.2, show p + 1 = q from by omega] at hnx
  have hbu := HU.out.2.2 (q % n) (Nat.mod_lt _ (by omega))
  have hbn : q < n → q % n = q := fun h => Nat.mod_eq_of_lt h
  have hbz : q = n → q % n = 0 := fun h => by rw [h]; exact Nat.mod_self n
  obtain ⟨a, hae⟩ : ∃ a, a = H.getD p 0 := ⟨_, rfl⟩
  obtain ⟨b1, hbe⟩ : ∃ b1, b1 = H.getD (q % n) 0 := ⟨_, rfl⟩
  rw [← hae] at r6 hau hnx
  rw [← hbe] at hbu hnx
  obtain ⟨ix, hix, hie⟩ := List.mem_iff_getElem.mp hbu
  have HB := Aside0.mk (And.intro hbe (And.intro hbn hbz))
  have HNX := Aside0.mk hnx
  have HAU := Aside0.mk (And.intro hau (And.intro hbu hae))
  rw [← HM.out.1] at hix
  have HIE : Aside0 (u.getD ix 0 = b1) := ⟨by rw [getD_at (by rw [← HM.out.1]; exact hix)]; exact hie⟩
  have d5 : decide ((q : Int) ≤ (m : Int)) = true := by simp; omega
  have d6 : decide (q ≤ m) = true := by simp; omega
  have d7 : decide ((p : Int) < (q : Int)) = true := by simp; omega
  have d8 : decide (p < q) = true := by simp; omega
  clear hlq hp hrow g0 gp_ hau hnx hbu hbn hbz hae hbe hie hC6
  have HEX : Aside0 (q = n → b1 = x0) := ⟨fun h => by
   rw [HB.out.1, HB.out.2.2 h, HH.out.1, HX.out]⟩
  have HNE : Aside0 (q < n → b1 ≠ x0) := ⟨fun h e => by
   have h1 := HB.out.1
   rw [HB.out.2.1 h, getD_at (by rw [← HM.out.2]; exact h), e, HX.out, ← HH.out.1, getD_at (by rw [← HM.out.2]; omega)] at h1
   have := (List.getElem_inj HH.out.2).mp h1
   omega⟩
  have HTK : Aside0 (q < n → H.take q ++ [b1] = H.take (q + 1)) := ⟨fun h => by
   rw [HB.out.1, HB.out.2.1 h]; exact take_one H (by rw [← HM.out.2]; exact h)⟩
  clear HB
  go_wp2
  obtain ⟨wa, hwa⟩ : ∃ wa : World, wa = wr := ⟨wr, rfl⟩
  subst hwa
  go_loopw [8, 9] (fun v8 v9 wq => ∃ i : Nat, i ≤ ix + 1 ∧ v9 = .int .i64 i ∧ v8 = .int .i64 (if i = ix + 1 then (b1 : Int) else -1) ∧ Below wa.heap.size wa wq) (fun _ v9 _ => ix + 1 - (intOf v9).toNat)
  case atStart => exact ⟨0, by omega, rfl, by rw [if_neg (by omega)], Below.refl _ _⟩
  case round =>
   obtain ⟨i, hi, rfl, rfl, hB2⟩ := hrel
   by_cases hii : i = ix + 1
   ·rw [if_pos hii]
    have HII := Aside0.mk hii
    clear hii
    have g1 := bcell hB2 r7
    have e1 : decide ((b1 : Int) < 0) = false := by simp
    have hBq := hB.trans (hB2.mono hB.size)
    have hRq := Kd.R_below hR hB2
    by_cases hqn2 : q = n
    ·have hbx := HEX.out hqn2
     subst hbx
     rw [List.take_of_length_le (by rw [← HM.out.2]; omega)] at hRq
     have hR9 := Kd.R_lower hRq hB3.size
     clear hR hRq hB2 HNE HTK HEX
     subst hqn2
     by_cases him : i < m
     ·have d9 : decide ((i : Int) < (m : Int)) = true := by simp; omega
      have d10 : decide (i < m) = true := by simp; omega
      go_wp2
      go_ret2
      exact ⟨_, rfl, hR9, hB3.trans (hBq.mono hB3.size)⟩
     ·have d9 : decide ((i : Int) < (m : Int)) = false := by simp; omega
      have d10 : decide (i < m) = false := by simp; omega
      go_wp2
      go_ret2
      exact ⟨_, rfl, hR9, hB3.trans (hBq.mono hB3.size)⟩
    ·have hbx := HNE.out (by omega)
     have htk := HTK.out (by omega)
     have HTK2 := Aside0.mk htk
     have n1 : decide ((b1 : Int) = (x0 : Int)) = false := by simp; omega
     have n2 : decide (b1 = x0) = false := by simp; omega
     have n3 : ((b1 : Int) == (x0 : Int)) = false := by simp; omega
     have n4 : (b1 == x0) = false := by simp; omega
     have hlen : (H.take q).length ≤ 4000000 := by rw [HLQ.out]; omega
     have HLN := Aside0.mk hlen
     have HQN := Aside0.mk hqn2
     clear hR hB2 HNE HTK HEX htk hbx hlen hqn2
     by_cases him : i < m
     ·have d9 : decide ((i : Int) < (m : Int)) = true := by simp; omega
      have d10 : decide (i < m) = true := by simp; omega
      go_wp2_with (refine wp_ck (.inl hRq) hBq hBq.size HLN.out rfl (.tmp 129) (.tmp 131) rfl rfl rfl rfl (by first | rfl | simp) ?_; intro v1 w4 hR2 hB9)
      rw [HTK2.out] at hR2
      exact ⟨⟨q + 1, by omega, by have := HQN.out; omega, hR2, hB9⟩, by obtain ⟨A9, c9, rfl⟩ := Kd.R_slice hR2; have h8 : (H.take (q + 1)).length = q + 1 := (by rw [List.length_take, ← HM.out.2]; have := HQN.out; omega); rw [zi_length, h8]; have := HQN.out; simp [slLen]; omega⟩
     ·have d9 : decide ((i : Int) < (m : Int)) = false := by simp; omega
      have d10 : decide (i < m) = false := by simp; omega
      go_wp2_with (refine wp_ck (.inl hRq) hBq hBq.size HLN.out rfl (.tmp 129) (.tmp 131) rfl rfl rfl rfl (by first | rfl | simp) ?_; intro v1 w4 hR2 hB9)
      rw [HTK2.out] at hR2
      exact ⟨⟨q + 1, by omega, by have := HQN.out; omega, hR2, hB9⟩, by obtain ⟨A9, c9, rfl⟩ := Kd.R_slice hR2; have h8 : (H.take (q + 1)).length = q + 1 := (by rw [List.length_take, ← HM.out.2]; have := HQN.out; omega); rw [zi_length, h8]; have := HQN.out; simp [slLen]; omega⟩
   ·rw [if_neg hii]
    have hix2 : i < m := by omega
    have hi2 : i ≤ ix := by omega
    have hyu : u.getD i 0 ∈ u := by rw [getD_at (by rw [← HM.out.1]; exact hix2)]; exact List.getElem_mem _
    have hBq := hB.trans (hB2.mono hB.size)
    have g2 := bcell hBq (HZ.out i hix2)
    rw [rdz (by rw [← HM.out.1]; exact hix2)] at g2
    have hk1 := HNX.out _ hyu
    rw [HKF.out.2] at hk1
    have hyi : u.getD i 0 = b1 → i = ix := fun e => by
     rw [← HIE.out, getD_at (by rw [← HM.out.1]; exact hix2), getD_at (by rw [← HM.out.1]; exact hix)] at e
     exact (List.getElem_inj HU.out.1).mp e
    have hyi2 : i = ix → u.getD i 0 = b1 := fun e => by rw [e]; exact HIE.out
    obtain ⟨y, hy⟩ : ∃ y, y = u.getD i 0 := ⟨_, rfl⟩
    rw [← hy] at hyu g2 hk1 hyi hyi2
    have HY := Aside0.mk (And.intro hyu (And.intro hyi hyi2))
    have HK1 := Aside0.mk hk1
    have e1 : decide ((-1 : Int) < 0) = true := by decide
    have d9 : decide ((i : Int) < (m : Int)) = true := by simp; omega
    have d10 : decide (i < m) = true := by simp; omega
    have i2 : IntKind.i64.wrap ((i : Int) + 1) = (i : Int) + 1 := wrapI _ (by omega) (by omega)
    clear hyu hk1 hyi hyi2 hy HEX HNE HTK hii
    obtain ⟨z, hz⟩ : ∃ z, z = decide (y ≠ a) := ⟨_, rfl⟩
    have HZZ := Aside0.mk hz
    have n1 : decide ((y : Int) = (a : Int)) = !z := by rw [hz]; by_cases h : y = a; { simp [h] }; { have h' : ¬ (y : Int) = (a : Int) := (by omega); simp [h, h'] }
    have n2 : decide (y = a) = !z := by rw [hz]; by_cases h : y = a <;> simp [h]
    have n3 : ((y : Int) == (a : Int)) = !z := by rw [hz]; by_cases h : y = a; { simp [h] }; { have h' : ¬ (y : Int) = (a : Int) := (by omega); simp [h, h'] }
    have n4 : (y == a) = !z := by rw [hz]; by_cases h : y = a <;> simp [h]
    have n5 : ((y : Int) != (a : Int)) = z := by rw [bne, n3, Bool.not_not]
    have n6 : (y != a) = z := by rw [bne, n4, Bool.not_not]
    clear hz
    cases z
    all_goals
     simp only [Bool.not_true, Bool.not_false] at n1 n2 n3 n4
     go_wp2
    all_goals
     obtain ⟨wb, hwb⟩ : ∃ wb : World, wb = wr := ⟨wr, rfl⟩
     subst hwb
    ·have HD9 := Aside0.mk (show decide (y = b1) = false from by rw [← HK1.out, ← HZZ.out, Bool.false_and])
     go_loopw [11, 12] (fun v11 v12 wi => v11 = .bool false ∧ v12 = .int .i64 0 ∧ wi = wb) (fun _ _ _ => 0)
     case atStart => exact ⟨rfl, rfl, rfl⟩
     case round =>
      obtain ⟨rfl, rfl, rfl⟩ := hrel
      go_wp2
      have hne : i + 1 ≠ ix + 1 := fun e => of_decide_eq_false HD9.out (HY.out.2.2 (by omega))
      exact ⟨⟨i + 1, by omega, by go_num, by rw [if_neg hne], hB2⟩, by simp [intOf]; omega⟩
    ·have hl2 := Kd.C_below hl (hB3.trans (hBq.mono hB3.size))
     have hal := HU.out.2.1 a HAU.out.1
     have hyl := HU.out.2.1 y HY.out.1
     obtain ⟨ab, ao, rfl, hpt⟩ := pts_at hl2 (by omega)
     have hpt : ∀ j, j < l.length → wb.cell? ⟨ab, ao + j * 2, none⟩ = some (.float .f64 (at_ l j).f0) ∧ wb.cell? ⟨ab, ao + j * 2 + 1, none⟩ = some (.float .f64 (at_ l j).f1) := hpt
     obtain ⟨za0, za1⟩ := hpt a hal
     obtain ⟨zy0, zy1⟩ := hpt y hyl
     have HPT := Aside0.mk hpt
     clear hpt hl2
     have hIX : decide (y = b1) = u.all (okk l a y) := by rw [← HK1.out, ← HZZ.out, Bool.true_and]
     have HIX := Aside0.mk hIX
     have f1 : decide ((a : Int) < (l.length : Int)) = true := by simp; omega
     have f2 : decide (a < l.length) = true := by simp; omega
     have f3 : decide ((y : Int) < (l.length : Int)) = true := by simp; omega
     have f4 : decide (y < l.length) = true := by simp; omega
     clear hIX HK1 HZZ
     go_loopw [11, 12] (fun v11 v12 wi => ∃ k : Nat, k ≤ m ∧ v12 = .int .i64 k ∧ v11 = .bool ((u.take k).all (okk l a y)) ∧ Below wb.heap.size wb wi) (fun _ v12 _ => m - (intOf v12).toNat)
     case atStart => exact ⟨0, by omega, rfl, rfl, Below.refl _ _⟩
     case round =>
      obtain ⟨k, hkm, rfl, rfl, hB4⟩ := hrel
      have hBk := hB2.trans (hB4.mono hB2.size)
      obtain ⟨ob, hob⟩ : ∃ ob, ob = (u.take k).all (okk l a y) := ⟨_, rfl⟩
      rw [← hob]
      have HOB := Aside0.mk hob
      clear hob
      by_cases hkm2 : k < m
      ·have d11 : decide ((k : Int) < (m : Int)) = true := by simp; omega
       have d12 : decide (k < m) = true := by simp; omega
       have i3 : IntKind.i64.wrap ((k : Int) + 1) = (k : Int) + 1 := wrapI _ (by omega) (by omega)
       cases ob
       ·have HF : Aside0 (decide (y = b1) = false) := ⟨by rw [HIX.out]; exact all_part HOB.out.symm⟩
        go_wp2
        have hne : i + 1 ≠ ix + 1 := fun e => of_decide_eq_false HF.out (HY.out.2.2 (by omega))
        exact ⟨⟨i + 1, by omega, by go_num, by rw [if_neg hne], hBk⟩, by simp [intOf]; omega⟩
       ·have gk := bcell (hBq.trans (hB4.mono hBq.size)) (HZ.out k hkm2)
        rw [rdz (by rw [← HM.out.1]; exact hkm2)] at gk
        have hxl := HU.out.2.1 (u.getD k 0) (by rw [getD_at (by rw [← HM.out.1]; exact hkm2)]; exact List.getElem_mem _)
        have hat := all_take (okk l a y) u (k := k) (by rw [← HM.out.1]; exact hkm2)
        rw [← HOB.out, HOK.out, Bool.true_and] at hat
        obtain ⟨x, hx⟩ : ∃ x, x = u.getD k 0 := ⟨_, rfl⟩
        rw [← hx] at gk hxl hat
        clear hx
        obtain ⟨zx0, zx1⟩ := HPT.out x hxl
        have ca0 := bcell hB4 za0
        have ca1 := bcell hB4 za1
        have cy0 := bcell hB4 zy0
        have cy1 := bcell hB4 zy1
        have cx0 := bcell hB4 zx0
        have cx1 := bcell hB4 zx1
        have hsg := HSG.out a y x hal hyl hxl
        have hon := HON.out a y x hal hyl hxl
        have f5 : decide ((x : Int) < (l.length : Int)) = true := by simp; omega
        have f6 : decide (x < l.length) = true := by simp; omega
        have HAT := Aside0.mk hat
        clear hat zx0 zx1
        generalize at_ l a = pa at *
        generalize at_ l y = py at *
        generalize at_ l x = px at *
        have hS : wr.cell? ⟨ub, uo + k, none⟩ = some (.int .i64 x) ∧ wr.cell? ⟨ab, ao + a * 2, none⟩ = some (.float .f64 pa.f0) ∧ wr.cell? ⟨ab, ao + a * 2 + 1, none⟩ = some (.float .f64 pa.f1) ∧ wr.cell? ⟨ab, ao + y * 2, none⟩ = some (.float .f64 py.f0) ∧ wr.cell? ⟨ab, ao + y * 2 + 1, none⟩ = some (.float .f64 py.f1) ∧ wr.cell? ⟨ab, ao + x * 2, none⟩ = some (.float .f64 px.f0) ∧ wr.cell? ⟨ab, ao + x * 2 + 1, none⟩ = some (.float .f64 px.f1) := ⟨gk, ca0, ca1, cy0, cy1, cx0, cx1⟩
        clear gk ca0 ca1 cy0 cy1 cx0 cx1
        generalize sgnS pa py px = s at *
        generalize onS pa py px = o at *
        have hb0 := Below.refl wr.heap.size wr
        go_wp2
        go_region_held3 (fun W' => W'.cell? ⟨ub, uo + k, none⟩ = some (.int .i64 x) ∧ W'.cell? ⟨ab, ao + a * 2, none⟩ = some (.float .f64 pa.f0) ∧ W'.cell? ⟨ab, ao + a * 2 + 1, none⟩ = some (.float .f64 pa.f1) ∧ W'.cell? ⟨ab, ao + y * 2, none⟩ = some (.float .f64 py.f0) ∧ W'.cell? ⟨ab, ao + y * 2 + 1, none⟩ = some (.float .f64 py.f1) ∧ W'.cell? ⟨ab, ao + x * 2, none⟩ = some (.float .f64 px.f0) ∧ W'.cell? ⟨ab, ao + x * 2 + 1, none⟩ = some (.float .f64 px.f1))
         (first | exact hS | (refine seven_below ?_ hS; (with_reducible (repeat (first | assumption | apply below_drew1 | apply below_alloc | apply pw_below_drewN)))))
         (first | (go_at_call 66; (with_reducible refine (hsg _).mono ?_); rintro u_ w5 ⟨rfl, hb5⟩; have hB6 := below_step (w := wr) (by (with_reducible (repeat (first | exact hb0 | apply below_drew1 | apply below_alloc | apply pw_below_drewN)))) hb5; clear hb5))
        all_goals
         have hS5 := seven_below hB6 hS
         have hB7 := hB4.trans (hB6.mono hB4.size)
         clear hS hB6 hb0 hB4
         obtain ⟨w6, hw6⟩ : ∃ w6 : World, w6 = w5 := ⟨w5, rfl⟩
         subst hw6
         have hb0 := Below.refl w6.heap.size w6
         rcases Int.lt_trichotomy s 0 with hs | hs | hs
         ·have e1 : decide (0 < s) = false := by simp; omega
          have e2 : (s == 0) = false := beq_eq_false_iff_ne.mpr (by omega)
          have e3 : decide (s = 0) = false := by simp; omega
          rw [e1, e3] at HAT
          clear hs hon hsg
          go_wp2
          go_quiet (fail)
          go_wp2
          exact ⟨⟨k + 1, by omega, by go_num, by rw [HAT.out]; rfl, pw_below_drewN hB7 _⟩, by simp [intOf]; omega⟩
         ·subst hs
          have hat : (u.take (k + 1)).all (okk l a y) = o := by rw [HAT.out]; simp
          have HAT2 := Aside0.mk hat
          clear hsg hat
          go_wp2
          obtain ⟨c0, c1, c2, c3, c4, c5, c6⟩ := hS5
          have hS6 := And.intro c0 (And.intro c1 (And.intro c2 (And.intro c3 (And.intro c4 (And.intro c5 c6)))))
          clear c0 c1 c2 c3 c4 c5 c6
          go_region_held3 (fun W' => W'.cell? ⟨ub, uo + k, none⟩ = some (.int .i64 x) ∧ W'.cell? ⟨ab, ao + a * 2, none⟩ = some (.float .f64 pa.f0) ∧ W'.cell? ⟨ab, ao + a * 2 + 1, none⟩ = some (.float .f64 pa.f1) ∧ W'.cell? ⟨ab, ao + y * 2, none⟩ = some (.float .f64 py.f0) ∧ W'.cell? ⟨ab, ao + y * 2 + 1, none⟩ = some (.float .f64 py.f1) ∧ W'.cell? ⟨ab, ao + x * 2, none⟩ = some (.float .f64 px.f0) ∧ W'.cell? ⟨ab, ao + x * 2 + 1, none⟩ = some (.float .f64 px.f1))
           (first | exact hS6 | (refine seven_below ?_ hS6; (with_reducible (repeat (first | assumption | apply below_drew1 | apply below_alloc | apply pw_below_drewN)))))
           (first | (go_at_call 67; (with_reducible refine (hon _).mono ?_); rintro u_ w7 ⟨rfl, hb5⟩; have hB6 := below_step (w := w6) (by (with_reducible (repeat (first | exact hb0 | apply below_drew1 | apply below_alloc | apply pw_below_drewN)))) hb5; clear hb5))
          all_goals
           go_wp2
           exact ⟨⟨k + 1, by omega, by go_num, by rw [HAT2.out], hB7.trans (hB6.mono hB7.size)⟩, by simp [intOf]; omega⟩
         ·have e1 : decide (0 < s) = true := by simp; omega
          rw [e1] at HAT
          clear hs hon hsg
          go_wp2
          go_quiet (fail)
          go_wp2
          exact ⟨⟨k + 1, by omega, by go_num, by rw [HAT.out]; rfl, pw_below_drewN hB7 _⟩, by simp [intOf]; omega⟩
      ·obtain rfl : m = k := by omega
       have d11 : decide ((m : Int) < (m : Int)) = false := by simp
       have d12 : decide (m < m) = false := by simp
       have hal2 : ob = decide (y = b1) := by rw [HOB.out, HIX.out, List.take_of_length_le (by rw [← HM.out.1]; omega)]
       have HAL := Aside0.mk hal2
       clear hal2
       cases ob
       ·go_wp2
        have hne : i + 1 ≠ ix + 1 := fun e => of_decide_eq_false HAL.out.symm (HY.out.2.2 (by omega))
        exact ⟨⟨i + 1, by omega, by go_num, by rw [if_neg hne], hBk⟩, by simp [intOf]; omega⟩
       ·go_wp2
        have hyb := of_decide_eq_true HAL.out.symm
        have hii := HY.out.2.1 hyb
        exact ⟨⟨i + 1, by omega, by go_num, by rw [if_pos (by omega), hyb], hBk⟩, by simp [intOf]; omega⟩
end Go.Proofs.YtioahkblhekgpaaGreatDoor.Nw
namespace Go.Proofs.YtioahkblhekgpaaGreatDoor.Nw
open Go.RowKit Go.Proofs.YtioahkblhekgpaaGreatDoor.FltP Go.Proofs.YtioahkblhekgpaaGreatDoor.R Go.Proofs.YtioahkblhekgpaaGreatDoor.E Go.Proofs.YtioahkblhekgpaaGreatDoor.O Go.Proofs.YtioahkblhekgpaaGreatDoorW.PrintWords Go.Proofs.YtioahkblhekgpaaGreatDoorW.PrintLast Go.Proofs.YtioahkblhekgpaaGreatDoorW.PrintMore
open Go.Proofs.YtioahkblhekgpaaGreatDoor.NumP Go.Proofs.YtioahkblhekgpaaGreatDoor.Adm
attribute [local go_sem high] eqPt
theorem hull20_calls (A : Option Addr) (c : Nat) (l : List S) (w : World) (hl : Kd.C k32 w A l.length l) (hc : l.length ≤ c) (hw : Wd l) :
 Calls Tryz.prog 35 #[.slice A l.length c] w (AroPost l false w) := by
 by_cases h0 : (allF l).2 = 0
 ·by_cases h2 : (unlAll l).length < 2
  ·exact hull20_few A c l w hl hc hw h0 h2
  ·cases hf : flatAll l with
   | true => exact hull20_flat A c l w hl hc hw h0 (by omega) hf
   | false => exact hull20_main A c l w hl hc hw h0 (by omega) hf
 ·exact hull20_bad A c l w hl hc hw h0
end Go.Proofs.YtioahkblhekgpaaGreatDoor.Nw
