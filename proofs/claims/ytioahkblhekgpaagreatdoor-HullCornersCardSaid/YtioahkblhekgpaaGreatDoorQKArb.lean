/- What the proof needs of Aro, Arb: only what is used is left (wip/tools/prune.py). Conditions stand in each sentence. -/
import Derived.Deep.RegionHeld3
import Derived.Test.YtioahkblhekgpaaGreatDoorQKCha
import Derived.Test.YtioahkblhekgpaaGreatDoorQKPureAdmitFlat
set_option linter.unusedVariables false
set_option linter.unusedSimpArgs false
namespace Go.Proofs.YtioahkblhekgpaaGreatDoor.E
end Go.Proofs.YtioahkblhekgpaaGreatDoor.E
namespace Go.Proofs.YtioahkblhekgpaaGreatDoor.FltP
end Go.Proofs.YtioahkblhekgpaaGreatDoor.FltP
namespace Go.Proofs.YtioahkblhekgpaaGreatDoor.O
end Go.Proofs.YtioahkblhekgpaaGreatDoor.O
namespace Go.Proofs.YtioahkblhekgpaaGreatDoor.R
end Go.Proofs.YtioahkblhekgpaaGreatDoor.R
namespace Go.Proofs.YtioahkblhekgpaaGreatDoorW.PrintLast
end Go.Proofs.YtioahkblhekgpaaGreatDoorW.PrintLast
namespace Go.Proofs.YtioahkblhekgpaaGreatDoorW.PrintMore
end Go.Proofs.YtioahkblhekgpaaGreatDoorW.PrintMore
namespace Go.Proofs.YtioahkblhekgpaaGreatDoorW.PrintWords
end Go.Proofs.YtioahkblhekgpaaGreatDoorW.PrintWords
namespace Go.Proofs.YtioahkblhekgpaaGreatDoor.Adm
open Go.RowKit Go.Proofs.YtioahkblhekgpaaGreatDoor.FltP Go.Proofs.YtioahkblhekgpaaGreatDoor.R Go.Proofs.YtioahkblhekgpaaGreatDoor.E Go.Proofs.YtioahkblhekgpaaGreatDoor.O Go.Proofs.YtioahkblhekgpaaGreatDoorW.PrintWords Go.Proofs.YtioahkblhekgpaaGreatDoorW.PrintLast Go.Proofs.YtioahkblhekgpaaGreatDoorW.PrintMore
def hullAll (l : List S) (ed : Bool) : List Nat :=
 if (allF l).2 ≠ 0 then [] else if (unlAll l).length < 3 then unlAll l
 else if flatAll l = true then (if ed = true then unlAll l else [(unlAll l).getD 0 0, (unlAll l).getD ((unlAll l).length - 1) 0])
 else Geo.ring (PT l) ed (unlAll l)
def AroPost (l : List S) (ed : Bool) (w : World) (e : Ending) (w' : World) : Prop := ∃ v : Value, e = .returned (.tuple #[v, .int .i64 (allF l).2]) ∧ Kd.R (Kd.int .i64) 3 w' w.heap.size (fun _ => True) v (zi (hullAll l ed)) ∧ Below w.heap.size w w'
theorem chain_pos (P : Nat → Geo.Pt) (e : Bool) (L : List Nat) (h : 0 < L.length) : 0 < (Geo.chain P e L).length := by
 have hs := chain_step P e L (k := L.length - 1) (by omega)
 rw [show L.length - 1 + 1 = L.length from by omega, List.take_length] at hs
 have := congrArg List.length hs
 rw [List.length_append, List.length_reverse, List.length_singleton] at this
 omega
theorem chain_le (P : Nat → Geo.Pt) (e : Bool) (L : List Nat) : (Geo.chain P e L).length ≤ L.length := by
 have := (chain_sub P e L L.length (Nat.le_refl _)).1
 rwa [List.take_length] at this
set_option maxRecDepth 100000 in
set_option maxHeartbeats 4000000 in
theorem around_ring (A : Option Addr) (c : Nat) (l : List S) (ed : Bool) (w : World) (hl : Kd.C k32 w A l.length l) (hc : l.length ≤ c) (hw : Wd l) (h0 : (allF l).2 = 0) (h3 : 3 ≤ (unlAll l).length) (hf : flatAll l = false) :
 Calls Tryz.prog 64 #[.slice A l.length c, .bool ed] w (AroPost l ed w) := by
 have ha := all_calls A c l
 have hun := unlike_calls A c l
 have hfl := flat_calls A c l
 rw [hf] at hfl
 rw [h0] at ha
 have hgp : ∀ x ∈ l, gp x = true := ((allF_ok l).mp h0).2
 have hul := Pure.unl_len h0
 have h20 := ((allF_ok l).mp h0).1
 have hlt := unl_lt l
 have hres : hullAll l ed = Geo.ring (PT l) ed (unlAll l) := by unfold hullAll; rw [if_neg (by omega), if_neg (by omega), if_neg (by rw [hf]; decide)]
 have hch := fun hi B BL BE c2 A2 W h1 h2 h3 h4 h5 => chain_calls hi A c l A2 c2 (unlAll l) B BL BE ed hgp hlt (by omega) W h1 h2 h3 h4 h5
 have hch0 := hch false
 have hch1 := hch true
 clear hch
 simp only [Bool.false_eq_true, if_false, if_true] at hch0 hch1
 rw [show way false (unlAll l) = unlAll l from rfl] at hch0
 rw [show way true (unlAll l) = (unlAll l).reverse from rfl] at hch1
 have p0 := chain_pos (PT l) ed (unlAll l) (by omega)
 have p1 := chain_pos (PT l) ed (unlAll l).reverse (by rw [List.length_reverse]; omega)
 have q0 := chain_le (PT l) ed (unlAll l)
 have q1 := chain_le (PT l) ed (unlAll l).reverse
 rw [List.length_reverse] at q1
 have hring : Geo.ring (PT l) ed (unlAll l) = (Geo.chain (PT l) ed (unlAll l)).reverse.take ((Geo.chain (PT l) ed (unlAll l)).length - 1) ++ (Geo.chain (PT l) ed (unlAll l).reverse).reverse.take ((Geo.chain (PT l) ed (unlAll l).reverse).length - 1) := by
  unfold Geo.ring
  rw [List.dropLast_eq_take, List.dropLast_eq_take, List.length_reverse, List.length_reverse]
 rw [hring] at hres
 clear hring
 generalize Geo.chain (PT l) ed (unlAll l) = lo at *
 generalize Geo.chain (PT l) ed (unlAll l).reverse = hg at *
 have hu3 : decide (((unlAll l).length : Int) < 3) = false := by simp; omega
 have hu3' : decide ((unlAll l).length < 3) = false := by simp; omega
 clear hlt
 generalize unlAll l = us at *
 have HRES := Aside0.mk hres
 clear hres
 have HC := Aside0.mk hc
 clear hc
 go_enter Tryz.func64, Tryz.ntmps64
 go_wp2_with (first
  | (go_at_call 12; (with_reducible refine (ha _ (Kd.C_below hl (below_alloc (below_alloc (Below.refl _ _) _) _)) HC.out hw).mono ?_); rintro u w1 ⟨rfl, hb1⟩; have hL1 := bcell (p := ⟨w.heap.size, 0, none⟩) (v := .slice A l.length c) hb1 (by simp); have hE1 := bcell (p := ⟨w.heap.size + 1, 0, none⟩) (v := .bool ed) hb1 (by simp); have hB1 : Below w.heap.size w w1 := (below_alloc (below_alloc (Below.refl _ _) _) _).trans (hb1.mono (by simp; omega)); have hl1 := Kd.C_below hl hB1; clear hb1 ha)
  | (go_at_call 16; (with_reducible refine (hun _ hl1 HC.out hw).mono ?_); rintro u w2 ⟨v2, rfl, hR2, hb2⟩; obtain ⟨A2, c2, rfl, hle2, hC2⟩ := Kd.R_reads hR2; rw [zi_length] at hC2 hle2 ⊢; have hL2 := bcell hb2 hL1; have hE2 := bcell hb2 hE1; have hB2 := hB1.trans (hb2.mono hB1.size); have hl2 := Kd.C_below hl hB2; have hLa := bcell (below_alloc (Below.refl w2.heap.size w2) (.cells #[.slice A2 us.length c2] 26)) hL2; have hEa := bcell (below_alloc (Below.refl w2.heap.size w2) (.cells #[.slice A2 us.length c2] 26)) hE2; clear hun hR2 hb2 hL1 hE1 hl1)
  | (go_at_call 17; (with_reducible refine (hfl _ (Kd.C_below hl2 (below_alloc (Below.refl _ _) _)) HC.out hw).mono ?_); rintro u w3 ⟨rfl, hb3⟩; have hb3' : Below w2.heap.size w2 w3 := (below_alloc (Below.refl _ _) _).trans (hb3.mono (by simp)); have hL3 := bcell hb3' hL2; have hE3 := bcell hb3' hE2; have hU3 := bcell (p := ⟨w2.heap.size, 0, none⟩) (v := .slice A2 us.length c2) hb3 (by simp); have hB3 := hB2.trans (hb3'.mono hB2.size); have hl3 := Kd.C_below hl hB3; have hC3 := Kd.C_below hC2 hb3'; clear hfl hb3 hb3' hL2 hE2 hl2 hC2 hLa hEa)
  | (go_at_call 85; first | ((with_reducible refine (hch0 _ _ _ _ _ _ hU3 hL3 hE3 hl3 hC3).mono ?_); rintro u w4 ⟨v4, rfl, hR4, hb4⟩; obtain ⟨A4, c4, rfl⟩ := Kd.R_slice hR4; rw [zi_length, List.length_reverse] at hR4 ⊢; have hL4 := bcell hb4 hL3; have hE4 := bcell hb4 hE3; have hU4 := bcell hb4 hU3; have hB4 := hB3.trans (hb4.mono hB3.size); have hl4 := Kd.C_below hl hB4; have hC4 := Kd.C_below hC3 hb4; clear hL3 hE3 hU3 hl3 hC3 hch0) | ((with_reducible refine (hch1 _ _ _ _ _ _ hU4 hL4 hE4 hl4 hC4).mono ?_); rintro u w5 ⟨v5, rfl, hR5, hb5⟩; obtain ⟨A5, c5, rfl⟩ := Kd.R_slice hR5; rw [zi_length, List.length_reverse] at hR5 ⊢; have hR4b := Kd.R_below hR4 hb5; have hB5 := hB4.trans (hb5.mono hB4.size); clear hL4 hE4 hU4 hl4 hC4 hch1)))
 have hlo : (zi lo.reverse).length = lo.length := by rw [zi_length, List.length_reverse]
 have hhi : (zi hg.reverse).length = hg.length := by rw [zi_length, List.length_reverse]
 obtain ⟨m, hm⟩ : ∃ m, m = lo.length - 1 := ⟨_, rfl⟩
 obtain ⟨n, hn⟩ : ∃ n, n = hg.length - 1 := ⟨_, rfl⟩
 have r1 := Kd.R_reads' hR4b
 have r2 := Kd.R_reads' hR5
 have ra : Kd.R (Kd.int .i64) 3 w5 w.heap.size (fun _ => True) (.slice A4 m c4) (zi (lo.reverse.take m)) := by
  have := Kd.R_lower (Kd.R_take hR4b (m := m) (by omega)) (base' := w.heap.size) hB3.size
  rwa [show (zi lo.reverse).take m = zi (lo.reverse.take m) from by unfold zi; exact (List.map_take ..).symm] at this
 have rb : Kd.C (Kd.int .i64) w5 A5 n (zi (hg.reverse.take n)) := by
  have := Kd.C_take (m := n) (r2.2.2) (by omega)
  rw [show (zi hg.reverse).take n = zi (hg.reverse.take n) from by unfold zi; exact (List.map_take ..).symm, zi_length, List.length_take, List.length_reverse, Nat.min_eq_left (by omega)] at this
  exact this
 have hlen : (zi (lo.reverse.take m)).length + n ≤ 4000000 := by rw [zi_length, List.length_take]; omega
 have k1 : m ≤ c4 := by omega
 have k2 : n ≤ c5 := by omega
 rw [← hm, ← hn] at HRES
 have e1 : IntKind.i64.wrap ((lo.length : Int) - 1) = (m : Int) := by rw [wrapI _ (by omega) (by omega)]; omega
 have e2 : IntKind.i64.wrap ((hg.length : Int) - 1) = (n : Int) := by rw [wrapI _ (by omega) (by omega)]; omega
 clear hR4 hR4b hR5 r1 r2 hm hn hlo hhi p0 p1 q0 q1
 generalize lo.length = n1 at *
 generalize hg.length = n2 at *
 have hS : Below w.heap.size w w5 := hB5
 go_region_held3 (fun W' => Below w.heap.size w W')
  (with_reducible (repeat (first | exact hS | assumption | apply below_drew1 | apply below_alloc | apply pw_below_drewN)))
  ((refine Kd.R_append_rows_step (Kd.int .i64) (w0 := w) w.heap.size (by rfl) (.tmp 55) (.tmp 60) 26 3 (.int .i64 0) 8 rfl Tryz.underlying26 infoI rfl (by decide) (by omega) (.slice A4 m c4) (zi (lo.reverse.take m)) (zi (hg.reverse.take n)) A5 n c5 (fun _ => True) (fun _ => False) rfl rfl ?aO ?aR (fun _ _ h => h) (fun _ h => h.elim) (fun _ _ => trivial) ?aB ?aS ?aL ?_
    (case aO => first | exact Kd.R_drew ra | exact ra)
    (case aR => first | exact Kd.C_drew rb | exact rb)
    (case aB => first | exact below_drew1 hB5 | exact hB5)
    (case aS => exact hB5.size)
    (case aL => omega)
    intro v6 w6 hR6 hB6 hg6 hat6; clear hg6 hat6))
 go_wp2
 refine bodyPost_ret (v := .tuple #[v6, .int .i64 0]) (by simp [results, Tryz.results64, go_sem]) rfl ⟨v6, by rw [h0], ?_, hB6⟩
 rw [HRES.out]
 unfold zi at hR6 ⊢
 rw [List.map_append]
 exact hR6
end Go.Proofs.YtioahkblhekgpaaGreatDoor.Adm
namespace Go.Proofs.YtioahkblhekgpaaGreatDoor.Adm
open Go.RowKit Go.Proofs.YtioahkblhekgpaaGreatDoor.FltP Go.Proofs.YtioahkblhekgpaaGreatDoor.R Go.Proofs.YtioahkblhekgpaaGreatDoor.E Go.Proofs.YtioahkblhekgpaaGreatDoor.O Go.Proofs.YtioahkblhekgpaaGreatDoorW.PrintWords Go.Proofs.YtioahkblhekgpaaGreatDoorW.PrintLast Go.Proofs.YtioahkblhekgpaaGreatDoorW.PrintMore
set_option maxRecDepth 100000 in
set_option maxHeartbeats 4000000 in
theorem around_bad (A : Option Addr) (c : Nat) (l : List S) (ed : Bool) (w : World) (hl : Kd.C k32 w A l.length l) (hc : l.length ≤ c) (hw : Wd l) (h0 : (allF l).2 ≠ 0) :
 Calls Tryz.prog 64 #[.slice A l.length c, .bool ed] w (AroPost l ed w) := by
 have ha := all_calls A c l
 have hres : hullAll l ed = [] := by unfold hullAll; rw [if_pos h0]
 have HRES := Aside0.mk hres
 clear hres
 have e1 : ((allF l).2 != 0) = true := bne_iff_ne.mpr h0
 have e2 : ((allF l).2 == 0) = false := beq_eq_false_iff_ne.mpr h0
 have HC := Aside0.mk hc
 clear hc
 obtain ⟨er, her⟩ : ∃ er, er = (allF l).2 := ⟨_, rfl⟩
 rw [← her] at ha e1 e2
 clear h0
 have HER := Aside0.mk her
 clear her
 go_enter Tryz.func64, Tryz.ntmps64
 go_wp2_with (first
  | (go_at_call 12; (with_reducible refine (ha _ (Kd.C_below hl (below_alloc (below_alloc (Below.refl _ _) _) _)) HC.out hw).mono ?_); rintro u w1 ⟨rfl, hb1⟩; have hL1 := bcell (p := ⟨w.heap.size, 0, none⟩) (v := .slice A l.length c) hb1 (by simp); have hE1 := bcell (p := ⟨w.heap.size + 1, 0, none⟩) (v := .bool ed) hb1 (by simp); have hB1 : Below w.heap.size w w1 := (below_alloc (below_alloc (Below.refl _ _) _) _).trans (hb1.mono (by simp; omega)); have hl1 := Kd.C_below hl hB1))
 refine bodyPost_ret (v := .tuple #[.slice none 0 0, .int .i64 er]) (by simp [results, Tryz.results64, go_sem]) rfl ⟨.slice none 0 0, by rw [HER.out], ?_, hB1⟩
 rw [HRES.out]
 exact Kd.R_nil _ _ _ _ _
set_option maxRecDepth 100000 in
set_option maxHeartbeats 4000000 in
theorem around_few (A : Option Addr) (c : Nat) (l : List S) (ed : Bool) (w : World) (hl : Kd.C k32 w A l.length l) (hc : l.length ≤ c) (hw : Wd l) (h0 : (allF l).2 = 0) (h3 : (unlAll l).length < 3) :
 Calls Tryz.prog 64 #[.slice A l.length c, .bool ed] w (AroPost l ed w) := by
 have ha := all_calls A c l
 have hun := unlike_calls A c l
 rw [h0] at ha
 have hres : hullAll l ed = unlAll l := by unfold hullAll; rw [if_neg (by omega), if_pos h3]
 have hu3 : decide (((unlAll l).length : Int) < 3) = true := by simp; omega
 have hu3' : decide ((unlAll l).length < 3) = true := by simp; omega
 generalize unlAll l = us at *
 have HRES := Aside0.mk hres
 clear hres
 have HC := Aside0.mk hc
 clear hc
 go_enter Tryz.func64, Tryz.ntmps64
 go_wp2_with (first
  | (go_at_call 12; (with_reducible refine (ha _ (Kd.C_below hl (below_alloc (below_alloc (Below.refl _ _) _) _)) HC.out hw).mono ?_); rintro u w1 ⟨rfl, hb1⟩; have hL1 := bcell (p := ⟨w.heap.size, 0, none⟩) (v := .slice A l.length c) hb1 (by simp); have hE1 := bcell (p := ⟨w.heap.size + 1, 0, none⟩) (v := .bool ed) hb1 (by simp); have hB1 : Below w.heap.size w w1 := (below_alloc (below_alloc (Below.refl _ _) _) _).trans (hb1.mono (by simp; omega)); have hl1 := Kd.C_below hl hB1; clear hb1 ha)
  | (go_at_call 16; (with_reducible refine (hun _ hl1 HC.out hw).mono ?_); rintro u w2 ⟨v2, rfl, hR2, hb2⟩; obtain ⟨A2, c2, rfl, hle2, hC2⟩ := Kd.R_reads hR2; rw [zi_length] at hC2 hle2 hR2 ⊢; have hL2 := bcell hb2 hL1; have hE2 := bcell hb2 hE1; have hB2 := hB1.trans (hb2.mono hB1.size); have hl2 := Kd.C_below hl hB2; have hLa := bcell (below_alloc (Below.refl w2.heap.size w2) (.cells #[.slice A2 us.length c2] 26)) hL2; have hEa := bcell (below_alloc (Below.refl w2.heap.size w2) (.cells #[.slice A2 us.length c2] 26)) hE2; have hR2 := Kd.R_lower hR2 hB1.size; clear hun hb2 hL1 hE1 hl1))
 refine bodyPost_ret (v := .tuple #[.slice A2 us.length c2, .int .i64 0]) (by simp [results, Tryz.results64, go_sem]) rfl ⟨.slice A2 us.length c2, by rw [h0], ?_, below_alloc hB2 _⟩
 rw [HRES.out]
 exact Kd.R_alloc hR2 _
theorem three_below {w w1 : World} {p1 p2 p3 : Addr} {v1 v2 v3 : Value} (hb : Below w.heap.size w w1) (h : w.cell? p1 = some v1 ∧ w.cell? p2 = some v2 ∧ w.cell? p3 = some v3) : w1.cell? p1 = some v1 ∧ w1.cell? p2 = some v2 ∧ w1.cell? p3 = some v3 := ⟨bcell hb h.1, bcell hb h.2.1, bcell hb h.2.2⟩
theorem two_own {W : World} {base : Nat} (x y : Nat) (hb : base ≤ W.heap.size) : Kd.R (Kd.int .i64) 3 (W.alloc (.cells #[.int .i64 x, .int .i64 y] 3)) base (fun _ => True) (.slice (some ⟨W.heap.size, 0, none⟩) 2 2) (zi [x, y]) :=
 Kd.R_of_own (World.ownsRow_lit W _ 2 hb (by simp [maxLen]) rfl) (fun _ _ => trivial)
set_option maxRecDepth 100000 in
set_option maxHeartbeats 4000000 in
theorem around_rim (A : Option Addr) (c : Nat) (l : List S) (w : World) (hl : Kd.C k32 w A l.length l) (hc : l.length ≤ c) (hw : Wd l) (h0 : (allF l).2 = 0) (h3 : 3 ≤ (unlAll l).length) (hf : flatAll l = true) :
 Calls Tryz.prog 64 #[.slice A l.length c, .bool true] w (AroPost l true w) := by
 have ha := all_calls A c l
 have hun := unlike_calls A c l
 have hfl := flat_calls A c l
 rw [hf] at hfl
 rw [h0] at ha
 have hres : hullAll l true = unlAll l := by unfold hullAll; rw [if_neg (by omega), if_neg (by omega), if_pos hf, if_pos rfl]
 have hu3 : decide (((unlAll l).length : Int) < 3) = false := by simp; omega
 have hu3' : decide ((unlAll l).length < 3) = false := by simp; omega
 generalize unlAll l = us at *
 have HRES := Aside0.mk hres
 clear hres
 have HC := Aside0.mk hc
 clear hc
 go_enter Tryz.func64, Tryz.ntmps64
 go_wp2_with (first
  | (go_at_call 12; (with_reducible refine (ha _ (Kd.C_below hl (below_alloc (below_alloc (Below.refl _ _) _) _)) HC.out hw).mono ?_); rintro u w1 ⟨rfl, hb1⟩; have hL1 := bcell (p := ⟨w.heap.size, 0, none⟩) (v := .slice A l.length c) hb1 (by simp); have hE1 := bcell (p := ⟨w.heap.size + 1, 0, none⟩) (v := .bool true) hb1 (by simp); have hB1 : Below w.heap.size w w1 := (below_alloc (below_alloc (Below.refl _ _) _) _).trans (hb1.mono (by simp; omega)); have hl1 := Kd.C_below hl hB1; clear hb1 ha)
  | (go_at_call 16; (with_reducible refine (hun _ hl1 HC.out hw).mono ?_); rintro u w2 ⟨v2, rfl, hR2, hb2⟩; obtain ⟨A2, c2, rfl, hle2, hC2⟩ := Kd.R_reads hR2; rw [zi_length] at hC2 hle2 hR2 ⊢; have hL2 := bcell hb2 hL1; have hE2 := bcell hb2 hE1; have hB2 := hB1.trans (hb2.mono hB1.size); have hl2 := Kd.C_below hl hB2; have hLa := bcell (below_alloc (Below.refl w2.heap.size w2) (.cells #[.slice A2 us.length c2] 26)) hL2; have hEa := bcell (below_alloc (Below.refl w2.heap.size w2) (.cells #[.slice A2 us.length c2] 26)) hE2; have hR2 := Kd.R_lower hR2 hB1.size; clear hun hb2 hL1 hE1 hl1)
  | (go_at_call 17; (with_reducible refine (hfl _ (Kd.C_below hl2 (below_alloc (Below.refl _ _) _)) HC.out hw).mono ?_); rintro u w3 ⟨rfl, hb3⟩; have hb3' : Below w2.heap.size w2 w3 := (below_alloc (Below.refl _ _) _).trans (hb3.mono (by simp)); have hL3 := bcell hb3' hL2; have hE3 := bcell hb3' hE2; have hU3 := bcell (p := ⟨w2.heap.size, 0, none⟩) (v := .slice A2 us.length c2) hb3 (by simp); have hB3 := hB2.trans (hb3'.mono hB2.size); have hl3 := Kd.C_below hl hB3; have hC3 := Kd.C_below hC2 hb3'; have hR3 := Kd.R_below hR2 hb3'; clear hfl hb3 hb3' hL2 hE2 hl2 hC2 hLa hEa hR2))
 refine bodyPost_ret (v := .tuple #[.slice A2 us.length c2, .int .i64 0]) (by simp [results, Tryz.results64, go_sem]) rfl ⟨.slice A2 us.length c2, by rw [h0], ?_, hB3⟩
 rw [HRES.out]
 exact hR3
set_option maxRecDepth 100000 in
set_option maxHeartbeats 4000000 in
theorem around_two (A : Option Addr) (c : Nat) (l : List S) (w : World) (hl : Kd.C k32 w A l.length l) (hc : l.length ≤ c) (hw : Wd l) (h0 : (allF l).2 = 0) (h3 : 3 ≤ (unlAll l).length) (hf : flatAll l = true) :
 Calls Tryz.prog 64 #[.slice A l.length c, .bool false] w (AroPost l false w) := by
 have ha := all_calls A c l
 have hun := unlike_calls A c l
 have hfl := flat_calls A c l
 rw [hf] at hfl
 rw [h0] at ha
 have hres : hullAll l false = [(unlAll l).getD 0 0, (unlAll l).getD ((unlAll l).length - 1) 0] := by unfold hullAll; rw [if_neg (by omega), if_neg (by omega), if_pos hf, if_neg (by decide)]
 have hu3 : decide (((unlAll l).length : Int) < 3) = false := by simp; omega
 have hu3' : decide ((unlAll l).length < 3) = false := by simp; omega
 generalize unlAll l = us at *
 have HRES := Aside0.mk hres
 clear hres
 have HC := Aside0.mk hc
 clear hc
 go_enter Tryz.func64, Tryz.ntmps64
 go_wp2_with (first
  | (go_at_call 12; (with_reducible refine (ha _ (Kd.C_below hl (below_alloc (below_alloc (Below.refl _ _) _) _)) HC.out hw).mono ?_); rintro u w1 ⟨rfl, hb1⟩; have hL1 := bcell (p := ⟨w.heap.size, 0, none⟩) (v := .slice A l.length c) hb1 (by simp); have hE1 := bcell (p := ⟨w.heap.size + 1, 0, none⟩) (v := .bool false) hb1 (by simp); have hB1 : Below w.heap.size w w1 := (below_alloc (below_alloc (Below.refl _ _) _) _).trans (hb1.mono (by simp; omega)); have hl1 := Kd.C_below hl hB1; clear hb1 ha)
  | (go_at_call 16; (with_reducible refine (hun _ hl1 HC.out hw).mono ?_); rintro u w2 ⟨v2, rfl, hR2, hb2⟩; obtain ⟨A2, c2, rfl, hle2, hC2⟩ := Kd.R_reads hR2; rw [zi_length] at hC2 hle2 hR2 ⊢; have hL2 := bcell hb2 hL1; have hE2 := bcell hb2 hE1; have hB2 := hB1.trans (hb2.mono hB1.size); have hl2 := Kd.C_below hl hB2; have hLa := bcell (below_alloc (Below.refl w2.heap.size w2) (.cells #[.slice A2 us.length c2] 26)) hL2; have hEa := bcell (below_alloc (Below.refl w2.heap.size w2) (.cells #[.slice A2 us.length c2] 26)) hE2; have hR2 := Kd.R_lower hR2 hB1.size; clear hun hb2 hL1 hE1 hl1)
  | (go_at_call 17; (with_reducible refine (hfl _ (Kd.C_below hl2 (below_alloc (Below.refl _ _) _)) HC.out hw).mono ?_); rintro u w3 ⟨rfl, hb3⟩; have hb3' : Below w2.heap.size w2 w3 := (below_alloc (Below.refl _ _) _).trans (hb3.mono (by simp)); have hL3 := bcell hb3' hL2; have hE3 := bcell hb3' hE2; have hU3 := bcell (p := ⟨w2.heap.size, 0, none⟩) (v := .slice A2 us.length c2) hb3 (by simp); have hB3 := hB2.trans (hb3'.mono hB2.size); have hl3 := Kd.C_below hl hB3; have hC3 := Kd.C_below hC2 hb3'; have hR3 := Kd.R_below hR2 hb3'; clear hfl hb3 hb3' hL2 hE2 hl2 hC2 hLa hEa hR2))
 obtain ⟨m, hm⟩ : ∃ m, m = us.length - 1 := ⟨_, rfl⟩
 rw [← hm] at HRES
 have hm0 := hC3.2.1
 obtain ⟨ub, uo, rfl, hz⟩ := row_at hC3 (by omega)
 have z0 := hz 0 (by omega)
 have z1 := hz m (by omega)
 rw [rd, Int.toNat_natCast, List.getD_eq_getElem?_getD, zi_get (by omega)] at z0 z1
 rw [Nat.add_zero] at z0
 have e1 : IntKind.i64.wrap ((us.length : Int) - 1) = (m : Int) := by rw [wrapI _ (by omega) (by omega)]; omega
 have hm3 : m < us.length := by omega
 have hp3 : 0 < us.length := by omega
 have d1 : decide ((m : Int) < (us.length : Int)) = true := by simp; omega
 have d2 : decide (m < us.length) = true := by simp; omega
 have d3 : decide (0 < us.length) = true := by simp; omega
 have d4 : decide ((0 : Int) < (us.length : Int)) = true := by simp; omega
 generalize us.getD 0 0 = x at *
 generalize us.getD m 0 = y at *
 clear hz hm hR3 hC3 hl3
 have hS : w3.cell? ⟨w2.heap.size, 0, none⟩ = some (.slice (some ⟨ub, uo, none⟩) us.length c2) ∧ w3.cell? ⟨ub, uo, none⟩ = some (.int .i64 x) ∧ w3.cell? ⟨ub, uo + m, none⟩ = some (.int .i64 y) := ⟨hU3, z0, z1⟩
 clear hU3 z0 z1 hL3 hE3
 go_region_held3 (fun W' => W'.cell? ⟨w2.heap.size, 0, none⟩ = some (.slice (some ⟨ub, uo, none⟩) us.length c2) ∧ W'.cell? ⟨ub, uo, none⟩ = some (.int .i64 x) ∧ W'.cell? ⟨ub, uo + m, none⟩ = some (.int .i64 y))
  (first | exact hS | exact three_below (below_alloc (Below.refl _ _) _) hS | exact three_below (below_drew1 (below_alloc (Below.refl _ _) _)) hS)
  (fail)
 go_wp2
 refine bodyPost_ret (v := .tuple #[.slice (some ⟨w3.heap.size, 0, none⟩) 2 2, .int .i64 0]) (by simp [results, Tryz.results64, go_sem]) rfl ⟨_, by rw [h0], ?_, below_drew1 (below_alloc hB3 _)⟩
 rw [HRES.out]
 exact Kd.R_drew (two_own x y hB3.size)
theorem around_calls (A : Option Addr) (c : Nat) (l : List S) (ed : Bool) (w : World) (hl : Kd.C k32 w A l.length l) (hc : l.length ≤ c) (hw : Wd l) :
 Calls Tryz.prog 64 #[.slice A l.length c, .bool ed] w (AroPost l ed w) := by
 by_cases h0 : (allF l).2 = 0
 ·by_cases h3 : (unlAll l).length < 3
  ·exact around_few A c l ed w hl hc hw h0 h3
  ·cases hf : flatAll l with
   | false => exact around_ring A c l ed w hl hc hw h0 (by omega) hf
   | true =>
    cases ed
    ·exact around_two A c l w hl hc hw h0 (by omega) hf
    ·exact around_rim A c l w hl hc hw h0 (by omega) hf
 ·exact around_bad A c l ed w hl hc hw h0
set_option maxRecDepth 100000 in
set_option maxHeartbeats 1000000 in
theorem hull_calls (A : Option Addr) (c : Nat) (l : List S) (w : World) (hl : Kd.C k32 w A l.length l) (hc : l.length ≤ c) (hw : Wd l) :
 Calls Tryz.prog 32 #[.slice A l.length c] w (AroPost l false w) := by
 have ha := around_calls A c l false w hl hc hw
 go_enter Tryz.func32, Tryz.ntmps32
 go_wp2_with (go_at_call 64; (with_reducible refine ha.mono ?_); rintro u w1 ⟨v, rfl, hR, hb⟩)
 exact bodyPost_ret (v := .tuple #[v, .int .i64 (allF l).2]) (by simp [results, Tryz.results32, go_sem]) rfl ⟨v, rfl, hR, hb⟩
set_option maxRecDepth 100000 in
set_option maxHeartbeats 1000000 in
theorem rim_calls (A : Option Addr) (c : Nat) (l : List S) (w : World) (hl : Kd.C k32 w A l.length l) (hc : l.length ≤ c) (hw : Wd l) :
 Calls Tryz.prog 33 #[.slice A l.length c] w (AroPost l true w) := by
 have ha := around_calls A c l true w hl hc hw
 go_enter Tryz.func33, Tryz.ntmps33
 go_wp2_with (go_at_call 64; (with_reducible refine ha.mono ?_); rintro u w1 ⟨v, rfl, hR, hb⟩)
 exact bodyPost_ret (v := .tuple #[v, .int .i64 (allF l).2]) (by simp [results, Tryz.results33, go_sem]) rfl ⟨v, rfl, hR, hb⟩
end Go.Proofs.YtioahkblhekgpaaGreatDoor.Adm
