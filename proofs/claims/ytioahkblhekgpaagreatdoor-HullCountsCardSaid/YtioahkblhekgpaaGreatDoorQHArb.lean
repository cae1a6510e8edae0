/- What the proof needs of Arb: only what is used is left (wip/tools/prune.py). Conditions stand in each sentence. -/
import Derived.Deep.RegionHeld3
import Derived.Test.YtioahkblhekgpaaGreatDoorQHAro
set_option linter.unusedVariables false
set_option linter.unusedSimpArgs false
namespace Go.Proofs.YtioahkblhekgpaaGreatDoor.E
end Go.Proofs.YtioahkblhekgpaaGreatDoor.E
namespace Go.Proofs.YtioahkblhekgpaaGreatDoor.FltP
end Go.Proofs.YtioahkblhekgpaaGreatDoor.FltP
namespace Go.Proofs.YtioahkblhekgpaaGreatDoor.O
end Go.Proofs.YtioahkblhekgpaaGreatDoor.O
namespace Go.Proofs.YtioahkblhekgpaaGreatDoor.R
end Go.Proofs.YtioahkblhekgpaaGreatDoor.R
namespace Go.Proofs.YtioahkblhekgpaaGreatDoorW.PrintLast
end Go.Proofs.YtioahkblhekgpaaGreatDoorW.PrintLast
namespace Go.Proofs.YtioahkblhekgpaaGreatDoorW.PrintMore
end Go.Proofs.YtioahkblhekgpaaGreatDoorW.PrintMore
namespace Go.Proofs.YtioahkblhekgpaaGreatDoorW.PrintWords
end Go.Proofs.YtioahkblhekgpaaGreatDoorW.PrintWords
namespace Go.Proofs.YtioahkblhekgpaaGreatDoor.Adm
open Go.RowKit Go.Proofs.YtioahkblhekgpaaGreatDoor.FltP Go.Proofs.YtioahkblhekgpaaGreatDoor.R Go.Proofs.YtioahkblhekgpaaGreatDoor.E Go.Proofs.YtioahkblhekgpaaGreatDoor.O Go.Proofs.YtioahkblhekgpaaGreatDoorW.PrintWords Go.Proofs.YtioahkblhekgpaaGreatDoorW.PrintLast Go.Proofs.YtioahkblhekgpaaGreatDoorW.PrintMore
set_option maxRecDepth 100000 in
set_option maxHeartbeats 4000000 in
theorem around_bad (A : Option Addr) (c : Nat) (l : List S) (ed : Bool) (w : World) (hl : Kd.C k32 w A l.length l) (hc : l.length ≤ c) (hw : Wd l) (h0 : (allF l).2 ≠ 0) :
    Calls Tryz.prog 64 #[.slice A l.length c, .bool ed] w (AroPost l ed w) := by
  have ha := all_calls A c l
  have hres : hullAll l ed = [] := by unfold hullAll; rw [if_pos h0]
  have HRES := Aside0.mk hres
  clear hres
  have e1 : ((allF l).2 != 0) = true := bne_iff_ne.mpr h0
  have e2 : ((allF l).2 == 0) = false := beq_eq_false_iff_ne.mpr h0
  have HC := Aside0.mk hc
  clear hc
  obtain ⟨er, her⟩ : ∃ er, er = (allF l).2 := ⟨_, rfl⟩
  rw [← her] at ha e1 e2
  clear h0
  have HER := Aside0.mk her
  clear her
  go_enter Tryz.func64, Tryz.ntmps64
  go_wp2_with (first
    | (go_at_call 12; (with_reducible refine (ha _ (Kd.C_below hl (below_alloc (below_alloc (Below.refl _ _) _) _)) HC.out hw).mono ?_); rintro u w1 ⟨rfl, hb1⟩; have hL1 := bcell (p := ⟨w.heap.size, 0, none⟩) (v := .slice A l.length c) hb1 (by simp); have hE1 := bcell (p := ⟨w.heap.size + 1, 0, none⟩) (v := .bool ed) hb1 (by simp); have hB1 : Below w.heap.size w w1 := (below_alloc (below_alloc (Below.refl _ _) _) _).trans (hb1.mono (by simp; omega)); have hl1 := Kd.C_below hl hB1))
  refine bodyPost_ret (v := .tuple #[.slice none 0 0, .int .i64 er]) (by simp [results, Tryz.results64, go_sem]) rfl ⟨.slice none 0 0, by rw [HER.out], ?_, hB1⟩
  rw [HRES.out]
  exact Kd.R_nil _ _ _ _ _
set_option maxRecDepth 100000 in
set_option maxHeartbeats 4000000 in
theorem around_few (A : Option Addr) (c : Nat) (l : List S) (ed : Bool) (w : World) (hl : Kd.C k32 w A l.length l) (hc : l.length ≤ c) (hw : Wd l) (h0 : (allF l).2 = 0) (h3 : (unlAll l).length < 3) :
    Calls Tryz.prog 64 #[.slice A l.length c, .bool ed] w (AroPost l ed w) := by
  have ha := all_calls A c l
  have hun := unlike_calls A c l
  rw [h0] at ha
  have hres : hullAll l ed = unlAll l := by unfold hullAll; rw [if_neg (by omega), if_pos h3]
  have hu3 : decide (((unlAll l).length : Int) < 3) = true := by simp; omega
  have hu3' : decide ((unlAll l).length < 3) = true := by simp; omega
  generalize unlAll l = us at *
  have HRES := Aside0.mk hres
  clear hres
  have HC := Aside0.mk hc
  clear hc
  go_enter Tryz.func64, Tryz.ntmps64
  go_wp2_with (first
    | (go_at_call 12; (with_reducible refine (ha _ (Kd.C_below hl (below_alloc (below_alloc (Below.refl _ _) _) _)) HC.out hw).mono ?_); rintro u w1 ⟨rfl, hb1⟩; have hL1 := bcell (p := ⟨w.heap.size, 0, none⟩) (v := .slice A l.length c) hb1 (by simp); have hE1 := bcell (p := ⟨w.heap.size + 1, 0, none⟩) (v := .bool ed) hb1 (by simp); have hB1 : Below w.heap.size w w1 := (below_alloc (below_alloc (Below.refl _ _) _) _).trans (hb1.mono (by simp; omega)); have hl1 := Kd.C_below hl hB1; clear hb1 ha)
    | (go_at_call 16; (with_reducible refine (hun _ hl1 HC.out hw).mono ?_); rintro u w2 ⟨v2, rfl, hR2, hb2⟩; obtain ⟨A2, c2, rfl, hle2, hC2⟩ := Kd.R_reads hR2; rw [zi_length] at hC2 hle2 hR2 ⊢; have hL2 := bcell hb2 hL1; have hE2 := bcell hb2 hE1; have hB2 := hB1.trans (hb2.mono hB1.size); have hl2 := Kd.C_below hl hB2; have hLa := bcell (below_alloc (Below.refl w2.heap.size w2) (.cells #[.slice A2 us.length c2] 26)) hL2; have hEa := bcell (below_alloc (Below.refl w2.heap.size w2) (.cells #[.slice A2 us.length c2] 26)) hE2; have hR2 := Kd.R_lower hR2 hB1.size; clear hun hb2 hL1 hE1 hl1))
  refine bodyPost_ret (v := .tuple #[.slice A2 us.length c2, .int .i64 0]) (by simp [results, Tryz.results64, go_sem]) rfl ⟨.slice A2 us.length c2, by rw [h0], ?_, below_alloc hB2 _⟩
  rw [HRES.out]
  exact Kd.R_alloc hR2 _
theorem three_below {w w1 : World} {p1 p2 p3 : Addr} {v1 v2 v3 : Value} (hb : Below w.heap.size w w1) (h : w.cell? p1 = some v1 ∧ w.cell? p2 = some v2 ∧ w.cell? p3 = some v3) : w1.cell? p1 = some v1 ∧ w1.cell? p2 = some v2 ∧ w1.cell? p3 = some v3 := ⟨bcell hb h.1, bcell hb h.2.1, bcell hb h.2.2⟩
theorem two_own {W : World} {base : Nat} (x y : Nat) (hb : base ≤ W.heap.size) : Kd.R (Kd.int .i64) 3 (W.alloc (.cells #[.int .i64 x, .int .i64 y] 3)) base (fun _ => True) (.slice (some ⟨W.heap.size, 0, none⟩) 2 2) (zi [x, y]) :=
  Kd.R_of_own (World.ownsRow_lit W _ 2 hb (by simp [maxLen]) rfl) (fun _ _ => trivial)
set_option maxRecDepth 100000 in
set_option maxHeartbeats 4000000 in
theorem around_rim (A : Option Addr) (c : Nat) (l : List S) (w : World) (hl : Kd.C k32 w A l.length l) (hc : l.length ≤ c) (hw : Wd l) (h0 : (allF l).2 = 0) (h3 : 3 ≤ (unlAll l).length) (hf : flatAll l = true) :
    Calls Tryz.prog 64 #[.slice A l.length c, .bool true] w (AroPost l true w) := by
  have ha := all_calls A c l
  have hun := unlike_calls A c l
  have hfl := flat_calls A c l
  rw [hf] at hfl
  rw [h0] at ha
  have hres : hullAll l true = unlAll l := by unfold hullAll; rw [if_neg (by omega), if_neg (by omega), if_pos hf, if_pos rfl]
  have hu3 : decide (((unlAll l).length : Int) < 3) = false := by simp; omega
  have hu3' : decide ((unlAll l).length < 3) = false := by simp; omega
  generalize unlAll l = us at *
  have HRES := Aside0.mk hres
  clear hres
  have HC := Aside0.mk hc
  clear hc
  go_enter Tryz.func64, Tryz.ntmps64
  go_wp2_with (first
    | (go_at_call 12; (with_reducible refine (ha _ (Kd.C_below hl (below_alloc (below_alloc (Below.refl _ _) _) _)) HC.out hw).mono ?_); rintro u w1 ⟨rfl, hb1⟩; have hL1 := bcell (p := ⟨w.heap.size, 0, none⟩) (v := .slice A l.length c) hb1 (by simp); have hE1 := bcell (p := ⟨w.heap.size + 1, 0, none⟩) (v := .bool true) hb1 (by simp); have hB1 : Below w.heap.size w w1 := (below_alloc (below_alloc (Below.refl _ _) _) _).trans (hb1.mono (by simp; omega)); have hl1 := Kd.C_below hl hB1; clear hb1 ha)
    | (go_at_call 16; (with_reducible refine (hun _ hl1 HC.out hw).mono ?_); rintro u w2 ⟨v2, rfl, hR2, hb2⟩; obtain ⟨A2, c2, rfl, hle2, hC2⟩ := Kd.R_reads hR2; rw [zi_length] at hC2 hle2 hR2 ⊢; have hL2 := bcell hb2 hL1; have hE2 := bcell hb2 hE1; have hB2 := hB1.trans (hb2.mono hB1.size); have hl2 := Kd.C_below hl hB2; have hLa := bcell (below_alloc (Below.refl w2.heap.size w2) (.cells #[.slice A2 us.length c2] 26)) hL2; have hEa := bcell (below_alloc (Below.refl w2.heap.size w2) (.cells #[.slice A2 us.length c2] 26)) hE2; have hR2 := Kd.R_lower hR2 hB1.size; clear hun hb2 hL1 hE1 hl1)
    | (go_at_call 17; (with_reducible refine (hfl _ (Kd.C_below hl2 (below_alloc (Below.refl _ _) _)) HC.out hw).mono ?_); rintro u w3 ⟨rfl, hb3⟩; have hb3' : Below w2.heap.size w2 w3 := (below_alloc (Below.refl _ _) _).trans (hb3.mono (by simp)); have hL3 := bcell hb3' hL2; have hE3 := bcell hb3' hE2; have hU3 := bcell (p := ⟨w2.heap.size, 0, none⟩) (v := .slice A2 us.length c2) hb3 (by simp); have hB3 := hB2.trans (hb3'.mono hB2.size); have hl3 := Kd.C_below hl hB3; have hC3 := Kd.C_below hC2 hb3'; have hR3 := Kd.R_below hR2 hb3'; clear hfl hb3 hb3' hL2 hE2 hl2 hC2 hLa hEa hR2))
  refine bodyPost_ret (v := .tuple #[.slice A2 us.length c2, .int .i64 0]) (by simp [results, Tryz.results64, go_sem]) rfl ⟨.slice A2 us.length c2, by rw [h0], ?_, hB3⟩
  rw [HRES.out]
  exact hR3
set_option maxRecDepth 100000 in
set_option maxHeartbeats 4000000 in
theorem around_two (A : Option Addr) (c : Nat) (l : List S) (w : World) (hl : Kd.C k32 w A l.length l) (hc : l.length ≤ c) (hw : Wd l) (h0 : (allF l).2 = 0) (h3 : 3 ≤ (unlAll l).length) (hf : flatAll l = true) :
    Calls Tryz.prog 64 #[.slice A l.length c, .bool false] w (AroPost l false w) := by
  have ha := all_calls A c l
  have hun := unlike_calls A c l
  have hfl := flat_calls A c l
  rw [hf] at hfl
  rw [h0] at ha
  have hres : hullAll l false = [(unlAll l).getD 0 0, (unlAll l).getD ((unlAll l).length - 1) 0] := by unfold hullAll; rw [if_neg (by omega), if_neg (by omega), if_pos hf, if_neg (by decide)]
  have hu3 : decide (((unlAll l).length : Int) < 3) = false := by simp; omega
  have hu3' : decide ((unlAll l).length < 3) = false := by simp; omega
  generalize unlAll l = us at *
  have HRES := Aside0.mk hres
  clear hres
  have HC := Aside0.mk hc
  clear hc
  go_enter Tryz.func64, Tryz.ntmps64
  go_wp2_with (first
    | (go_at_call 12; (with_reducible refine (ha _ (Kd.C_below hl (below_alloc (below_alloc (Below.refl _ _) _) _)) HC.out hw).mono ?_); rintro u w1 ⟨rfl, hb1⟩; have hL1 := bcell (p := ⟨w.heap.size, 0, none⟩) (v := .slice A l.length c) hb1 (by simp); have hE1 := bcell (p := ⟨w.heap.size + 1, 0, none⟩) (v := .bool false) hb1 (by simp); have hB1 : Below w.heap.size w w1 := (below_alloc (below_alloc (Below.refl _ _) _) _).trans (hb1.mono (by simp; omega)); have hl1 := Kd.C_below hl hB1; clear hb1 ha)
    | (go_at_call 16; (with_reducible refine (hun _ hl1 HC.out hw).mono ?_); rintro u w2 ⟨v2, rfl, hR2, hb2⟩; obtain ⟨A2, c2, rfl, hle2, hC2⟩ := Kd.R_reads hR2; rw [zi_length] at hC2 hle2 hR2 ⊢; have hL2 := bcell hb2 hL1; have hE2 := bcell hb2 hE1; have hB2 := hB1.trans (hb2.mono hB1.size); have hl2 := Kd.C_below hl hB2; have hLa := bcell (below_alloc (Below.refl w2.heap.size w2) (.cells #[.slice A2 us.length c2] 26)) hL2; have hEa := bcell (below_alloc (Below.refl w2.heap.size w2) (.cells #[.slice A2 us.length c2] 26)) hE2; have hR2 := Kd.R_lower hR2 hB1.size; clear hun hb2 hL1 hE1 hl1)
    | (go_at_call 17; (with_reducible refine (hfl _ (Kd.C_below hl2 (below_alloc (Below.refl _ _) _)) HC.out hw).mono ?_); rintro u w3 ⟨rfl, hb3⟩; have hb3' : Below w2.heap.size w2 w3 := (below_alloc (Below.refl _ _) _).trans (hb3.mono (by simp)); have hL3 := bcell hb3' hL2; have hE3 := bcell hb3' hE2; have hU3 := bcell (p := ⟨w2.heap.size, 0, none⟩) (v := .slice A2 us.length c2) hb3 (by simp); have hB3 := hB2.trans (hb3'.mono hB2.size); have hl3 := Kd.C_below hl hB3; have hC3 := Kd.C_below hC2 hb3'; have hR3 := Kd.R_below hR2 hb3'; clear hfl hb3 hb3' hL2 hE2 hl2 hC2 hLa hEa hR2))
  obtain ⟨m, hm⟩ : ∃ m, m = us.length - 1 := ⟨_, rfl⟩
  rw [← hm] at HRES
  have hm0 := hC3.2.1
  obtain ⟨ub, uo, rfl, hz⟩ := row_at hC3 (by omega)
  have z0 := hz 0 (by omega)
  have z1 := hz m (by omega)
  rw [rd, Int.toNat_natCast, List.getD_eq_getElem?_getD, zi_get (by omega)] at z0 z1
  rw [Nat.add_zero] at z0
  have e1 : IntKind.i64.wrap ((us.length : Int) - 1) = (m : Int) := by rw [wrapI _ (by omega) (by omega)]; omega
  have hm3 : m < us.length := by omega
  have hp3 : 0 < us.length := by omega
  have d1 : decide ((m : Int) < (us.length : Int)) = true := by simp; omega
  have d2 : decide (m < us.length) = true := by simp; omega
  have d3 : decide (0 < us.length) = true := by simp; omega
  have d4 : decide ((0 : Int) < (us.length : Int)) = true := by simp; omega
  generalize us.getD 0 0 = x at *
  generalize us.getD m 0 = y at *
  clear hz hm hR3 hC3 hl3
  have hS : w3.cell? ⟨w2.heap.size, 0, none⟩ = some (.slice (some ⟨ub, uo, none⟩) us.length c2) ∧ w3.cell? ⟨ub, uo, none⟩ = some (.int .i64 x) ∧ w3.cell? ⟨ub, uo + m, none⟩ = some (.int .i64 y) := ⟨hU3, z0, z1⟩
  clear hU3 z0 z1 hL3 hE3
  go_region_held3 (fun W' => W'.cell? ⟨w2.heap.size, 0, none⟩ = some (.slice (some ⟨ub, uo, none⟩) us.length c2) ∧ W'.cell? ⟨ub, uo, none⟩ = some (.int .i64 x) ∧ W'.cell? ⟨ub, uo + m, none⟩ = some (.int .i64 y))
    (first | exact hS | exact three_below (below_alloc (Below.refl _ _) _) hS | exact three_below (below_drew1 (below_alloc (Below.refl _ _) _)) hS)
    (fail)
  go_wp2
  refine bodyPost_ret (v := .tuple #[.slice (some ⟨w3.heap.size, 0, none⟩) 2 2, .int .i64 0]) (by simp [results, Tryz.results64, go_sem]) rfl ⟨_, by rw [h0], ?_, below_drew1 (below_alloc hB3 _)⟩
  rw [HRES.out]
  exact Kd.R_drew (two_own x y hB3.size)
theorem around_calls (A : Option Addr) (c : Nat) (l : List S) (ed : Bool) (w : World) (hl : Kd.C k32 w A l.length l) (hc : l.length ≤ c) (hw : Wd l) :
    Calls Tryz.prog 64 #[.slice A l.length c, .bool ed] w (AroPost l ed w) := by
  by_cases h0 : (allF l).2 = 0
  · by_cases h3 : (unlAll l).length < 3
    · exact around_few A c l ed w hl hc hw h0 h3
    · cases hf : flatAll l with
      | false => exact around_ring A c l ed w hl hc hw h0 (by omega) hf
      | true =>
        cases ed
        · exact around_two A c l w hl hc hw h0 (by omega) hf
        · exact around_rim A c l w hl hc hw h0 (by omega) hf
  · exact around_bad A c l ed w hl hc hw h0
set_option maxRecDepth 100000 in
set_option maxHeartbeats 1000000 in
theorem hull_calls (A : Option Addr) (c : Nat) (l : List S) (w : World) (hl : Kd.C k32 w A l.length l) (hc : l.length ≤ c) (hw : Wd l) :
    Calls Tryz.prog 32 #[.slice A l.length c] w (AroPost l false w) := by
  have ha := around_calls A c l false w hl hc hw
  go_enter Tryz.func32, Tryz.ntmps32
  go_wp2_with (go_at_call 64; (with_reducible refine ha.mono ?_); rintro u w1 ⟨v, rfl, hR, hb⟩)
  exact bodyPost_ret (v := .tuple #[v, .int .i64 (allF l).2]) (by simp [results, Tryz.results32, go_sem]) rfl ⟨v, rfl, hR, hb⟩
set_option maxRecDepth 100000 in
set_option maxHeartbeats 1000000 in
theorem rim_calls (A : Option Addr) (c : Nat) (l : List S) (w : World) (hl : Kd.C k32 w A l.length l) (hc : l.length ≤ c) (hw : Wd l) :
    Calls Tryz.prog 33 #[.slice A l.length c] w (AroPost l true w) := by
  have ha := around_calls A c l true w hl hc hw
  go_enter Tryz.func33, Tryz.ntmps33
  go_wp2_with (go_at_call 64; (with_reducible refine ha.mono ?_); rintro u w1 ⟨v, rfl, hR, hb⟩)
  exact bodyPost_ret (v := .tuple #[v, .int .i64 (allF l).2]) (by simp [results, Tryz.results33, go_sem]) rfl ⟨v, rfl, hR, hb⟩
end Go.Proofs.YtioahkblhekgpaaGreatDoor.Adm
