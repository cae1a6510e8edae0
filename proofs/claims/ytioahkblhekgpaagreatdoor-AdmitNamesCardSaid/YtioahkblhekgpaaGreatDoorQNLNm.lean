/- What the proof needs of LNm: only what is used is left (wip/tools/prune.py). Conditions stand in each sentence. -/
import Derived.Deep.RegionHeld3
import Derived.Test.YtioahkblhekgpaaGreatDoorQNLOrd
import Derived.Test.YtioahkblhekgpaaGreatDoorQNLit
set_option linter.unusedVariables false
set_option linter.unusedSimpArgs false
namespace Go.Proofs.YtioahkblhekgpaaGreatDoor.E
end Go.Proofs.YtioahkblhekgpaaGreatDoor.E
namespace Go.Proofs.YtioahkblhekgpaaGreatDoor.FltP
end Go.Proofs.YtioahkblhekgpaaGreatDoor.FltP
namespace Go.Proofs.YtioahkblhekgpaaGreatDoor.O
end Go.Proofs.YtioahkblhekgpaaGreatDoor.O
namespace Go.Proofs.YtioahkblhekgpaaGreatDoor.R
end Go.Proofs.YtioahkblhekgpaaGreatDoor.R
namespace Go.Proofs.YtioahkblhekgpaaGreatDoorW.PrintLast
end Go.Proofs.YtioahkblhekgpaaGreatDoorW.PrintLast
namespace Go.Proofs.YtioahkblhekgpaaGreatDoorW.PrintMore
end Go.Proofs.YtioahkblhekgpaaGreatDoorW.PrintMore
namespace Go.Proofs.YtioahkblhekgpaaGreatDoorW.PrintWords
end Go.Proofs.YtioahkblhekgpaaGreatDoorW.PrintWords
namespace Go.Proofs.YtioahkblhekgpaaGreatDoor.Adm
open Go.RowKit Go.Proofs.YtioahkblhekgpaaGreatDoor.FltP Go.Proofs.YtioahkblhekgpaaGreatDoor.R Go.Proofs.YtioahkblhekgpaaGreatDoor.E Go.Proofs.YtioahkblhekgpaaGreatDoor.O Go.Proofs.YtioahkblhekgpaaGreatDoorW.PrintWords Go.Proofs.YtioahkblhekgpaaGreatDoorW.PrintLast Go.Proofs.YtioahkblhekgpaaGreatDoorW.PrintMore
theorem row_at {w : World} {A : Option Addr} {n : Nat} {xs : List Int} (h : Kd.C (Kd.int .i64) w A n xs) (hn : 0 < n) : ∃ b o, A = some ⟨b, o, none⟩ ∧ ∀ i : Nat, i < n → w.cell? ⟨b, o + i, none⟩ = some (.int .i64 (rd xs (i : Int))) := by
  obtain ⟨ad, rfl, h0⟩ := Kd.at_int h ((0 : Nat) : Int) (by omega) (by omega)
  obtain ⟨b, o, sp⟩ := ad
  have hsp : sp = none := by simpa [Addr.add] using World.cell?_spot h0
  subst hsp
  refine ⟨b, o, rfl, fun i hi => ?_⟩
  obtain ⟨ad', e, h1⟩ := Kd.at_int h (i : Int) (by omega) (by omega)
  injection e with e
  subst e
  rw [Int.toNat_natCast, Addr.add_lit] at h1
  exact h1
theorem nan_call (w : World) : Calls Tryz.prog 26 #[] w fun e w' => e = .returned (.float .f64 9221120237041090561) ∧ w = w' := by
  go_enter Tryz.func26, Tryz.ntmps26
  go_wp2
  go_ret
  exact ⟨rfl, rfl⟩
theorem copysign_call (w : World) : Calls Tryz.prog 27 #[.float .f64 0, .float .f64 13830554455654793216] w fun e w' => e = .returned (.float .f64 9223372036854775808) ∧ w = w' := by
  go_enter Tryz.func27, Tryz.ntmps27
  go_wp2
  go_ret
  exact ⟨rfl, rfl⟩
theorem inf_call (w : World) : Calls Tryz.prog 30 #[.int .i64 1] w fun e w' => e = .returned (.float .f64 9218868437227405312) ∧ w = w' := by
  go_enter Tryz.func30, Tryz.ntmps30
  go_wp2
  go_ret
  exact ⟨rfl, rfl⟩
theorem ninf_call (w : World) : Calls Tryz.prog 30 #[.int .i64 (-1)] w fun e w' => e = .returned (.float .f64 18442240474082181120) ∧ w = w' := by
  go_enter Tryz.func30, Tryz.ntmps30
  go_wp2
  go_ret
  exact ⟨rfl, rfl⟩
theorem next_call (w : World) : Calls Tryz.prog 29 #[.float .f64 5057542381537067008, .float .f64 9218868437227405312] w fun e w' => e = .returned (.float .f64 5057542381537067009) ∧ w = w' := by
  go_enter Tryz.func29, Tryz.ntmps29
  go_wp2
  go_ret
  exact ⟨rfl, rfl⟩
theorem lit_all {n : Nat} {arr : Array Value} (l : List S) (ha : arr.toList = flt l) (hn : l.length = n) (hm : n ≤ 1000) (hw : WdB l = true) {p : Int × Int} (hp : allF l = p) (W : World) :
    Calls Tryz.prog 12 #[.slice (some ⟨W.heap.size, 0, none⟩) n n] (W.alloc (.cells arr 32)) fun e w' => e = .returned (.tuple #[.int .i64 p.1, .int .i64 p.2]) ∧ Below W.heap.size W w' := by
  subst hn hp
  exact (all_calls _ _ l _ (lit_C l ha (heap_alloc_new _ _) rfl hm) (Nat.le_refl _) (wd_of hw)).mono fun e w' h => ⟨h.1, ((Below.refl _ _).alloc (Nat.le_refl _) _).trans (h.2.mono (by simp))⟩
theorem lit_flat {n : Nat} {arr : Array Value} (l : List S) (ha : arr.toList = flt l) (hn : l.length = n) (hm : n ≤ 1000) (hw : WdB l = true) {b : Bool} (hp : flatAll l = b) (W : World) :
    Calls Tryz.prog 17 #[.slice (some ⟨W.heap.size, 0, none⟩) n n] (W.alloc (.cells arr 32)) fun e w' => e = .returned (.bool b) ∧ Below W.heap.size W w' := by
  subst hn hp
  exact (flat_calls _ _ l _ (lit_C l ha (heap_alloc_new _ _) rfl hm) (Nat.le_refl _) (wd_of hw)).mono fun e w' h => ⟨h.1, ((Below.refl _ _).alloc (Nat.le_refl _) _).trans (h.2.mono (by simp))⟩
theorem lit_twins {n : Nat} {arr : Array Value} (l : List S) (ha : arr.toList = flt l) (hn : l.length = n) (hm : n ≤ 1000) (hw : WdB l = true) {xs : List Nat} (hp : twAll l = xs) (W : World) :
    Calls Tryz.prog 15 #[.slice (some ⟨W.heap.size, 0, none⟩) n n] (W.alloc (.cells arr 32)) fun e w' => ∃ A c, e = .returned (.slice A xs.length c) ∧ Kd.C (Kd.int .i64) w' A xs.length (zi xs) ∧ Below W.heap.size W w' := by
  subst hn hp
  refine (twins_calls _ _ l _ (lit_C l ha (heap_alloc_new _ _) rfl hm) (Nat.le_refl _) (wd_of hw)).mono fun e w' h => ?_
  obtain ⟨v, rfl, hR, hb⟩ := h
  obtain ⟨A, c, rfl, -, hC⟩ := Kd.R_reads hR
  rw [show (zi (twAll l)).length = (twAll l).length from List.length_map ..] at hC ⊢
  exact ⟨A, c, rfl, hC, ((Below.refl _ _).alloc (Nat.le_refl _) _).trans (hb.mono (by simp))⟩
theorem lit_unl {n : Nat} {arr : Array Value} (l : List S) (ha : arr.toList = flt l) (hn : l.length = n) (hm : n ≤ 1000) (hw : WdB l = true) {xs : List Nat} (hp : unlAll l = xs) (W : World) :
    Calls Tryz.prog 16 #[.slice (some ⟨W.heap.size, 0, none⟩) n n] (W.alloc (.cells arr 32)) fun e w' => ∃ A c, e = .returned (.slice A xs.length c) ∧ Kd.C (Kd.int .i64) w' A xs.length (zi xs) ∧ Below W.heap.size W w' := by
  subst hn hp
  refine (unlike_calls _ _ l _ (lit_C l ha (heap_alloc_new _ _) rfl hm) (Nat.le_refl _) (wd_of hw)).mono fun e w' h => ?_
  obtain ⟨v, rfl, hR, hb⟩ := h
  obtain ⟨A, c, rfl, -, hC⟩ := Kd.R_reads hR
  rw [show (zi (unlAll l)).length = (unlAll l).length from List.length_map ..] at hC ⊢
  exact ⟨A, c, rfl, hC, ((Below.refl _ _).alloc (Nat.le_refl _) _).trans (hb.mono (by simp))⟩
def ex3 : List S := [⟨0, 0⟩, ⟨5062045981164437504, 0⟩, ⟨0, 9221120237041090561⟩]
def ex4 : List S := [⟨0, 0⟩, ⟨9223372036854775808, 9223372036854775808⟩]
def ex5 : List S := [⟨0, 0⟩, ⟨4607182418800017408, 0⟩, ⟨0, 0⟩, ⟨4607182418800017408, 0⟩]
def ex6 : List S := [⟨0, 0⟩, ⟨4607182418800017408, 0⟩, ⟨4611686018427387904, 0⟩, ⟨4613937818241073152, 4607182418800017408⟩]
def ex7 : List S := [⟨0, 4613937818241073152⟩, ⟨0, 4607182418800017408⟩, ⟨0, 4611686018427387904⟩, ⟨4621256167635550208, 0⟩]
def ex8 : List S := [⟨0, 0⟩, ⟨9223372036854775808, 0⟩]
theorem ex4_ok : (allF ex4).2 = 0 := by decide +kernel
theorem ex5_ok : (allF ex5).2 = 0 := by decide +kernel
theorem ex6_ok : (allF ex6).2 = 0 := by decide +kernel
theorem ex7_ok : (allF ex7).2 = 0 := by decide +kernel
theorem ex8_ok : (allF ex8).2 = 0 := by decide +kernel
theorem ex4_t : twAll ex4 = [0, 0] := by unfold twAll; rw [if_pos ex4_ok]; decide +kernel
theorem ex5_f : flatAll ex5 = true := (flat_iff ex5_ok).mpr (by unfold Geo.AllFlat; decide +kernel)
theorem ex6_f : flatAll ex6 = false := Bool.eq_false_iff.mpr fun h => absurd ((flat_iff ex6_ok).mp h) (by unfold Geo.AllFlat; decide +kernel)
theorem ex7_f : flatAll ex7 = false := Bool.eq_false_iff.mpr fun h => absurd ((flat_iff ex7_ok).mp h) (by unfold Geo.AllFlat; decide +kernel)
theorem ex8_ord : orderN ex8 = [0, 1] := sorted_of (by decide +kernel) (fun x => by simp [ex8]; omega)
theorem ex8_u : unlAll ex8 = [0] := by rw [unlAll_eq ex8_ok, ex8_ord]; decide +kernel
theorem nil_ok : (allF []).2 = 0 := by decide
theorem nil_f : flatAll [] = true := (flat_iff nil_ok).mpr (by unfold Geo.AllFlat; intro a ha; exact absurd ha (Nat.not_lt_zero _))
theorem may_call {a b : Nat} (ha : a < 2 ^ 64) (hb : b < 2 ^ 64) {z : Bool} (hz : (goodB a && goodB b) = z) (w : World) :
    Calls Tryz.prog 28 #[.agg #[.float .f64 a, .float .f64 b]] w fun e w' => e = .returned (.bool z) ∧ Below w.heap.size w w' := by
  subst hz
  exact (admit_May.calls _ _ _ _ (may_some ha hb)).mono fun e w' h => h
theorem cmp_zero (w : World) : Calls Tryz.prog 25 #[.agg #[.float .f64 9223372036854775808, .float .f64 0], .agg #[.float .f64 0, .float .f64 0]] w fun e w' => e = .returned (.int .i64 0) ∧ Below w.heap.size w w' := by
  have hg : ∀ x ∈ ex8, gp x = true := ((allF_ok ex8).mp ex8_ok).2
  have h := cmp_call (l := ex8) (a := 1) (b := 0) (wd_of (by decide +kernel)) hg (by decide) (by decide) w
  have e : holdAt ex8 1 0 = 0 := (holdAt_iff ex8 1 0).2.mpr (by decide +kernel)
  rw [e] at h
  exact h
theorem idx_none {α : Type} {p : α → Bool} : ∀ (l : List α) (n : Nat), (∀ x ∈ l, p x = false) → idxF p n l = -1
  | [], _, _ => rfl
  | x :: l, n, h => by rw [idxF, h x (by simp), if_neg (by decide)]; exact idx_none l (n + 1) fun y hy => h y (by simp [hy])
theorem made_run (n : Nat) (hn : n ≤ 1048576) (W : World) : (Instr.makeSlice 22 (.int .i64 (n : Int)) (.int .i64 (n : Int))).run Tryz.prog W = .ok (.slice (some ⟨W.heap.size, 0, none⟩) n n) (W.alloc (.cells (madeCells #[.float .f64 0, .float .f64 0] (n * 2)) 32)) := by
  obtain ⟨i0, hi, hz0, hz1, hz2⟩ := info_parts E.info32
  have hr := run_make (P := Tryz.prog) W 22 32 i0 _ Tryz.underlying22 hi hz0 .i64 .i64 (n : Int) (n : Int) (by omega) (by omega) (by rw [hz2]; omega) (by omega)
  rw [hz1, Int.toNat_natCast] at hr
  exact hr
theorem made_row (n : Nat) (hn : n ≤ 1048576) (W : World) (base : Nat) (hb : base ≤ W.heap.size) : Kd.R k32 32 (W.alloc (.cells (madeCells #[.float .f64 0, .float .f64 0] (n * 2)) 32)) base (fun _ => True) (.slice (some ⟨W.heap.size, 0, none⟩) n n) (List.replicate n E.z32) := by
  refine ⟨fun _ _ => trivial, (madeCells (Value.agg #[.float .f64 0, .float .f64 0]).cells (n * 2)).toList, ?_, Kd.reps_made (size := 2) rfl (by decide) (E.k32_mkM _ _ _ E.z32) n⟩
  rw [List.length_replicate]
  exact World.ownsRow_lit W _ n hb (by simp [maxLen]; omega) (size_madeCells _ _)
theorem zeros_ok : ∃ (BIG : Array Value) (L : List S), L.length = 1048576 ∧ Wd L ∧ allF L = (0, 0) ∧ (∀ W : World, (Instr.makeSlice 22 (.int .i64 1048576) (.int .i64 1048576)).run Tryz.prog W = .ok (.slice (some ⟨W.heap.size, 0, none⟩) 1048576 1048576) (W.alloc (.cells BIG 32))) ∧
    ∀ (W : World) (base : Nat), base ≤ W.heap.size → Kd.R k32 32 (W.alloc (.cells BIG 32)) base (fun _ => True) (.slice (some ⟨W.heap.size, 0, none⟩) 1048576 1048576) L := by
  refine ⟨_, _, List.length_replicate (n := 1048576) (a := E.z32), fun x hx => ?_, ?_, fun W => made_run 1048576 (Nat.le_refl _) W, fun W base hb => made_row 1048576 (Nat.le_refl _) W base hb⟩
  · rw [List.eq_of_mem_replicate hx]; decide
  · unfold allF
    rw [List.length_replicate, if_neg (by decide), idx_none _ _ fun x hx => by rw [List.eq_of_mem_replicate hx]; decide +kernel]
    rfl
theorem over_list {L : List S} (hl : L.length = 1048576) (x : S) : allF (L ++ [x]) = (0, 3) := by
  unfold allF
  rw [if_pos (by rw [List.length_append, hl, List.length_singleton]; decide)]
set_option maxRecDepth 100000 in
set_option maxHeartbeats 4000000 in
theorem lawNames (w : World) :
    Calls Tryz.prog 7 #[] w fun e w' => e = .returned (.bool true) ∧ Below w.heap.size w w' := by
  have hwk := works_call
  have c3 := lit_all (n := 3) (arr := #[Value.float .f64 0, Value.float .f64 0, Value.float .f64 5062045981164437504, Value.float .f64 0, Value.float .f64 0, Value.float .f64 9221120237041090561]) ex3 rfl rfl (by decide) (by decide +kernel) (p := (1, 10)) (by decide +kernel)
  have c4 := lit_twins (n := 2) (arr := #[Value.float .f64 0, Value.float .f64 0, Value.float .f64 9223372036854775808, Value.float .f64 9223372036854775808]) ex4 rfl rfl (by decide) (by decide +kernel) ex4_t
  have c5 := lit_flat (n := 4) (arr := #[Value.float .f64 0, Value.float .f64 0, Value.float .f64 4607182418800017408, Value.float .f64 0, Value.float .f64 0, Value.float .f64 0, Value.float .f64 4607182418800017408, Value.float .f64 0]) ex5 rfl rfl (by decide) (by decide +kernel) ex5_f
  have c6 := lit_flat (n := 4) (arr := #[Value.float .f64 0, Value.float .f64 0, Value.float .f64 4607182418800017408, Value.float .f64 0, Value.float .f64 4611686018427387904, Value.float .f64 0, Value.float .f64 4613937818241073152, Value.float .f64 4607182418800017408]) ex6 rfl rfl (by decide) (by decide +kernel) ex6_f
  have c7 := lit_flat (n := 4) (arr := #[Value.float .f64 0, Value.float .f64 4613937818241073152, Value.float .f64 0, Value.float .f64 4607182418800017408, Value.float .f64 0, Value.float .f64 4611686018427387904, Value.float .f64 4621256167635550208, Value.float .f64 0]) ex7 rfl rfl (by decide) (by decide +kernel) ex7_f
  have c8 := lit_unl (n := 2) (arr := #[Value.float .f64 0, Value.float .f64 0, Value.float .f64 9223372036854775808, Value.float .f64 0]) ex8 rfl rfl (by decide) (by decide +kernel) ex8_u
  have cn : ∀ W : World, Calls Tryz.prog 17 #[.slice none 0 0] W fun e w' => e = .returned (.bool true) ∧ Below W.heap.size W w' := fun W => by
    have := flat_calls none 0 [] W (Kd.C_nil _ _) (Nat.le_refl _) (fun x hx => absurd hx List.not_mem_nil)
    rw [nil_f] at this
    exact this
  have m1 := fun W => may_call (a := 4156822456062967808) (b := 14280914418391842816) (by decide) (by decide) (z := true) (by decide +kernel) W
  have m2 := fun W => may_call (a := 4152318856435597312) (b := 0) (by decide) (by decide) (z := false) (by decide +kernel) W
  have m3 := fun W => may_call (a := 0) (b := 5057542381537067009) (by decide) (by decide) (z := false) (by decide +kernel) W
  have m4 := fun W => may_call (a := 18442240474082181120) (b := 0) (by decide) (by decide) (z := false) (by decide +kernel) W
  obtain ⟨BIG, L, hl1, hl2, hl3, hmk, hrow⟩ := zeros_ok
  have cz : ∀ W : World, Calls Tryz.prog 12 #[.slice (some ⟨W.heap.size, 0, none⟩) 1048576 1048576] (W.alloc (.cells BIG 32)) fun e w' => e = .returned (.tuple #[.int .i64 0, .int .i64 0]) ∧ Below W.heap.size W w' := fun W => by
    have hC := (Kd.R_reads' (hrow W W.heap.size (Nat.le_refl _))).2.2
    have := all_calls _ 1048576 L _ hC (Nat.le_of_eq hl1) hl2
    rw [hl3, hl1] at this
    exact this.mono fun e w' h => ⟨h.1, ((Below.refl _ _).alloc (Nat.le_refl _) _).trans (h.2.mono (by simp))⟩
  obtain ⟨M, hM, hM2, hM3⟩ : ∃ M : List S, M = L ++ [⟨9221120237041090561, 0⟩] ∧ allF M = (0, 3) ∧ Wd M := ⟨_, rfl, over_list hl1 _, fun x hx => (List.mem_append.mp hx).elim (hl2 x) fun h => by rw [List.mem_singleton.mp h]; decide⟩
  have co : ∀ A c W, Kd.C k32 W A M.length M → M.length ≤ c → Calls Tryz.prog 12 #[.slice A M.length c] W fun e w' => e = .returned (.tuple #[.int .i64 0, .int .i64 3]) ∧ Below W.heap.size W w' := fun A c W h1 h2 => by
    have := all_calls A c _ W h1 h2 hM3
    rw [hM2] at this
    exact this
  have HM := Aside0.mk hM
  clear hM hM2 hM3
  have HROW := Aside0.mk hrow
  have HL1 := Aside0.mk hl1
  clear hrow hl1 hl2 hl3
  go_enter Tryz.func7, Tryz.ntmps7
  go_upto_region 5 with (first | (go_at_call 23; (with_reducible refine (hwk _).mono ?_); (rintro u w2 ⟨rfl, hB2⟩)) | (go_at_call 26; (with_reducible refine (nan_call _).mono ?_); rintro u w3 ⟨rfl, rfl⟩) | (go_at_call 12; (with_reducible refine (c3 _).mono ?_); rintro u w4 ⟨rfl, hb4⟩; have hB4 := hB2.trans (hb4.mono hB2.size)) | (go_at_call 12; (with_reducible refine (cz _).mono ?_); rintro u w6 ⟨rfl, hb6⟩; have hB6 := hB4.trans (hb6.mono hB4.size)))
  go_cut [5, 6] (fun v5 v6 wc => v5 = .int .i64 0 ∧ v6 = .int .i64 3 ∧ Below w.heap.size w wc)
  case first =>
    have hS : Below w6.heap.size w6 w6 := Below.refl _ _
    go_region_held3 (fun W => Below w6.heap.size w6 W)
      (with_reducible (repeat (first | exact Below.refl _ _ | exact hS | apply below_drew1 | apply below_alloc | apply pw_below_drewN | assumption)))
      (first
        | (go_at_call 26; (with_reducible refine (nan_call _).mono ?_); rintro u w7 ⟨rfl, rfl⟩)
        | (go_at_call 12; (with_reducible refine (co _ _ _ HC9.out Hc9.out).mono ?_); rintro u w10 ⟨rfl, hb10⟩; have hS10 := below_step (w := w6) (by (with_reducible (repeat (first | exact Below.refl _ _ | exact hS | apply below_drew1 | apply below_alloc | apply pw_below_drewN | assumption)))) hb10)
        | (refine Kd.R_append_rows_step k32 (w0 := w6) w6.heap.size (by rfl) (.tmp 32) (.tmp 35) 22 32 (.agg #[(.float .f64 0), (.float .f64 0)]) 16 rfl Tryz.underlying22 E.info32 rfl (by decide) (by omega) _ L [⟨9221120237041090561, 0⟩] _ _ _ (fun _ => True) (fun _ => False) rfl rfl ?aO ?aR (fun _ _ h => h) (fun _ h => h.elim) (fun _ _ => trivial) ?aB ?aS ?aL ?_
           (case aO => first | exact Kd.R_drew (Kd.R_alloc (HROW.out w6 w6.heap.size (Nat.le_refl _)) _) | (have hq := HROW.out (w6.alloc (.cells #[.float .f64 9221120237041090561, .float .f64 0] 32)) w6.heap.size (by simp); rw [show (w6.alloc (.cells #[.float .f64 9221120237041090561, .float .f64 0] 32)).heap.size = w6.heap.size + 1 from by simp] at hq; exact Kd.R_drew hq))
           (case aR => first | exact Kd.C_drew (lit_C (w := (w6.alloc (.cells BIG 32)).alloc (.cells #[.float .f64 9221120237041090561, .float .f64 0] 32)) (B := w6.heap.size + 1) (t := 32) (arr := #[.float .f64 9221120237041090561, .float .f64 0]) [⟨9221120237041090561, 0⟩] rfl (by simpa using heap_alloc_new (w6.alloc (.cells BIG 32)) (.cells #[.float .f64 9221120237041090561, .float .f64 0] 32)) rfl (by decide)) | exact Kd.C_drew (Kd.C_alloc (lit_C (w := w6.alloc (.cells #[.float .f64 9221120237041090561, .float .f64 0] 32)) (B := w6.heap.size) (t := 32) (arr := #[.float .f64 9221120237041090561, .float .f64 0]) [⟨9221120237041090561, 0⟩] rfl (heap_alloc_new w6 _) rfl (by decide)) _))
           (case aB => (with_reducible (repeat (first | exact Below.refl _ _ | exact hS | apply below_drew1 | apply below_alloc | apply pw_below_drewN | assumption))))
           (case aS => exact below_size (w := w6) (by (with_reducible (repeat (first | exact Below.refl _ _ | exact hS | apply below_drew1 | apply below_alloc | apply pw_below_drewN | assumption)))))
           (case aL => rw [HL1.out]; decide)
           intro v9 w9 ho9 hb9 hg9 hat9; clear hg9 hat9; rw [← HM.out] at ho9; obtain ⟨A9, c9, rfl, hc9, hC9⟩ := Kd.R_reads ho9; clear ho9; have HC9 := Aside0.mk hC9; have Hc9 := Aside0.mk hc9; clear hC9 hc9))
    all_goals
      go_wp2
      go_meet
      case rel => exact ⟨rfl, rfl, hB6.trans (hS10.mono hB6.size)⟩
  case rest =>
    obtain ⟨rfl, rfl, hB10⟩ := hcut
    go_wp2_with (first
      | (go_at_call 27; (with_reducible refine (copysign_call _).mono ?_); rintro u w11 ⟨rfl, rfl⟩)
      | (go_at_call 15; (with_reducible refine (c4 _).mono ?_); rintro u w12 ⟨A12, k12, rfl, hC12, hb12⟩; obtain ⟨ub, uo, rfl, hz0⟩ := row_at hC12 (by decide); have hz : w12.cell? ⟨ub, uo + 1, none⟩ = some (.int .i64 0) := hz0 1 (by decide); clear hz0; have hB := hB10.trans (hb12.mono hB10.size); clear hC12 hb12)
      | ((go_at_call 28; (first | (with_reducible refine (m1 _).mono ?_) | (with_reducible refine (m2 _).mono ?_) | (with_reducible refine (m3 _).mono ?_) | (with_reducible refine (m4 _).mono ?_)); (rintro u w13 ⟨rfl, hb⟩; replace hz := bcell hb hz; replace hB := hB.trans (hb.mono hB.size))))
      | ((go_at_call 30; (first | (with_reducible refine (inf_call _).mono ?_) | (with_reducible refine (ninf_call _).mono ?_)); (rintro u w11 ⟨rfl, rfl⟩)))
      | (go_at_call 29; (with_reducible refine (next_call _).mono ?_); rintro u w11 ⟨rfl, rfl⟩)
      | ((go_at_call 17; (first | (with_reducible refine (cn _).mono ?_) | (with_reducible refine (c5 _).mono ?_) | (with_reducible refine (c6 _).mono ?_) | (with_reducible refine (c7 _).mono ?_)); (rintro u w14 ⟨rfl, hb⟩; replace hz := bcell hb hz; replace hB := hB.trans (hb.mono hB.size))))
      | (go_at_call 16; (with_reducible refine (c8 _).mono ?_); rintro u w15 ⟨A15, k15, rfl, hC15, hb⟩; replace hz := bcell hb hz; replace hB := hB.trans (hb.mono hB.size))
      | (go_at_call 25; (with_reducible refine (cmp_zero _).mono ?_); rintro u w16 ⟨rfl, hb⟩; replace hz := bcell hb hz; replace hB := hB.trans (hb.mono hB.size)))
    go_ret
    exact ⟨rfl, hB⟩
end Go.Proofs.YtioahkblhekgpaaGreatDoor.Adm
