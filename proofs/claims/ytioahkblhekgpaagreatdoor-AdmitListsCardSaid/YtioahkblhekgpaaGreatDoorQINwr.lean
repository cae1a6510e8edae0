/- What the proof needs of Nwp, Nwq, Nwr: only what is used is left (wip/tools/prune.py). Conditions stand in each sentence. -/
import Derived.Test.YtioahkblhekgpaaGreatDoorQINwo
set_option linter.unusedVariables false
set_option linter.unusedSimpArgs false
namespace Go.Proofs.YtioahkblhekgpaaGreatDoor.Adm
end Go.Proofs.YtioahkblhekgpaaGreatDoor.Adm
namespace Go.Proofs.YtioahkblhekgpaaGreatDoor.E
end Go.Proofs.YtioahkblhekgpaaGreatDoor.E
namespace Go.Proofs.YtioahkblhekgpaaGreatDoor.FltP
end Go.Proofs.YtioahkblhekgpaaGreatDoor.FltP
namespace Go.Proofs.YtioahkblhekgpaaGreatDoor.NumP
end Go.Proofs.YtioahkblhekgpaaGreatDoor.NumP
namespace Go.Proofs.YtioahkblhekgpaaGreatDoor.O
end Go.Proofs.YtioahkblhekgpaaGreatDoor.O
namespace Go.Proofs.YtioahkblhekgpaaGreatDoor.R
end Go.Proofs.YtioahkblhekgpaaGreatDoor.R
namespace Go.Proofs.YtioahkblhekgpaaGreatDoorW.PrintLast
end Go.Proofs.YtioahkblhekgpaaGreatDoorW.PrintLast
namespace Go.Proofs.YtioahkblhekgpaaGreatDoorW.PrintMore
end Go.Proofs.YtioahkblhekgpaaGreatDoorW.PrintMore
namespace Go.Proofs.YtioahkblhekgpaaGreatDoorW.PrintWords
end Go.Proofs.YtioahkblhekgpaaGreatDoorW.PrintWords
namespace Go.Proofs.YtioahkblhekgpaaGreatDoor.Nw
open Go.RowKit Go.Proofs.YtioahkblhekgpaaGreatDoor.FltP Go.Proofs.YtioahkblhekgpaaGreatDoor.R Go.Proofs.YtioahkblhekgpaaGreatDoor.E Go.Proofs.YtioahkblhekgpaaGreatDoor.O Go.Proofs.YtioahkblhekgpaaGreatDoorW.PrintWords Go.Proofs.YtioahkblhekgpaaGreatDoorW.PrintLast Go.Proofs.YtioahkblhekgpaaGreatDoorW.PrintMore
open Go.Proofs.YtioahkblhekgpaaGreatDoor.NumP Go.Proofs.YtioahkblhekgpaaGreatDoor.Adm
theorem rdz {u : List Nat} {i : Nat} (h : i < u.length) : rd (zi u) (i : Int) = (u.getD i 0 : Nat) := by
  rw [rd, Int.toNat_natCast, List.getD_eq_getElem?_getD, zi_get h]
theorem filter_take (f : Nat → Bool) (xs : List Nat) {i : Nat} (h : i < xs.length) : (xs.take (i + 1)).filter f = (xs.take i).filter f ++ (if f (xs.getD i 0) = true then [xs.getD i 0] else []) := by
  rw [List.take_add_one, List.getElem?_eq_getElem h, List.filter_append, List.getD_eq_getElem?_getD, List.getElem?_eq_getElem h]
  simp only [Option.toList, Option.getD]
  by_cases k : f xs[i] = true
  · rw [if_pos k]; simp [k]
  · rw [if_neg k]; simp [k]
set_option maxRecDepth 100000 in
set_option maxHeartbeats 8000000 in
theorem unlike07_calls (A : Option Addr) (c : Nat) (l : List S) (w : World) (hl : Kd.C k32 w A l.length l) (hc : l.length ≤ c) (h0 : (allF l).2 = 0) :
    Calls Tryz.prog 21 #[.slice A l.length c] w (Gives w (unlAll l)) := by
  have ho := order07_calls A c l w hl hc h0
  have ht := fun W (hb : Below w.heap.size w W) => twins07_calls A c l W (Kd.C_below hl hb) hc h0
  have hn : l.length ≤ 1048576 := ((allF_ok l).mp h0).1
  have hso := orderN_sorted l
  have hlo := hso.length
  have htw : twAll l = (List.range l.length).map (tw (PT l)) := by unfold twAll; rw [if_pos h0]
  rw [unlAll_eq h0]
  have hlt : ∀ i, i < l.length → (orderN l).getD i 0 < l.length := fun i hi => (hso.2 _).mp (by rw [getD_at (by omega)]; exact List.getElem_mem _)
  have htl : (twAll l).length = l.length := by rw [htw]; simp
  have hta : ∀ a, a < l.length → (twAll l).getD a 0 = tw (PT l) a := fun a ha => by rw [htw, getD_at (by simp; exact ha)]; simp
  have hfi : ∀ i, i < l.length → ((orderN l).take (i + 1)).filter (fst (PT l)) = ((orderN l).take i).filter (fst (PT l)) ++ (if (twAll l).getD ((orderN l).getD i 0) 0 = (orderN l).getD i 0 then [(orderN l).getD i 0] else []) := fun i hi => by
    rw [filter_take _ _ (by omega), hta _ (hlt i hi)]
    unfold fst
    simp only [decide_eq_true_iff]
  have hfl : ∀ i, (((orderN l).take i).filter (fst (PT l))).length ≤ 1048576 := fun i => by
    have h1 := List.length_filter_le (fst (PT l)) ((orderN l).take i)
    rw [List.length_take] at h1
    omega
  have hff : (orderN l).filter (fst (PT l)) = ((orderN l).take l.length).filter (fst (PT l)) := by rw [List.take_of_length_le (by omega)]
  rw [hff]
  clear hff hta htw hso
  obtain ⟨m, hm⟩ : ∃ m, m = l.length := ⟨_, rfl⟩
  rw [← hm] at hl hc hn hlo hlt htl hfi ho ht
  rw [← hm]
  generalize orderN l = oo at *
  generalize twAll l = tt at *
  generalize fst (PT l) = ff at *
  have HLO := Aside0.mk (And.intro hlo htl)
  have HFI := Aside0.mk (And.intro hfi hfl)
  have HLT := Aside0.mk hlt
  clear h0 hm hlo htl hfi hlt hfl
  go_enter Tryz.func21, Tryz.ntmps21
  go_wp2_with (first
    | (go_at_call 19; (with_reducible refine ho.mono ?_); rintro u w1 ⟨v1, rfl, hR1, hB1⟩)
    | (go_at_call 20; (with_reducible refine (ht _ hB1).mono ?_); rintro u w2 ⟨v2, rfl, hR2, hB2⟩))
  replace hR1 := Kd.R_below hR1 hB2
  obtain ⟨A1, c1, rfl⟩ := Kd.R_slice hR1
  obtain ⟨A2, c2, rfl⟩ := Kd.R_slice hR2
  obtain ⟨-, -, hC1⟩ := Kd.R_reads' hR1
  obtain ⟨-, -, hC2⟩ := Kd.R_reads' hR2
  rw [zi_length] at hC1 hC2
  rw [zi_length, HLO.out.1, zi_length, HLO.out.2]
  rw [HLO.out.1] at hC1
  rw [HLO.out.2] at hC2
  clear hR1 hR2 ho ht
  have hB12 := hB1.trans (hB2.mono hB1.size)
  go_loopw [5, 6] (fun v5 v6 wr => ∃ i : Nat, i ≤ m ∧ v6 = .int .i64 i ∧ Kd.R (Kd.int .i64) 3 wr w2.heap.size (fun _ => True) v5 (zi ((oo.take i).filter ff)) ∧ Below w2.heap.size w2 wr) (fun _ v6 _ => m - (intOf v6).toNat)
  case atStart => exact ⟨0, Nat.zero_le _, rfl, Kd.R_nil .., Below.refl _ _⟩
  case round =>
    obtain ⟨i, hi, rfl, hR, hB⟩ := hrel
    by_cases him : i < m
    · have d1 : decide ((i : Int) < (m : Int)) = true := by simp; omega
      have d2 : decide (i < m) = true := by simp; omega
      have i1 : IntKind.i64.wrap ((i : Int) + 1) = (i : Int) + 1 := wrapI _ (by omega) (by omega)
      have ham := HLT.out i him
      obtain ⟨ob, o_, rfl, ho⟩ := row_at hC1 (by omega)
      obtain ⟨tb, t_, rfl, ht⟩ := row_at hC2 (by omega)
      have r1 := bcell hB (ho i him)
      rw [rdz (by rw [HLO.out.1]; exact him)] at r1
      have r2 := bcell hB (ht _ ham)
      rw [rdz (by rw [HLO.out.2]; exact ham)] at r2
      have hst := HFI.out.1 i him
      have hll := HFI.out.2 i
      clear ho ht
      have HST := Aside0.mk hst
      have HLL := Aside0.mk hll
      clear hst hll
      generalize tt.getD (oo.getD i 0) 0 = t at *
      generalize oo.getD i 0 = a at *
      have d3 : decide ((a : Int) < (m : Int)) = true := by simp; omega
      have d4 : decide (a < m) = true := by simp; omega
      have g1 : ∀ n, (wr.drewN n).cell? ⟨ob, o_ + i, none⟩ = some (.int .i64 a) := fun n => bcell (pw_below_drewN (Below.refl wr.heap.size wr) n) r1
      by_cases hta : t = a
      · subst hta
        have hs := HST.out
        rw [if_pos rfl] at hs
        have HS := Aside0.mk hs
        clear hs HST
        go_upto_region 7 with (fail)
        go_quiet (fail)
        have r3 := g1 nq
        have hRq := Kd.R_below hR (pw_below_drewN (Below.refl wr.heap.size wr) nq)
        have hBq := pw_below_drewN hB nq
        clear r1 r2 g1 hR hB hl
        generalize wr.drewN nq = W7 at *
        go_wp2_with (refine wp_ck (.inl hRq) hBq hBq.size (Nat.le_trans HLL.out (by omega)) rfl (.tmp 29) (.tmp 34) rfl rfl rfl rfl (by first | rfl | simp) ?_; intro v1 w1 hR2 hB9)
        exact ⟨⟨i + 1, by omega, by go_num, by rw [HS.out]; exact hR2, hB9⟩, by simp [intOf]; omega⟩
      · have f1 : decide ((t : Int) = (a : Int)) = false := by simp; omega
        have f2 : decide (t = a) = false := by simp; omega
        have f3 : ((t : Int) == (a : Int)) = false := by simp; omega
        have f4 : (t == a) = false := by simp; omega
        have hs := HST.out
        rw [if_neg hta, List.append_nil] at hs
        have HS := Aside0.mk hs
        clear hs HST hta
        go_upto_region 7 with (fail)
        go_quiet (fail)
        go_wp2
        exact ⟨⟨i + 1, by omega, by go_num, by rw [HS.out]; exact Kd.R_below hR (pw_below_drewN (Below.refl wr.heap.size wr) nq), pw_below_drewN hB nq⟩, by simp [intOf]; omega⟩
    · obtain rfl : i = m := by omega
      have d1 : decide ((i : Int) < (i : Int)) = false := by simp
      have d2 : decide (i < i) = false := by simp
      have hRR := Kd.R_lower hR hB12.size
      clear hR
      go_wp2
      go_ret
      exact ⟨_, rfl, hRR, hB12.trans (hB.mono hB12.size)⟩
set_option maxRecDepth 100000 in
set_option maxHeartbeats 4000000 in
theorem ints07_same (A1 A2 : Option Addr) (c1 c2 n : Nat) (xs : List Nat) (w : World) (h1 : Kd.C (Kd.int .i64) w A1 n (zi xs)) (h2 : Kd.C (Kd.int .i64) w A2 n (zi xs)) (hn : n ≤ 4000000) :
    Calls Tryz.prog 18 #[.slice A1 n c1, .slice A2 n c2] w fun e w' => e = .returned (.bool true) ∧ Below w.heap.size w w' := by
  go_enter Tryz.func18, Tryz.ntmps18
  go_wp2
  go_loopw [5] (fun v5 wr => ∃ i : Nat, i ≤ n ∧ v5 = .int .i64 i ∧ Below w.heap.size w wr) (fun v5 _ => n - (intOf v5).toNat)
  case atStart => exact ⟨0, Nat.zero_le _, rfl, Below.refl _ _⟩
  case round =>
    obtain ⟨i, hi, rfl, hB⟩ := hrel
    by_cases him : i < n
    · have d1 : decide ((i : Int) < (n : Int)) = true := by simp; omega
      have d2 : decide (i < n) = true := by simp; omega
      have i1 : IntKind.i64.wrap ((i : Int) + 1) = (i : Int) + 1 := wrapI _ (by omega) (by omega)
      obtain ⟨ob, o_, rfl, ho⟩ := row_at h1 (by omega)
      obtain ⟨tb, t_, rfl, ht⟩ := row_at h2 (by omega)
      have r1 := bcell hB (ho i him)
      have r2 := bcell hB (ht i him)
      generalize rd (zi xs) (i : Int) = v at *
      clear ho ht h1 h2
      go_upto_region 6 with (fail)
      go_quiet (fail)
      go_wp2
      exact ⟨⟨i + 1, by omega, by go_num, pw_below_drewN hB nq⟩, by simp [intOf]; omega⟩
    · obtain rfl : i = n := by omega
      have d1 : decide ((i : Int) < (i : Int)) = false := by simp
      have d2 : decide (i < i) = false := by simp
      go_wp2
      go_ret
      exact ⟨rfl, hB⟩
end Go.Proofs.YtioahkblhekgpaaGreatDoor.Nw
namespace Go.Proofs.YtioahkblhekgpaaGreatDoor.Nw
open Go.RowKit Go.Proofs.YtioahkblhekgpaaGreatDoor.FltP Go.Proofs.YtioahkblhekgpaaGreatDoor.R Go.Proofs.YtioahkblhekgpaaGreatDoor.E Go.Proofs.YtioahkblhekgpaaGreatDoor.O Go.Proofs.YtioahkblhekgpaaGreatDoorW.PrintWords Go.Proofs.YtioahkblhekgpaaGreatDoorW.PrintLast Go.Proofs.YtioahkblhekgpaaGreatDoorW.PrintMore
open Go.Proofs.YtioahkblhekgpaaGreatDoor.NumP Go.Proofs.YtioahkblhekgpaaGreatDoor.Adm
attribute [local go_sem high] eqPt
theorem nil_own {W : World} {base : Nat} (hb : base ≤ W.heap.size) : Kd.R k32 32 (W.alloc (.cells #[] 32)) base (fun _ => True) (.slice (some ⟨W.heap.size, 0, none⟩) 0 0) [] :=
  ⟨fun _ _ => trivial, [], World.ownsRow_lit W #[] 0 hb (by simp [maxLen]) rfl, ⟨by simp, by simp⟩⟩
set_option maxRecDepth 100000 in
set_option maxHeartbeats 4000000 in
theorem lists_long (A : Option Addr) (c : Nat) (l : List S) (w : World) (h1 : 60 < l.length) :
    Calls Tryz.prog 3 #[.slice A l.length c] w fun e w' => e = .returned (.bool true) ∧ Below w.heap.size w w' := by
  have d1 : decide ((60 : Int) < (l.length : Int)) = true := by simp; omega
  have d2 : decide (60 < l.length) = true := by simp; omega
  go_enter Tryz.func3, Tryz.ntmps3
  go_wp2
  go_ret
  exact ⟨rfl, Below.refl _ _⟩
set_option maxRecDepth 100000 in
set_option maxHeartbeats 4000000 in
theorem lists_bad (A : Option Addr) (c : Nat) (l : List S) (w : World) (hl : Kd.C k32 w A l.length l) (hc : l.length ≤ c) (hw : Wd l) (h1 : l.length ≤ 60) (h0 : (allF l).2 ≠ 0) :
    Calls Tryz.prog 3 #[.slice A l.length c] w fun e w' => e = .returned (.bool true) ∧ Below w.heap.size w w' := by
  have d1 : decide ((60 : Int) < (l.length : Int)) = false := by simp; omega
  have d2 : decide (60 < l.length) = false := by simp; omega
  have e1 : ((allF l).2 != 0) = true := bne_iff_ne.mpr h0
  have e2 : decide ((allF l).2 = 0) = false := decide_eq_false h0
  have ha := fun A c w (hl : Kd.C k32 w A l.length l) (hc : l.length ≤ c) => all_calls A c l w hl hc hw
  have hf := fun A c w (hl : Kd.C k32 w A l.length l) (hc : l.length ≤ c) => all07_calls A c l w hl hc hw
  have ho := fun A c w (hl : Kd.C k32 w A l.length l) (hc : l.length ≤ c) => order_calls A c l w hl hc hw
  have ht := fun A c w (hl : Kd.C k32 w A l.length l) (hc : l.length ≤ c) => twins_calls A c l w hl hc hw
  have hu := fun A c w (hl : Kd.C k32 w A l.length l) (hc : l.length ≤ c) => unlike_calls A c l w hl hc hw
  have hfl := fun A c w (hl : Kd.C k32 w A l.length l) (hc : l.length ≤ c) => flat_calls A c l w hl hc hw
  have o1 : ordAll l = [] := by unfold ordAll; rw [if_neg h0]
  have o2 : twAll l = [] := by unfold twAll; rw [if_neg h0]
  have o3 : unlAll l = [] := by unfold unlAll; rw [o1]; rfl
  have o4 : flatAll l = false := by unfold flatAll; rw [if_neg h0]
  rw [o1] at ho
  rw [o2] at ht
  rw [o3] at hu
  rw [o4] at hfl
  have HC := Aside0.mk hc
  obtain ⟨m, hm⟩ : ∃ m, m = l.length := ⟨_, rfl⟩
  have HM := Aside0.mk hm
  have hA := Tryz.underlying22
  clear o1 o2 o3 o4 h0 hc hm
  generalize (allF l).2 = f at *
  generalize (allF l).1 = at0 at *
  go_enter Tryz.func3, Tryz.ntmps3
  go_wp2_with (first
    | (refine Kd.R_append_rows k32 (w0 := w) w.heap.size (by rfl) (.tmp 19) (.tmp 20) 22 32 (.agg #[(.float .f64 0), (.float .f64 0)]) 16 rfl Tryz.underlying22 E.info32 rfl (by decide) (by omega) (.slice (some ⟨w.heap.size, 0, none⟩) 0 0) [] l _ _ _ (fun _ => True) (fun _ => False) rfl rfl ?aO ?aR (fun _ _ h => h) (fun _ h => h.elim) (fun _ _ => trivial) ?aB ?aS ?aL ?_
       (case aO => exact nil_own (Nat.le_refl _))
       (case aR => exact Kd.C_below hl (below_alloc (Below.refl _ _) _))
       (case aB => exact below_alloc (Below.refl _ _) _)
       (case aS => exact (below_alloc (Below.refl w.heap.size w) _).size)
       (case aL => simp only [List.length_nil]; omega)
       intro v1 w1 hR1 hB1 hg1 hat1; clear hg1 hat1; rw [List.nil_append] at hR1; obtain ⟨A1, c1, rfl⟩ := Kd.R_slice hR1; have hC1 := Kd.R_reads' hR1; clear hR1)
    | (go_at_call 12; (with_reducible refine (ha _ _ _ hC1.2.2 hC1.2.1).mono ?_); rintro u w2 ⟨rfl, hb2⟩; have hB2 := hB1.trans (hb2.mono hB1.size); have hC2 := Kd.C_below hC1.2.2 hb2; clear hb2)
    | (go_at_call 13; (with_reducible refine (hf _ _ _ (Kd.C_below hl hB2) HC.out).mono ?_); rintro u w3 ⟨rfl, hb3⟩; have hB3 := hB2.trans (hb3.mono hB2.size); have hC3 := Kd.C_below hC2 hb3; clear hb3))
  go_loopw [8] (fun v8 wr => v8 = .int .i64 0 ∧ Below w.heap.size w wr ∧ Kd.C k32 wr A1 l.length l) (fun _ _ => 0)
  case atStart => exact ⟨rfl, hB3, hC3⟩
  case round =>
    clear hB3 hC3 hB2 hC2 hB1
    obtain ⟨rfl, hB3, hC3⟩ := hrel
    go_wp2_with (first
      | (go_at_call 14; (with_reducible refine (ho _ _ _ hC3 hC1.2.1).mono ?_); rintro u w4 ⟨v4, rfl, hR4, hb4⟩; obtain ⟨A4, c4, rfl⟩ := Kd.R_slice hR4; have hB4 := hB3.trans (hb4.mono hB3.size); have hC4 := Kd.C_below hC3 hb4; clear hb4 hR4)
      | (go_at_call 15; (with_reducible refine (ht _ _ _ hC4 hC1.2.1).mono ?_); rintro u w5 ⟨v5, rfl, hR5, hb5⟩; obtain ⟨A5, c5, rfl⟩ := Kd.R_slice hR5; have hB5 := hB4.trans (hb5.mono hB4.size); have hC5 := Kd.C_below hC4 hb5; clear hb5 hR5)
      | (go_at_call 16; (with_reducible refine (hu _ _ _ hC5 hC1.2.1).mono ?_); rintro u w6 ⟨v6, rfl, hR6, hb6⟩; obtain ⟨A6, c6, rfl⟩ := Kd.R_slice hR6; have hB6 := hB5.trans (hb6.mono hB5.size); have hC6 := Kd.C_below hC5 hb6; clear hb6 hR6)
      | (go_at_call 17; (with_reducible refine (hfl _ _ _ hC6 hC1.2.1).mono ?_); rintro u w7 ⟨rfl, hb7⟩; have hB7 := hB6.trans (hb7.mono hB6.size); clear hb7))
    go_ret
    exact ⟨rfl, hB7⟩
end Go.Proofs.YtioahkblhekgpaaGreatDoor.Nw
namespace Go.Proofs.YtioahkblhekgpaaGreatDoor.Nw
open Go.RowKit Go.Proofs.YtioahkblhekgpaaGreatDoor.FltP Go.Proofs.YtioahkblhekgpaaGreatDoor.R Go.Proofs.YtioahkblhekgpaaGreatDoor.E Go.Proofs.YtioahkblhekgpaaGreatDoor.O Go.Proofs.YtioahkblhekgpaaGreatDoorW.PrintWords Go.Proofs.YtioahkblhekgpaaGreatDoorW.PrintLast Go.Proofs.YtioahkblhekgpaaGreatDoorW.PrintMore
open Go.Proofs.YtioahkblhekgpaaGreatDoor.NumP Go.Proofs.YtioahkblhekgpaaGreatDoor.Adm
attribute [local go_sem high] eqPt
def Rw (w : World) (g n : Nat) : Prop := ∃ cs : Array Value, w.heap[g]? = some (.cells cs 3 (0, 0)) ∧ n ≤ cs.size
theorem Rw.below {w w' : World} {g n : Nat} (h : Rw w g n) (hb : Below w.heap.size w w') : Rw w' g n := by
  obtain ⟨cs, h1, h2⟩ := h
  exact ⟨cs, blk_below h1 hb, h2⟩
theorem Rw.cell {w : World} {g n i : Nat} (h : Rw w g n) (hi : i < n) : (∃ v, w.cell? ⟨g, i, none⟩ = some v) ∧ w.frozen? ⟨g, i, none⟩ = false := by
  obtain ⟨cs, h1, h2⟩ := h
  exact ⟨⟨cs[i], by rw [blk_cell h1, Array.getElem?_eq_getElem (by omega)]⟩, blk_frozen h1 i⟩
theorem Rw.put {w : World} {g n : Nat} (h : Rw w g n) (i : Nat) (v : Value) : Rw (w.setCell ⟨g, i, none⟩ v) g n := by
  obtain ⟨cs, h1, h2⟩ := h
  exact ⟨_, blk_put h1 i v rfl, by simpa using h2⟩
theorem Rw.far {w : World} {g n : Nat} (h : Rw w g n) {p : Addr} (hp : g ≠ p.block) (v : Value) : Rw (w.setCell p v) g n := by
  obtain ⟨cs, h1, h2⟩ := h
  exact ⟨cs, blk_far h1 hp v, h2⟩
def Gd (lo hi : Nat) (w : World) (A : Option Addr) (g n : Nat) : Prop := 0 < n → A = some ⟨g, 0, none⟩ ∧ lo ≤ g ∧ g < hi ∧ Rw w g n
theorem Gd.below {lo hi : Nat} {w w' : World} {A : Option Addr} {g n : Nat} (h : Gd lo hi w A g n) (hb : Below w.heap.size w w') : Gd lo hi w' A g n := fun hn => ⟨(h hn).1, (h hn).2.1, (h hn).2.2.1, (h hn).2.2.2.below hb⟩
theorem Gd.far {lo hi : Nat} {w : World} {A : Option Addr} {g n : Nat} (h : Gd lo hi w A g n) {p : Addr} (hp : p.block < lo ∨ hi ≤ p.block) (v : Value) : Gd lo hi (w.setCell p v) A g n := fun hn => by
  obtain ⟨e, h1, h2, h3⟩ := h hn
  exact ⟨e, h1, h2, h3.far (by omega) v⟩
theorem Gd.put {lo hi : Nat} {w : World} {A : Option Addr} {g n : Nat} (h : Gd lo hi w A g n) (i : Nat) (v : Value) : Gd lo hi (w.setCell ⟨g, i, none⟩ v) A g n := fun hn => by
  obtain ⟨e, h1, h2, h3⟩ := h hn
  exact ⟨e, h1, h2, h3.put i v⟩
theorem gives_form {w w' : World} {xs : List Nat} {n : Nat} {e : Ending} (h : Gives w xs e w') (hn : xs.length = n) :
    ∃ A c g, e = .returned (.slice A n c) ∧ Kd.C (Kd.int .i64) w' A n (zi xs) ∧ Gd w.heap.size w'.heap.size w' A g n ∧ Below w.heap.size w w' := by
  obtain ⟨v, rfl, hR, hb⟩ := h
  rcases Nat.eq_zero_or_pos n with h0 | h0
  · obtain ⟨A, c, rfl⟩ := Kd.R_slice hR
    have hC := (Kd.R_reads' hR).2.2
    rw [zi_length, hn] at hC ⊢
    exact ⟨A, c, 0, rfl, hC, fun h => absurd h (by omega), hb⟩
  · obtain ⟨g, cap, rfl, h1, h2, cs, h3⟩ := Kd.R_form hR (by rw [zi_length]; omega)
    have hC := (Kd.R_reads' hR).2.2
    rw [zi_length, hn] at hC ⊢
    refine ⟨_, cap, g, rfl, hC, fun _ => ⟨rfl, h1, h2, cs, h3, ?_⟩, hb⟩
    have := row_cells hC (n - 1) (by omega)
    rw [blk_cell h3] at this
    have := (Array.getElem?_eq_some_iff.mp this).1
    omega
theorem give {f : Nat} {args : Array Value} {w : World} {xs : List Nat} {n : Nat} (h : Calls Tryz.prog f args w (Gives w xs)) (hn : xs.length = n) :
    Calls Tryz.prog f args w fun e w' => ∃ A c g, e = .returned (.slice A n c) ∧ Kd.C (Kd.int .i64) w' A n (zi xs) ∧ Gd w.heap.size w'.heap.size w' A g n ∧ Below w.heap.size w w' :=
  h.mono fun _ _ k => gives_form k hn
set_option maxRecDepth 100000 in
set_option maxHeartbeats 8000000 in
theorem lists_good (A : Option Addr) (c : Nat) (l : List S) (w : World) (hl : Kd.C k32 w A l.length l) (hc : l.length ≤ c) (hw : Wd l) (h1 : l.length ≤ 60) (h0 : (allF l).2 = 0) :
    Calls Tryz.prog 3 #[.slice A l.length c] w fun e w' => e = .returned (.bool true) ∧ Below w.heap.size w w' := by
  have hu32 := Tryz.underlying32
  have d1 : decide ((60 : Int) < (l.length : Int)) = false := by simp; omega
  have d2 : decide (60 < l.length) = false := by simp; omega
  have o1 : ordAll l = orderN l := by unfold ordAll; rw [if_pos h0]
  have o2 : (orderN l).length = l.length := (orderN_sorted l).length
  have o3 : (twAll l).length = l.length := by unfold twAll; rw [if_pos h0]; simp
  have o4 : (unlAll l).length ≤ l.length := by rw [unlAll_eq h0]; have := List.length_filter_le (fst (PT l)) (orderN l); omega
  have ha := fun A c w (hl : Kd.C k32 w A l.length l) (hc : l.length ≤ c) => all_calls A c l w hl hc hw
  have hf := fun A c w (hl : Kd.C k32 w A l.length l) (hc : l.length ≤ c) => all07_calls A c l w hl hc hw
  have ho := fun A c w (hl : Kd.C k32 w A l.length l) (hc : l.length ≤ c) => give (xs := orderN l) (o1 ▸ order_calls A c l w hl hc hw) o2
  have ht := fun A c w (hl : Kd.C k32 w A l.length l) (hc : l.length ≤ c) => give (xs := twAll l) (twins_calls A c l w hl hc hw) o3
  have hun := fun A c w (hl : Kd.C k32 w A l.length l) (hc : l.length ≤ c) => give (xs := unlAll l) (unlike_calls A c l w hl hc hw) rfl
  have hfl := fun A c w (hl : Kd.C k32 w A l.length l) (hc : l.length ≤ c) => flat_calls A c l w hl hc hw
  have ho7 := fun A c w (hl : Kd.C k32 w A l.length l) (hc : l.length ≤ c) => give (order07_calls A c l w hl hc h0) o2
  have ht7 := fun A c w (hl : Kd.C k32 w A l.length l) (hc : l.length ≤ c) => give (twins07_calls A c l w hl hc h0) o3
  have hun7 := fun A c w (hl : Kd.C k32 w A l.length l) (hc : l.length ≤ c) => give (unlike07_calls A c l w hl hc h0) rfl
  have hfl7 := fun A c w (hl : Kd.C k32 w A l.length l) (hc : l.length ≤ c) => flat07_calls A c l w hl hc h0
  have hgp := ((allF_ok l).mp h0).2
  have HQ : Aside0 (∀ i, i < l.length → (FloatKind.f64.format.order (at_ l i).f0 (at_ l i).f0 == some .eq) = true ∧ (FloatKind.f64.format.order (at_ l i).f1 (at_ l i).f1 == some .eq) = true) := ⟨fun i hi => by
    have g := gp_good (hgp _ (rd_at hi))
    exact ⟨(eq_fin g.1.1 g.1.1).trans (by simp), (eq_fin g.2.1 g.2.1).trans (by simp)⟩⟩
  have HC := Aside0.mk hc
  obtain ⟨m, hm⟩ : ∃ m, m = l.length := ⟨_, rfl⟩
  obtain ⟨k, hk⟩ : ∃ k, k = (unlAll l).length := ⟨_, rfl⟩
  rw [← hm] at hl hc h1 d1 d2 o2 o3 o4 ha hf ho ht hun hfl ho7 ht7 hun7 hfl7 HQ HC ⊢
  rw [← hk] at o4 hun hun7
  have HM := Aside0.mk hm
  rw [h0] at ha hf
  clear o1 o2 o3 h0 hc hgp hw hm hk
  generalize (allF l).1 = at0 at *
  generalize orderN l = oo at *
  generalize twAll l = tt at *
  generalize unlAll l = uu at *
  generalize flatAll l = ff at *
  go_enter Tryz.func3, Tryz.ntmps3
  go_wp2_with (first
    | (refine Kd.R_append_rows k32 (w0 := w) w.heap.size (by rfl) (.tmp 19) (.tmp 20) 22 32 (.agg #[(.float .f64 0), (.float .f64 0)]) 16 rfl Tryz.underlying22 E.info32 rfl (by decide) (by omega) (.slice (some ⟨w.heap.size, 0, none⟩) 0 0) [] l _ _ _ (fun _ => True) (fun _ => False) rfl rfl ?aO ?aR (fun _ _ h => h) (fun _ h => h.elim) (fun _ _ => trivial) ?aB ?aS ?aL ?_
       (case aO => exact nil_own (Nat.le_refl _))
       (case aR => exact Kd.C_below hl (below_alloc (Below.refl _ _) _))
       (case aB => exact below_alloc (Below.refl _ _) _)
       (case aS => exact (below_alloc (Below.refl w.heap.size w) _).size)
       (case aL => simp only [List.length_nil]; omega)
       intro v1 w1 hR1 hB1 hg1 hat1; clear hg1 hat1; rw [List.nil_append] at hR1; obtain ⟨A1, c1, rfl⟩ := Kd.R_slice hR1; have hC1 := Kd.R_reads' hR1; rw [← HM.out] at hC1 ⊢; clear hR1)
    | (go_at_call 12; (with_reducible refine (ha _ _ _ hC1.2.2 hC1.2.1).mono ?_); rintro u w2 ⟨rfl, hb2⟩; have hB2 := hB1.trans (hb2.mono hB1.size); have hC2 := Kd.C_below hC1.2.2 hb2; clear hb2)
    | (go_at_call 13; (with_reducible refine (hf _ _ _ (Kd.C_below hl hB2) HC.out).mono ?_); rintro u w3 ⟨rfl, hb3⟩; have hB3 := hB2.trans (hb3.mono hB2.size); have hC3 := Kd.C_below hC2 hb3; clear hb3))
  have HC1 := Aside0.mk hC1.2.1
  clear hB1 hB2 hC1 hC2 ha hf d1 d2
  go_loopw [8] (fun v8 wr => ∃ r : Nat, r ≤ 2 ∧ v8 = .int .i64 r ∧ Below w3.heap.size w3 wr) (fun v8 _ => 2 - (intOf v8).toNat)
  case atStart => exact ⟨0, by omega, rfl, Below.refl _ _⟩
  case round =>
    obtain ⟨r, hr, rfl, hB40⟩ := hrel
    by_cases hr2 : r < 2
    · have d1 : decide ((r : Int) < 2) = true := by simp; omega
      have d2 : decide (r < 2) = true := by simp; omega
      have i1 : IntKind.i64.wrap ((r : Int) + 1) = (r : Int) + 1 := wrapI _ (by omega) (by omega)
      obtain ⟨wa, hwa⟩ : ∃ wa : World, wa = wr := ⟨wr, rfl⟩
      subst hwa
      go_wp2_with (first
        | (go_at_call 14; (with_reducible refine (ho A1 c1 _ (Kd.C_below hC3 hB40) HC1.out).mono ?_); rintro u w4 ⟨A4, c4, g4, rfl, hC4, hG4, hb⟩; have hB4 := hB40.trans (hb.mono hB40.size); clear hb)
        | (go_at_call 15; (with_reducible refine (ht A1 c1 _ (Kd.C_below hC3 hB4) HC1.out).mono ?_); rintro u w5 ⟨A5, c5, g5, rfl, hC5, hG5, hb⟩; have hB5 := hB4.trans (hb.mono hB4.size); replace hC4 := Kd.C_below hC4 hb; replace hG4 := hG4.below hb; clear hb)
        | (go_at_call 16; (with_reducible refine (hun A1 c1 _ (Kd.C_below hC3 hB5) HC1.out).mono ?_); rintro u w6 ⟨A6, c6, g6, rfl, hC6, hG6, hb⟩; have hB6 := hB5.trans (hb.mono hB5.size); replace hC4 := Kd.C_below hC4 hb; replace hG4 := hG4.below hb; replace hC5 := Kd.C_below hC5 hb; replace hG5 := hG5.below hb; clear hb)
        | (go_at_call 17; (with_reducible refine (hfl A1 c1 _ (Kd.C_below hC3 hB6) HC1.out).mono ?_); rintro u w7 ⟨rfl, hb⟩; have hB7 := hB6.trans (hb.mono hB6.size); replace hC4 := Kd.C_below hC4 hb; replace hG4 := hG4.below hb; replace hC5 := Kd.C_below hC5 hb; replace hG5 := hG5.below hb; replace hC6 := Kd.C_below hC6 hb; replace hG6 := hG6.below hb; clear hb)
        | (go_at_call 19; (with_reducible refine (ho7 A c _ (Kd.C_below hl (hB3.trans (hB7.mono hB3.size))) HC.out).mono ?_); rintro u w8 ⟨A8, c8, g8, rfl, hC8, hG8, hb⟩; have hB8 := hB7.trans (hb.mono hB7.size); replace hC4 := Kd.C_below hC4 hb; replace hG4 := hG4.below hb; replace hC5 := Kd.C_below hC5 hb; replace hG5 := hG5.below hb; replace hC6 := Kd.C_below hC6 hb; replace hG6 := hG6.below hb; clear hb)
        | (go_at_call 18; (with_reducible refine (ints07_same _ _ _ _ _ _ _ hC4 hC8 (by omega)).mono ?_); rintro u w9 ⟨rfl, hb⟩; clear hC8 hG8 hC4; have hB9 := hB8.trans (hb.mono hB8.size); replace hG4 := hG4.below hb; replace hC5 := Kd.C_below hC5 hb; replace hG5 := hG5.below hb; replace hC6 := Kd.C_below hC6 hb; replace hG6 := hG6.below hb; clear hb)
        | (go_at_call 20; (with_reducible refine (ht7 A c _ (Kd.C_below hl (hB3.trans (hB9.mono hB3.size))) HC.out).mono ?_); rintro u w10 ⟨A10, c10, g10, rfl, hC10, hG10, hb⟩; have hB10 := hB9.trans (hb.mono hB9.size); replace hG4 := hG4.below hb; replace hC5 := Kd.C_below hC5 hb; replace hG5 := hG5.below hb; replace hC6 := Kd.C_below hC6 hb; replace hG6 := hG6.below hb; clear hb)
        | (go_at_call 18; (with_reducible refine (ints07_same _ _ _ _ _ _ _ hC5 hC10 (by omega)).mono ?_); rintro u w11 ⟨rfl, hb⟩; clear hC10 hG10 hC5; have hB11 := hB10.trans (hb.mono hB10.size); replace hG4 := hG4.below hb; replace hG5 := hG5.below hb; replace hC6 := Kd.C_below hC6 hb; replace hG6 := hG6.below hb; clear hb)
        | (go_at_call 21; (with_reducible refine (hun7 A c _ (Kd.C_below hl (hB3.trans (hB11.mono hB3.size))) HC.out).mono ?_); rintro u w12 ⟨A12, c12, g12, rfl, hC12, hG12, hb⟩; have hB12 := hB11.trans (hb.mono hB11.size); replace hG4 := hG4.below hb; replace hG5 := hG5.below hb; replace hC6 := Kd.C_below hC6 hb; replace hG6 := hG6.below hb; clear hb)
        | (go_at_call 18; (with_reducible refine (ints07_same _ _ _ _ _ _ _ hC6 hC12 (by omega)).mono ?_); rintro u w13 ⟨rfl, hb⟩; clear hC12 hG12 hC6; have hB13 := hB12.trans (hb.mono hB12.size); replace hG4 := hG4.below hb; replace hG5 := hG5.below hb; replace hG6 := hG6.below hb; clear hb)
        | (go_at_call 22; (with_reducible refine (hfl7 A c _ (Kd.C_below hl (hB3.trans (hB13.mono hB3.size))) HC.out).mono ?_); rintro u w14 ⟨rfl, hb⟩; have hB14 := hB13.trans (hb.mono hB13.size); replace hG4 := hG4.below hb; replace hG5 := hG5.below hb; replace hG6 := hG6.below hb; clear hb))
      have s4 := hB40.size
      have s5 := hB4.size
      have s6 := hB5.size
      have hE := Aside0.mk (And.intro s4 (And.intro s5 s6))
      clear hB40 hB4 hB5 hB6 hB7 hB8 hB9 hB10 hB11 hB12 hB13 ho ht hun hfl ho7 ht7 hun7 hfl7 s4 s5 s6
      generalize wa.heap.size = n4 at *
      generalize w4.heap.size = n5 at *
      generalize w5.heap.size = n6 at *
      generalize w6.heap.size = n7 at *
      go_loopw [13] (fun v13 wq => ∃ i : Nat, i ≤ m ∧ v13 = .int .i64 i ∧ Below w3.heap.size w3 wq ∧ Gd n4 n5 wq A4 g4 m ∧ Gd n5 n6 wq A5 g5 m ∧ Gd n6 n7 wq A6 g6 k) (fun v13 _ => m - (intOf v13).toNat)
      case atStart => exact ⟨0, Nat.zero_le _, rfl, hB14, hG4, hG5, hG6⟩
      case round =>
        clear hB14 hG4 hG5 hG6
        obtain ⟨i, hi, rfl, hB14, hG4, hG5, hG6⟩ := hrel
        by_cases him : i < m
        · have d3 : decide ((i : Int) < (m : Int)) = true := by simp; omega
          have d4 : decide (i < m) = true := by simp; omega
          have i2 : IntKind.i64.wrap ((i : Int) + 1) = (i : Int) + 1 := wrapI _ (by omega) (by omega)
          obtain ⟨rfl, lo4, hi4, R4⟩ := hG4 (by omega)
          obtain ⟨rfl, lo5, hi5, R5⟩ := hG5 (by omega)
          obtain ⟨⟨x4, x4e⟩, f4⟩ := R4.cell him
          obtain ⟨⟨x5, x5e⟩, f5⟩ := (R5.far (p := ⟨g4, i, none⟩) (by show g5 ≠ g4; omega) (.int .i64 (-7))).cell him
          have HZ := Aside0.mk (And.intro (And.intro lo4 hi4) (And.intro lo5 hi5))
          clear R4 R5 lo4 hi4 lo5 hi5
          go_wp2
          have z := HZ.out
          have zz := hE.out
          exact ⟨⟨i + 1, by omega, by go_num, (hB14.setCell (by show w3.heap.size ≤ g4; omega) _).setCell (by show w3.heap.size ≤ g5; omega) _, (hG4.put i _).far (Or.inr (by show n5 ≤ g5; omega)) _, (hG5.far (Or.inl (by show g4 < n5; omega)) _).put i _, (hG6.far (Or.inl (by show g4 < n6; omega)) _).far (Or.inl (by show g5 < n6; omega)) _⟩, by simp [intOf]; omega⟩
        · obtain rfl : m = i := by omega
          have d3 : decide ((m : Int) < (m : Int)) = false := by simp
          have d4 : decide (m < m) = false := by simp
          clear hG4 hG5
          go_wp2
          go_loopw [14] (fun v14 wq => ∃ i : Nat, i ≤ k ∧ v14 = .int .i64 i ∧ Below w3.heap.size w3 wq ∧ Gd n6 n7 wq A6 g6 k) (fun v14 _ => k - (intOf v14).toNat)
          case atStart => exact ⟨0, Nat.zero_le _, rfl, hB14, hG6⟩
          case round =>
            clear hB14 hG6
            obtain ⟨i, hi, rfl, hB14, hG6⟩ := hrel
            by_cases hik : i < k
            · have d5 : decide ((i : Int) < (k : Int)) = true := by simp; omega
              have d6 : decide (i < k) = true := by simp; omega
              have i2 : IntKind.i64.wrap ((i : Int) + 1) = (i : Int) + 1 := wrapI _ (by omega) (by omega)
              obtain ⟨rfl, lo6, hi6, R6⟩ := hG6 (by omega)
              obtain ⟨⟨x6, x6e⟩, f6⟩ := R6.cell hik
              have HZ := Aside0.mk (And.intro lo6 hi6)
              clear R6 lo6 hi6
              go_wp2
              have z := HZ.out
              have zz := hE.out
              exact ⟨⟨i + 1, by omega, by go_num, hB14.setCell (by show w3.heap.size ≤ g6; omega) _, hG6.put i _⟩, by simp [intOf]; omega⟩
            · obtain rfl : k = i := by omega
              have d5 : decide ((k : Int) < (k : Int)) = false := by simp
              have d6 : decide (k < k) = false := by simp
              clear hG6
              go_wp2
              go_loopw [15] (fun v15 wq => ∃ i : Nat, i ≤ m ∧ v15 = .int .i64 i ∧ Below w3.heap.size w3 wq) (fun v15 _ => m - (intOf v15).toNat)
              case atStart => exact ⟨0, Nat.zero_le _, rfl, hB14⟩
              case round =>
                clear hB14
                obtain ⟨i, hi, rfl, hB14⟩ := hrel
                by_cases him2 : i < m
                · have d7 : decide ((i : Int) < (m : Int)) = true := by simp; omega
                  have d8 : decide (i < m) = true := by simp; omega
                  have i2 : IntKind.i64.wrap ((i : Int) + 1) = (i : Int) + 1 := wrapI _ (by omega) (by omega)
                  have q := HQ.out i him2
                  obtain ⟨ib, io, rfl, hz1⟩ := pts_at (Kd.C_below hC3 hB14) (by omega)
                  obtain ⟨ab, ao, rfl, hz2⟩ := pts_at (Kd.C_below hl (hB3.trans (hB14.mono hB3.size))) (by omega)
                  obtain ⟨a0, a1⟩ := hz1 i him2
                  obtain ⟨b0, b1⟩ := hz2 i him2
                  unfold at_ at q
                  generalize rd_T32 l (i : Int) = x at *
                  obtain ⟨q0, q1⟩ := q
                  clear hz1 hz2 hl hC3
                  go_upto_region 31 with (fail)
                  go_quiet (fail)
                  go_wp2
                  exact ⟨⟨i + 1, by omega, by go_num, pw_below_drewN hB14 nq⟩, by simp [intOf]; omega⟩
                · obtain rfl : m = i := by omega
                  have d7 : decide ((m : Int) < (m : Int)) = false := by simp
                  have d8 : decide (m < m) = false := by simp
                  go_wp2
                  exact ⟨⟨r + 1, by omega, by go_num, hB14⟩, by simp [intOf]; omega⟩
    · obtain rfl : r = 2 := by omega
      go_wp2
      go_ret
      exact ⟨rfl, hB3.trans (hB40.mono hB3.size)⟩
theorem admitLists_law (A : Option Addr) (c : Nat) (l : List S) (w : World) (hl : Kd.C k32 w A l.length l) (hc : l.length ≤ c) (hw : Wd l) :
    Calls Tryz.prog 3 #[.slice A l.length c] w fun e w' => e = .returned (.bool true) ∧ Below w.heap.size w w' := by
  by_cases h1 : 60 < l.length
  · exact lists_long A c l w h1
  · by_cases h0 : (allF l).2 = 0
    · exact lists_good A c l w hl hc hw (by omega) h0
    · exact lists_bad A c l w hl hc hw (by omega) h0
end Go.Proofs.YtioahkblhekgpaaGreatDoor.Nw
